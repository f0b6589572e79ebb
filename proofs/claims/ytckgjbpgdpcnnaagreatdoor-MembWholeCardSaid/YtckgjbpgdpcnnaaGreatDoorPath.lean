/-
  THE CONTRACTS of ppath.Parts, ppath.May.
-/
import Derived.Test.YtckgjbpgdpcnnaaGreatDoorRnh
import Derived.Test.YtckgjbpgdpcnnaaGreatDoorPname
import Derived.Maps.AppendAt
import Derived.Maps.OwnIn
namespace Go.Proofs.YtckgjbpgdpcnnaaGreatDoor
set_option linter.all false
set_option linter.unusedVariables false
set_option linter.unusedSimpArgs false
open Go.RowKit Pl Go.Shelf
attribute [local go_sem] st_toList st_size Oper.semAt_some

theorem info9 : (Tryz.prog.info? 9).map (fun i => (i.zero, i.size, i.bytes)) = some (some (.string { data := #[] }), 1, 16) := by kernel_rfl
/-- The cells of texts. -/
def scs (l : List Bs) : List Value := l.map fun p => Value.string (st p)
theorem cuts_len (l : Bs) : (cuts l).length ≤ l.length + 1 := by
  induction l with
  | nil => simp [cuts]
  | cons a l ih =>
    unfold cuts
    split
    · simp; omega
    · cases h : cuts l with
      | nil => simp
      | cons p r => rw [h] at ih; simp at ih ⊢; omega
theorem cuts_pos (l : Bs) : 0 < (cuts l).length := by
  cases l with
  | nil => simp [cuts]
  | cons a l =>
    unfold cuts
    split
    · simp
    · split <;> simp
theorem cuts_each (l : Bs) : ∀ p ∈ cuts l, p.length ≤ l.length := by
  induction l with
  | nil => intro p hp; simp [cuts] at hp; simp [hp]
  | cons a l ih =>
    intro p hp
    unfold cuts at hp
    split at hp
    · rcases List.mem_cons.1 hp with rfl | hp
      · simp
      · have := ih p hp; simp; omega
    · cases h : cuts l with
      | nil => rw [h] at hp; simp at hp; simp [hp]
      | cons q r =>
        rw [h] at hp
        rcases List.mem_cons.1 hp with rfl | hp
        · have := ih q (by rw [h]; simp); simp; omega
        · have := ih p (by rw [h]; simp [hp]); simp; omega
theorem cuts_bounds (t : Bs) (pre : List Bs) (x : Bs) (ht : t.length ≤ 300) (h : pre ++ [x] <+: cuts t) : x.length < 4294967281 ∧ pre.length ≤ 300 := by
  have h1 := cuts_each t x (h.subset (by simp))
  have h2 := h.length_le
  have h3 := cuts_len t
  rw [List.length_append, List.length_singleton] at h2
  exact ⟨by omega, by omega⟩
theorem keepsOthers_below {W W' : World} (hb : Below W.heap.size W W') : KeepsOthers W W' := ⟨hb.size, fun k o hk _ => (hb.block k (Array.getElem?_eq_some_iff.1 hk).1).trans hk⟩
theorem kp3_below {W W' : World} {m : Nat} (hb : Below W.heap.size W W') (h : m + 3 ≤ W.heap.size) : Kp3 m W W' := fun b _ h2 => hb.block b (by omega)
theorem below_put {H : Nat} (W : World) (l : Nat) (o' : Obj) (h : H ≤ l) : Below H W (W.putObj l o') := ⟨rfl, rfl, rfl, by simp [World.putObj], fun k hk => World.putObj_heap_other (by omega)⟩
/-- The invariant: the texts so far lie in l's row; the results' cells are as they were. -/
structure PI (w W : World) (pre : List Bs) : Prop where
  l : ∃ v, Boxed W (w.heap.size + 1 + 1) 135 v ∧ W.ownsRow (w.heap.size + 6) 9 1 v pre.length (scs pre)
  a : Boxed W w.heap.size 135 (.slice none 0 0)
  e : Boxed W (w.heap.size + 1) 39 (.int .i64 0)
  n : pre.all isName = true
  b : Below w.heap.size w W
  z : w.heap.size + 6 ≤ W.heap.size
structure PX (w W : World) (pre : List Bs) : Prop where
  a : Boxed W w.heap.size 135 (.slice none 0 0)
  e : Boxed W (w.heap.size + 1) 39 (.int .i64 8)
  n : pre.all isName = false
  b : Below w.heap.size w W
theorem boxed_own2 {W W' : World} {B : Nat} {t : TypeId} {v : Value} {row : Option Nat} (h : Boxed W B t v) (hg : W.grownBy W' row) (hr : ∀ r, row = some r → ∃ o : Obj, W.heap[r]? = some o ∧ o.isCells = false) : Boxed W' B t v :=
  h.kept hg (fun e => by obtain ⟨o, ho, hc⟩ := hr B e.symm; rw [show W.heap[B]? = _ from h] at ho; cases ho; cases hc)
theorem pi_own (w : World) (n : Nat) (hn : w.heap.size ≤ n) : OwnFrom n (fun pre W => PI w W pre) := fun s W W' row h hg hr => by
  have hr2 : ∀ r, row = some r → ∃ o : Obj, W.heap[r]? = some o ∧ o.isCells = false := fun r e => (hr r e).2
  obtain ⟨v, h1, h2⟩ := h.l
  obtain ⟨v', h1', h2', _⟩ := holdsRow_own (β := List Bs) (w.heap.size + 6) (w.heap.size + 1 + 1) 135 9 1 (fun pre => pre.length) (fun pre => scs pre) (fun _ _ => True) s W W' row ⟨v, h1, h2, trivial⟩ hg hr2
  exact ⟨⟨v', h1', h2'⟩, boxed_own2 h.a hg hr2, boxed_own2 h.e hg hr2, h.n, ownFrom_below (Nat.le_refl _) hn s W W' row h.b hg hr, Nat.le_trans h.z hg.size⟩
theorem px_own (w : World) (n : Nat) (hn : w.heap.size ≤ n) : OwnFrom n (fun pre W => PX w W pre) := fun s W W' row h hg hr => by
  have hr2 : ∀ r, row = some r → ∃ o : Obj, W.heap[r]? = some o ∧ o.isCells = false := fun r e => (hr r e).2
  exact ⟨boxed_own2 h.a hg hr2, boxed_own2 h.e hg hr2, h.n, ownFrom_below (Nat.le_refl _) hn s W W' row h.b hg hr⟩
theorem pi_set (w : World) (s : List Bs) (W : World) (v : Value) (h : PI w W s) : PI w (W.setCell ⟨w.heap.size + 1 + 1 + 1, 0, none⟩ v) s := by
  obtain ⟨u, h1, h2⟩ := h.l
  exact ⟨⟨u, h1.other (by omega) v, own_set_other (p := ⟨w.heap.size + 1 + 1 + 1, 0, none⟩) h2 (by dsimp only; omega) v⟩, h.a.other (by omega) v, h.e.other (by omega) v, h.n, h.b.setCell (by dsimp only; omega) v, by simpa [World.setCell] using h.z⟩
theorem pi_below (w : World) (s : List Bs) (W W' : World) (h : PI w W s) (hb : Below W.heap.size W W') : PI w W' s := by
  obtain ⟨u, h1, h2⟩ := h.l
  refine ⟨⟨u, (hb.block _ h1.lt).trans h1, ⟨h2.1, ?_⟩⟩, (hb.block _ h.a.lt).trans h.a, (hb.block _ h.e.lt).trans h.e, h.n, h.b.trans (hb.mono h.b.size), Nat.le_trans h.z hb.size⟩
  rcases h2.2 with h2 | ⟨g, cap, cur, e1, e2, e3, e4⟩
  · exact .inl h2
  · exact .inr ⟨g, cap, cur, e1, e2, (hb.block _ (Array.getElem?_eq_some_iff.1 e3).1).trans e3, e4⟩
theorem px_new (w W : World) (pre : List Bs) (x : Bs) (h : PI w W pre) (hx : isName x = false) : PX w ((W.setCell ⟨w.heap.size, 0, none⟩ (.slice none 0 0)).setCell ⟨w.heap.size + 1, 0, none⟩ (.int .i64 8)) (pre ++ [x]) :=
  ⟨(h.a.set _).other (by omega) _, (h.e.other (by omega) _).set _, by simp [hx], (h.b.setCell (Nat.le_refl _) _).setCell (by dsimp only; omega) _⟩
theorem pi_app (w W w1 : World) (pre : List Bs) (x : Bs) (v v' : Value) (tmp : Obj) (h : PI w W pre) (hx : isName x = true) (hv : Boxed W (w.heap.size + 1 + 1) 135 v) (hrow : W.ownsRow (w.heap.size + 6) 9 1 v pre.length (scs pre))
    (hown' : w1.ownsRow (w.heap.size + 6) 9 1 v' (pre.length + 1) (scs pre ++ [.string (st x)])) (hgrow : (W.alloc tmp).grownBy w1 v.ownBlock) :
    Boxed w1 (w.heap.size + 1 + 1) 135 v ∧ PI w (w1.setCell ⟨w.heap.size + 1 + 1, 0, none⟩ v') (pre ++ [x]) ∧ KeepsOthers W (w1.setCell ⟨w.heap.size + 1 + 1, 0, none⟩ v') ∧ Kp3 (w.heap.size + 1 + 1 + 1) W (w1.setCell ⟨w.heap.size + 1 + 1, 0, none⟩ v') ∧ Below w.heap.size W (w1.setCell ⟨w.heap.size + 1 + 1, 0, none⟩ v') := by
  have hob : ∀ k, v.ownBlock = some k → w.heap.size + 6 ≤ k := fun k hk => own_base hrow k hk
  have hne : ∀ k, k < w.heap.size + 6 → some k ≠ v.ownBlock := fun k hk e => by have := hob k e.symm; omega
  have keep : ∀ {B : Nat} {t : TypeId} {u : Value}, Boxed W B t u → B < w.heap.size + 6 → Boxed w1 B t u := fun hB hlt => (hB.alloc tmp).kept hgrow (hne _ hlt)
  have hv1 := keep hv (by omega)
  have hz := h.z
  have hB : Below w.heap.size W (w1.setCell ⟨w.heap.size + 1 + 1, 0, none⟩ v') := (((Below.refl _ W).alloc (by omega) tmp).grown hgrow (by simp; omega) fun j ej => by have := hob j ej; omega).setCell (p := ⟨w.heap.size + 1 + 1, 0, none⟩) (by dsimp only; omega) v'
  refine ⟨hv1, ⟨⟨v', hv1.set v', ?_⟩, (keep h.a (by omega)).other (by omega) _, (keep h.e (by omega)).other (by omega) _, by simp [h.n, hx], h.b.trans hB, Nat.le_trans h.z hB.size⟩, ?_, ?_, hB⟩
  · have e : scs (pre ++ [x]) = scs pre ++ [.string (st x)] := by simp [scs]
    rw [e, List.length_append, List.length_singleton]
    exact own_set_other (p := ⟨w.heap.size + 1 + 1, 0, none⟩) hown' (by dsimp only; omega) v'
  · refine ((KeepsOthers.alloc W tmp).trans (KeepsOthers.of_grownBy hgrow fun j o ej hj => ?_)).trans (KeepsOthers.setCell _ _ _)
    rcases (hrow.alloc tmp).2 with ⟨rfl, _⟩ | ⟨g, cap, cur, rfl, _, hgb, _⟩
    · simp [Value.ownBlock] at ej
    · obtain rfl : g = j := by simpa [Value.ownBlock] using ej
      rw [hgb] at hj; cases hj; rfl
  · intro b h1 h2
    have e1 : (W.alloc tmp).heap[b]? = W.heap[b]? := Below.heap_alloc W tmp b (by omega)
    have e2 : w1.heap[b]? = (W.alloc tmp).heap[b]? := hgrow.block b (by simp; omega) (hne b (by omega))
    exact (Below.heap_setCell w1 ⟨w.heap.size + 1 + 1, 0, none⟩ v' b (by dsimp only; omega)).trans (e2.trans e1)
set_option maxRecDepth 100000 in
set_option maxHeartbeats 2000000 in
theorem parts_x (t : Bs) (w : World) (ht : t.length ≤ 300) (hg : Glob w) :
    CallsIn Fence.wide 3 Tryz.prog 117 #[.string (st t)] w fun e w' => ∃ v, e = .returned (.tuple #[v, .int .i64 (if (cuts t).all isName = true then 0 else 8)]) ∧ Below w.heap.size w w' := by
  obtain ⟨i0, hi, hz0, hz1, hz2⟩ := info_parts info9
  obtain ⟨E, hE⟩ : ∃ E : Int, (if (cuts t).all isName = true then 0 else 8) = E := ⟨_, rfl⟩
  rw [hE]
  have HE := Lib.hid hE
  clear hE
  refine callsIn_of_wp_marks Tryz.func117 rfl trivial ?_ rfl
  simp only [Tryz.ntmps117, List.size_toArray, List.length_cons, List.length_nil, Nat.reduceAdd, Nat.reduceSub, Array.replicate_succ, Array.replicate_zero, List.push_toArray, List.append_toArray, List.nil_append, List.cons_append]
  gi_wp2_with (refine ⟨trivial, ?_⟩; gi_at_call 150; refine (callsIn_wide.2 (split_seq t _)).mono ?_; rintro e w1 ⟨rfl, hb3, hbw, hsz⟩)
  obtain ⟨w0, hw0⟩ : ∃ W, ((w.alloc (.cells #[.slice none 0 0] 135)).alloc (.cells #[.int .i64 0] 39)).alloc (.cells #[.slice none 0 0] 135) = W := ⟨_, rfl⟩
  have hs0 : w0.heap.size = w.heap.size + 1 + 1 + 1 := by rw [← hw0]; simp
  rw [hw0] at hb3 hbw hsz
  rw [hs0] at hb3 hbw hsz
  have hw0B : Below w.heap.size w w0 := by rw [← hw0]; exact (((Below.refl _ w).alloc (Nat.le_refl _) _).alloc (by simp) _).alloc (by simp; omega) _
  have ha0 : Boxed w0 w.heap.size 135 (.slice none 0 0) := by rw [← hw0]; exact ((Boxed.new w _ _).alloc _).alloc _
  have he0 : Boxed w0 (w.heap.size + 1) 39 (.int .i64 0) := by
    rw [← hw0]
    have := Boxed.new (w.alloc (.cells #[.slice none 0 0] 135)) 39 (.int .i64 0)
    rw [World.size_alloc] at this
    exact this.alloc _
  have hl0 : Boxed w0 (w.heap.size + 1 + 1) 135 (.slice none 0 0) := by
    rw [← hw0]
    have := Boxed.new ((w.alloc (.cells #[.slice none 0 0] 135)).alloc (.cells #[.int .i64 0] 39)) 135 (.slice none 0 0)
    rw [World.size_alloc, World.size_alloc] at this
    exact this
  have hI0 : PI w w1 [] := ⟨⟨.slice none 0 0, (hbw.block _ (by omega)).trans hl0, World.ownsRow_nil _ _ _ _⟩, (hbw.block _ (by omega)).trans ha0, (hbw.block _ (by omega)).trans he0, rfl, hw0B.trans (hbw.mono (by omega)), by omega⟩
  have hB1 := hI0.b
  refine rangeFunc_st rfl (by omega) (gf := 201) (lb := #[.pointer (some ⟨w.heap.size + 1 + 1 + 1 + 1, 0, none⟩), .pointer (some ⟨w.heap.size + 1 + 1 + 1, 0, none⟩), .pointer (some ⟨w.heap.size + 1 + 1 + 1 + 2, 0, none⟩)]) rfl trivial (enters_of Tryz.func201 (by kernel_rfl) rfl)
    (split_stops 2 (by omega) (w.heap.size + 1 + 1 + 1) t (by omega) w w1 hg (by omega) hB1 hb3) (by omega) (fun h k => ⟨h.1.trans k.1, h.2.trans k.2⟩)
    (fun W l o' hl => ⟨fun b h1 h2 => World.putObj_heap_other (by omega), below_put W l o' (by omega)⟩) (fun _ => rfl)
    (fun pre W => PI w W pre) (fun pre W => PX w W pre) (pi_own w _ (by omega)) (px_own w _ (by omega)) (fun s W v h => pi_set w s W v h) hI0
    (fun x => { tmps := #[.string (st t), undef, .pointer (some ⟨w.heap.size, 0, none⟩), .pointer (some ⟨w.heap.size + 1, 0, none⟩), .pointer (some ⟨w.heap.size + 1 + 1, 0, none⟩), .string (st x), .string (st t), .int .i64 (t.length : Int), .bool (decide (300 < (t.length : Int))), .string (st t), .func (.func 201) #[] #[.pointer (some ⟨w.heap.size + 1 + 1 + 1 + 1, 0, none⟩), .pointer (some ⟨w.heap.size + 1 + 1 + 1, 0, none⟩), .pointer (some ⟨w.heap.size + 1 + 1 + 1 + 2, 0, none⟩)], .string (st x), undef, undef, undef, undef, undef, undef, undef, undef], defers := [] }) ?assign ?body ?done ?stop
  case assign =>
    intro l x W K hK
    gi_wp2
    exact hK
  case body =>
    rintro l pre x W hI hlen
    obtain ⟨hxl, hpl⟩ := cuts_bounds t pre x ht hlen
    have HI := Lib.hid hI
    have hz := hI.z
    have hN := fun W' => ppath_Name x W' hxl
    cases hx : isName x with
    | false =>
      rw [hx] at hN
      have HN := Lib.hid hN
      have HX := Lib.hid hx
      clear hN hx hI
      gi_wp2_with (refine ⟨trivial, ?_⟩; gi_at_call 151; refine (CallsIn.inRound l (callsIn_wide.2 (HN.out _))).mono ?_; rintro e W2 ⟨rfl, hb2⟩; have h2 := pi_below w pre W W2 HI.out hb2; have H2 := Lib.hid h2; have HB2 := Lib.hid hb2; have ca := h2.a.cell; have fa := h2.a.frozen; have ce := h2.e.cell; have fe := h2.e.frozen; clear h2 hb2)
      exact ⟨((keepsOthers_below HB2.out).trans (KeepsOthers.setCell _ _ _)).trans (KeepsOthers.setCell _ _ _), rfl, px_new w W2 pre x H2.out HX.out⟩
    | true =>
      rw [hx] at hN
      have HN := Lib.hid hN
      have HX := Lib.hid hx
      clear hN hx hI
      gi_wp2_with (first | (refine ⟨trivial, ?_⟩; gi_at_call 151; refine (CallsIn.inRound l (callsIn_wide.2 (HN.out _))).mono ?_; rintro e W2 ⟨rfl, hb2⟩; have h2 := pi_below w pre W W2 HI.out hb2; have H2 := Lib.hid h2; have HB2 := Lib.hid hb2; obtain ⟨v, hv, hrow⟩ := h2.l; have cv := hv.cell; have fv := hv.frozen; have HV := Lib.hid hv; have HR := Lib.hid hrow; have hsz2 := h2.z; clear h2 hb2 hv hrow) | (gi_at_builtin; go_loud (refine wpListIn_append_own _ rfl _ _ 135 rfl (w.heap.size + 6) 9 i0 (.string { data := #[] }) 1 16 Tryz.underlying135 hi hz0 hz1 hz2 rfl (by decide) _ _ _ rfl (HR.out.alloc _) ⟨W2.heap.size, 0, none⟩ 1 1 [.string (st x)] rfl rfl (cell_one_new _ _ _) (by simp [Value.oneCell']) (by unfold maxLen; omega) (by omega) (by simp; omega) ?_; intro v' w2 hown' hgrow _; obtain ⟨g', cap', rfl⟩ := ownsRow_succ hown'; obtain ⟨q1, q2, q3, q4, q5⟩ := pi_app w W2 w2 pre x v _ _ H2.out HX.out HV.out HR.out hown' hgrow; have cq := q1.cell; have fq := q1.frozen; have Q2 := Lib.hid q2; have Q3 := Lib.hid q3; have Q4 := Lib.hid q4; have Q5 := Lib.hid q5; clear q1 q2 q3 q4 q5 hown' hgrow)))
      exact ⟨(keepsOthers_below HB2.out).trans Q3.out, ⟨(kp3_below HB2.out (by omega)).trans Q4.out, (HB2.out.mono (by omega)).trans Q5.out⟩, Q2.out⟩
  case done =>
    rintro D ys W hD rfl hI hK
    have ha := hI.a.cell
    have fa := hI.a.frozen
    have he := hI.e.cell
    have fe := hI.e.frozen
    obtain ⟨v, hv, hrow⟩ := hI.l
    obtain ⟨g, cap, rfl, _⟩ := hrow.form (cuts_pos t)
    have cv := hv.cell
    have HI := Lib.hid hI
    have HK := Lib.hid hK
    have HR := Lib.hid hrow
    have hall : (cuts t).all isName = true := hI.n
    have hE := HE.out
    rw [if_pos hall] at hE
    have HE0 := Lib.hid hE
    clear hE hI hv hrow hK hall
    gi_wp2
    have hB2 := (HI.out.b.setCell (p := ⟨w.heap.size, 0, none⟩) (Nat.le_refl _) (.slice (some ⟨g, 0, none⟩) (cuts t).length cap)).setCell (p := ⟨w.heap.size + 1, 0, none⟩) (by dsimp only; omega) (.int .i64 0)
    have hK2 := ((KeepsOthers.setCell W ⟨w.heap.size, 0, none⟩ (.slice (some ⟨g, 0, none⟩) (cuts t).length cap)).trans (KeepsOthers.setCell _ ⟨w.heap.size + 1, 0, none⟩ (.int .i64 0))).same D _ HK.out rfl
    refine ⟨by simp, .inl ⟨_, _, rfl, run_takeDeferred hK2, ?_⟩⟩
    have c2 := (boxed_own2 ((HI.out.a.set (.slice (some ⟨g, 0, none⟩) (cuts t).length cap)).other (B' := w.heap.size + 1) (by omega) (.int .i64 0)) (grownBy_putObj' _ D (.deferred none)) (fun r e => by cases e; exact ⟨_, hK2, rfl⟩)).cell
    have c3 := (boxed_own2 ((HI.out.e.other (B' := w.heap.size) (by omega) (.slice (some ⟨g, 0, none⟩) (cuts t).length cap)).set (.int .i64 0)) (grownBy_putObj' _ D (.deferred none)) (fun r e => by cases e; exact ⟨_, hK2, rfl⟩)).cell
    refine ⟨.tuple #[.slice (some ⟨g, 0, none⟩) (cuts t).length cap, .int .i64 0], ?_, ⟨_, by rw [← HE0.out], hB2.trans (below_put _ D _ (by omega))⟩⟩
    simp [results, Tryz.results117, go_sem, c2, c3]
  case stop =>
    rintro D pre W hD hpre hX hK
    have ha := hX.a.cell
    have he := hX.e.cell
    have hall : ¬ (cuts t).all isName = true := by
      intro h
      have h2 := List.all_eq_true.1 h
      have h3 : pre.all isName = true := List.all_eq_true.2 fun p hp => h2 p (hpre.subset hp)
      rw [hX.n] at h3
      cases h3
    have hE := HE.out
    rw [if_neg hall] at hE
    have HE0 := Lib.hid hE
    clear hE
    have HX := Lib.hid hX
    clear hall hX
    gi_wp2
    refine ⟨by simp, .inl ⟨_, _, rfl, run_takeDeferred hK, ?_⟩⟩
    have c2 := cell_kept ha (grownBy_putObj' _ D (.deferred none)) (fun r e => by cases e; exact ⟨_, hK, rfl⟩)
    have c3 := cell_kept he (grownBy_putObj' _ D (.deferred none)) (fun r e => by cases e; exact ⟨_, hK, rfl⟩)
    refine ⟨.tuple #[.slice none 0 0, .int .i64 8], ?_, ⟨_, by rw [← HE0.out], HX.out.b.trans (below_put W D _ (by omega))⟩⟩
    simp [results, Tryz.results117, go_sem, c2, c3]
set_option maxRecDepth 100000 in
set_option maxHeartbeats 1000000 in
theorem parts_long (t : Bs) (w : World) (ht : ¬ t.length ≤ 300) :
    Calls Tryz.prog 117 #[.string (st t)] w fun e w' => ∃ v, e = .returned (.tuple #[v, .int .i64 8]) ∧ Below w.heap.size w w' := by
  have h3 : (300 : Int) < (t.length : Int) := by omega
  clear ht
  go_enter Tryz.func117, Tryz.ntmps117
  go_wp2
  refine bodyPost_ret (v := .tuple #[.slice none 0 0, .int .i64 8]) (by simp [results, Tryz.results117, go_sem]) rfl ?_
  exact ⟨_, rfl, by go_grown⟩
theorem ppath_Parts (t : Bs) (w : World) (hg : Glob w) :
    Calls Tryz.prog 117 #[.string (st t)] w fun e w' => ∃ v, e = .returned (.tuple #[v, .int .i64 (if isPath t = true then 0 else 8)]) ∧ Below w.heap.size w w' := by
  by_cases h : t.length ≤ 300
  · have e : isPath t = (cuts t).all isName := by unfold isPath; rw [decide_eq_true h]; simp
    rw [e]
    exact callsIn_wide.1 (parts_x t w h hg)
  · have e : isPath t = false := by unfold isPath; rw [decide_eq_false h]; simp
    rw [e]
    exact parts_long t w h
set_option maxRecDepth 100000 in
set_option maxHeartbeats 1000000 in
theorem ppath_May (t : Bs) (w : World) (hg : Glob w) :
    Calls Tryz.prog 86 #[.string (st t)] w fun e w' => e = .returned (.bool (isPath t)) ∧ Below w.heap.size w w' := by
  have hP := ppath_Parts t w hg
  cases h : isPath t with
  | true =>
    rw [h] at hP
    have HP := Lib.hid hP
    clear hP h
    go_enter Tryz.func86, Tryz.ntmps86
    go_wp2_with (go_at_call 117; refine HP.out.mono ?_; rintro e w' ⟨v, rfl, hb⟩; have HB := Lib.hid hb; clear hb)
    go_ret
    exact ⟨rfl, HB.out⟩
  | false =>
    rw [h] at hP
    have HP := Lib.hid hP
    clear hP h
    go_enter Tryz.func86, Tryz.ntmps86
    go_wp2_with (go_at_call 117; refine HP.out.mono ?_; rintro e w' ⟨v, rfl, hb⟩; have HB := Lib.hid hb; clear hb)
    go_ret
    exact ⟨rfl, HB.out⟩
end Go.Proofs.YtckgjbpgdpcnnaaGreatDoor
