/-
  THE CONTRACT of recs.Find: slices.Backward over records.
-/
import Derived.Test.YtckgjbpgdpcnnaaGreatDoorPath
namespace Go.Proofs.YtckgjbpgdpcnnaaGreatDoor
set_option linter.all false
set_option linter.unusedVariables false
set_option linter.unusedSimpArgs false
open Go.RowKit Pl Go.Shelf
attribute [local go_sem] st_toList st_size Oper.semAt_some

/-- At the address A these cells lie. -/
def RdV (w : World) (A : Option Addr) (cs : List Value) : Prop := 0 < cs.length → ∃ b o, A = some ⟨b, o, none⟩ ∧ ∀ j v, cs[j]? = some v → w.cell? ⟨b, o + j, none⟩ = some v
theorem RdV.nil (w : World) (A : Option Addr) : RdV w A [] := fun h => absurd h (by simp)
theorem RdV.below {w w1 : World} {A : Option Addr} {cs : List Value} (h : RdV w A cs) (hb : Below w.heap.size w w1) : RdV w1 A cs := fun hn => by
  obtain ⟨b, o, e, hc⟩ := h hn
  exact ⟨b, o, e, fun j v hv => (hb.cell (World.block_lt_of_cell? w _ (hc j v hv))).trans (hc j v hv)⟩
theorem RdV.lt {w : World} {b o : Nat} {cs : List Value} (h : RdV w (some ⟨b, o, none⟩) cs) (hn : 0 < cs.length) : b < w.heap.size := by
  obtain ⟨b', o', e, hc⟩ := h hn
  injection e with e
  injection e with e1 e2
  subst e1
  have := hc 0 (cs[0]) (List.getElem?_eq_getElem hn)
  exact World.block_lt_of_cell? w _ this
/-- The cells of records. -/
def rc1 (r : Rec) : List Value := [.string (st r.key), .string (st r.val)]
def rcs (l : List Rec) : List Value := l.flatMap rc1
theorem rcs_length (l : List Rec) : (rcs l).length = l.length * 2 := by
  induction l with
  | nil => rfl
  | cons a l ih => simp only [rcs, List.flatMap_cons, List.length_append] at ih ⊢; rw [ih]; simp [rc1]; omega
theorem rcs_at (l : List Rec) (i : Nat) (r : Rec) (h : l[i]? = some r) : (rcs l)[i * 2]? = some (.string (st r.key)) ∧ (rcs l)[i * 2 + 1]? = some (.string (st r.val)) := by
  induction l generalizing i with
  | nil => simp at h
  | cons a l ih =>
    have e : rcs (a :: l) = .string (st a.key) :: .string (st a.val) :: rcs l := rfl
    rw [e]
    cases i with
    | zero =>
      have : a = r := by simpa using h
      subst this
      exact ⟨rfl, rfl⟩
    | succ i =>
      have := ih i (by simpa using h)
      rw [show (i + 1) * 2 = i * 2 + 1 + 1 from by omega]
      exact this
def bk (l : List Rec) : List (Nat × Rec) := (List.range l.length).reverse.map fun i => (i, l.getD i noRec)
theorem bk_len (l : List Rec) : (bk l).length = l.length := by simp [bk]
theorem bk_take (l : List Rec) (j : Nat) (h : j < l.length) : (bk l).take (l.length - j) = (bk l).take (l.length - (j + 1)) ++ [(j, l.getD j noRec)] := by
  have h1 : l.length - j = (l.length - (j + 1)) + 1 := by omega
  rw [h1, List.take_succ_eq_append_getElem (by rw [bk_len]; omega)]
  congr 2
  simp [bk]
  have : l.length - 1 - (l.length - (j + 1)) = j := by omega
  rw [this]
  simp
set_option maxRecDepth 100000 in
set_option maxHeartbeats 2000000 in
theorem back1_in (N : Nat) (hN : 1 ≤ N) (y : Nat) (Bn c : Nat) (A : Option Addr) (l : List Rec) (w1 : World) (hl : l.length ≤ 4611686018427387904) (J Jx : List (Nat × Rec) → World → Prop)
    (hY : ∀ pre x W, J pre W → pre.length < l.length → YieldAt Fence.wide (N - 1) Tryz.prog y #[.int .i64 (x.1 : Int), .agg #[.string (st x.2.key), .string (st x.2.val)]] W fun e W' =>
      (e = .returned (.bool true) ∧ J (pre ++ [x]) W' ∧ Below w1.heap.size W W') ∨ (e = .returned (.bool false) ∧ Jx (pre ++ [x]) W'))
    (W : World) (hBn : w1.cell? ⟨Bn, 0, none⟩ = some (.slice A l.length c)) (hc : RdV w1 A (rcs l)) (hW : Below w1.heap.size w1 W) (h0 : J [] W) :
    CallsIn Fence.wide N Tryz.prog 116 #[.func (.yield y) #[] #[], .pointer (some ⟨Bn, 0, none⟩)] W fun e W' => (∃ v, e = .returned v) ∧
      ((∃ ys, ys = bk l ∧ J ys W') ∨ (∃ pre, pre <+: bk l ∧ Jx pre W')) := by
  have HC := Lib.hid hc
  have HW := Lib.hid hW
  have hBl := World.block_lt_of_cell? w1 _ hBn
  have hbn0 := (hW.cell (p := ⟨Bn, 0, none⟩) hBl).trans hBn
  have HBN := Lib.hid hBn
  clear hc hW hBn
  refine callsIn_of_wp Tryz.func116 rfl trivial ?_ rfl
  simp only [Tryz.ntmps116, List.size_toArray, List.length_cons, List.length_nil, Nat.reduceAdd, Nat.reduceSub, Array.replicate_succ, Array.replicate_zero, List.push_toArray, List.append_toArray, List.nil_append, List.cons_append]
  gi_wp2
  clear hbn0
  gi_loopw [3] (fun i wr => ∃ j : Nat, j ≤ l.length ∧ i = .int .i64 ((j : Int) - 1) ∧ J ((bk l).take (l.length - j)) wr ∧ Below w1.heap.size w1 wr) (fun i _ => (intOf i + 1).toNat)
  case atStart => exact ⟨l.length, Nat.le_refl _, rfl, by rw [Nat.sub_self]; exact h0, HW.out⟩
  case round =>
    obtain ⟨j, hj, rfl, hJs, hnx⟩ := hrel
    have HJ := Lib.hid hJs
    have HX := Lib.hid hnx
    have hbn := (hnx.cell (p := ⟨Bn, 0, none⟩) hBl).trans HBN.out
    clear hJs hnx
    cases j with
    | zero =>
      gi_wp2
      go_end0
      exact ⟨⟨_, rfl⟩, .inl ⟨_, rfl, by have := HJ.out; rw [Nat.sub_zero, List.take_of_length_le (by rw [bk_len]; exact Nat.le_refl _)] at this; exact this⟩⟩
    | succ j =>
      obtain ⟨r, hr⟩ : ∃ r, l[j]? = some r := ⟨l[j]'(by omega), List.getElem?_eq_getElem (by omega)⟩
      obtain ⟨r1, r2⟩ := rcs_at l j r hr
      obtain ⟨b, o, rfl, hcell⟩ := HC.out (by rw [rcs_length]; omega)
      have e1 := hcell _ _ r1
      have e2 := hcell _ _ r2
      have d1 := (HX.out.cell (p := ⟨b, o + j * 2, none⟩) (World.block_lt_of_cell? w1 _ e1)).trans e1
      have d2 := (HX.out.cell (p := ⟨b, o + (j * 2 + 1), none⟩) (World.block_lt_of_cell? w1 _ e2)).trans e2
      rw [← Nat.add_assoc] at d2
      have hq : l.getD j noRec = r := by rw [List.getD_eq_getElem?_getD, hr]; rfl
      have ht := bk_take l j (by omega)
      rw [hq] at ht
      have HT := Lib.hid ht
      clear r1 r2 hr e1 e2 hcell hq ht
      obtain ⟨fn, tmps, assign, body, hy, hR⟩ := hY ((bk l).take (l.length - (j + 1))) (j, r) wr HJ.out (by rw [List.length_take, bk_len]; omega)
      dsimp only at hy
      gi_wp2
      refine hR.mono ?_
      rintro e W3 (⟨rfl, hJ3, hk3⟩ | ⟨rfl, hJx3⟩)
      · gi_wp2
        go_roundw
        case rel => exact ⟨j, by omega, by go_num, by rw [HT.out]; exact hJ3, HX.out.trans hk3⟩
        case measure => simp [intOf]
      · gi_wp2
        refine bodyPost_ret (results_none rfl _ _ _) rfl ?_
        exact ⟨⟨_, rfl⟩, .inr ⟨_, by rw [← HT.out]; exact List.take_prefix _ _, hJx3⟩⟩
theorem back_stops (N : Nat) (hN : 1 ≤ N) (Bn c : Nat) (A : Option Addr) (l : List Rec) (w1 : World) (hl : l.length ≤ 4611686018427387904) (hBn : w1.cell? ⟨Bn, 0, none⟩ = some (.slice A l.length c)) (hc : RdV w1 A (rcs l)) :
    SeqStopsK Fence.wide N Tryz.prog 116 #[.pointer (some ⟨Bn, 0, none⟩)] (fun x : Nat × Rec => #[.int .i64 (x.1 : Int), .agg #[.string (st x.2.key), .string (st x.2.val)]]) (Below w1.heap.size) (fun ys => ys = bk l) (fun pre => pre <+: bk l) l.length w1 :=
  fun y J Jx W hW _ _ hY h0 => back1_in N hN y Bn c A l w1 hl J Jx hY W hBn hc hW h0
theorem backward (v : Value) (w : World) (hv : ∃ A n c, v = .slice A n c) : Calls Tryz.prog 85 #[v] w fun e w' => e = .returned (.func (.func 116) #[] #[.pointer (some ⟨w.heap.size, 0, none⟩)]) ∧ w' = w.alloc (.cells #[v] 32) := by
  obtain ⟨A, n, c, rfl⟩ := hv
  go_enter Tryz.func85, Tryz.ntmps85
  go_wp2
  go_ret
  exact ⟨rfl, rfl⟩
theorem rFind_bk (l : List Rec) (key : Bs) : rFind l key = ((bk l).find? fun x => x.2.key == key).map (·.2.val) := by
  have e : l.reverse = (bk l).map (·.2) := by
    apply List.ext_getElem
    · simp [bk]
    · intro i h1 h2
      simp [bk]
      rw [List.getElem?_eq_getElem (by simp at h1; omega)]
      rfl
  unfold rFind
  rw [e, List.find?_map, Option.map_map]
  rfl
/-- Two cells of a block. -/
def Cl2 (W : World) (b : Nat) (u v : Value) (t : TypeId) : Prop := W.heap[b]? = some (.cells #[u, v] t (0, 0))
theorem Cl2.lt {W : World} {b : Nat} {u v : Value} {t : TypeId} (h : Cl2 W b u v t) : b < W.heap.size := (Array.getElem?_eq_some_iff.1 h).1
theorem Cl2.c0 {W : World} {b : Nat} {u v : Value} {t : TypeId} (h : Cl2 W b u v t) : W.cell? ⟨b, 0, none⟩ = some u := by simp [World.cell?, show W.heap[b]? = _ from h]
theorem Cl2.c1 {W : World} {b : Nat} {u v : Value} {t : TypeId} (h : Cl2 W b u v t) : W.cell? ⟨b, 1, none⟩ = some v := by simp [World.cell?, show W.heap[b]? = _ from h]
structure FI (w W : World) (key : Bs) (pre : List (Nat × Rec)) : Prop where
  k : Boxed W w.heap.size 9 (.string (st key))
  a : Boxed W (w.heap.size + 1) 9 (.string { data := #[] })
  e : Boxed W (w.heap.size + 1 + 1) 4 (.bool false)
  n : ∀ x ∈ pre, (x.2.key == key) = false
  b : Below w.heap.size w W
  z : w.heap.size + 4 ≤ W.heap.size
structure FX (w W : World) (key : Bs) (pre : List (Nat × Rec)) : Prop where
  x : ∃ x, (pre.find? fun x => x.2.key == key) = some x ∧ Boxed W (w.heap.size + 1) 9 (.string (st x.2.val))
  e : Boxed W (w.heap.size + 1 + 1) 4 (.bool true)
  b : Below w.heap.size w W
theorem fi_own (w : World) (key : Bs) (n : Nat) (hn : w.heap.size ≤ n) : OwnFrom n (fun pre W => FI w W key pre) := fun s W W' row h hg hr => by
  have hr2 : ∀ r, row = some r → ∃ o : Obj, W.heap[r]? = some o ∧ o.isCells = false := fun r e => (hr r e).2
  exact ⟨boxed_own2 h.k hg hr2, boxed_own2 h.a hg hr2, boxed_own2 h.e hg hr2, h.n, ownFrom_below (Nat.le_refl _) hn s W W' row h.b hg hr, Nat.le_trans h.z hg.size⟩
theorem fx_own (w : World) (key : Bs) (n : Nat) (hn : w.heap.size ≤ n) : OwnFrom n (fun pre W => FX w W key pre) := fun s W W' row h hg hr => by
  have hr2 : ∀ r, row = some r → ∃ o : Obj, W.heap[r]? = some o ∧ o.isCells = false := fun r e => (hr r e).2
  obtain ⟨x, h1, h2⟩ := h.x
  exact ⟨⟨x, h1, boxed_own2 h2 hg hr2⟩, boxed_own2 h.e hg hr2, ownFrom_below (Nat.le_refl _) hn s W W' row h.b hg hr⟩
theorem cl2_own {W W' : World} {B : Nat} {t : TypeId} {u v : Value} {row : Option Nat} (h : Cl2 W B u v t) (hg : W.grownBy W' row) (hr : ∀ r, row = some r → ∃ o : Obj, W.heap[r]? = some o ∧ o.isCells = false) : Cl2 W' B u v t := by
  unfold Cl2 at h ⊢
  exact (grownBy_keeps_cells hg hr h rfl).trans h
/-- The frame of a round. -/
def frF (w : World) (A : Option Addr) (n c : Nat) (key : Bs) (x : Nat × Rec) (Bx : Nat) : Act :=
  { tmps := #[.slice A n c, .string (st key), undef, .pointer (some ⟨w.heap.size, 0, none⟩), .pointer (some ⟨w.heap.size + 1, 0, none⟩), .pointer (some ⟨w.heap.size + 1 + 1, 0, none⟩), undef, .pointer (some ⟨Bx, 0, none⟩), .slice A n c, .func (.func 116) #[] #[.pointer (some ⟨w.heap.size + 1 + 1 + 1, 0, none⟩)], .int .i64 (x.1 : Int), .agg #[.string (st x.2.key), .string (st x.2.val)], undef, undef, undef, undef, undef, undef], defers := [] }
def AF (w : World) (A : Option Addr) (n c : Nat) (key : Bs) (x : Nat × Rec) (a' : Act) (W : World) : Prop :=
  ∃ Bx, w.heap.size + 4 ≤ Bx ∧ Cl2 W Bx (.string (st x.2.key)) (.string (st x.2.val)) 35 ∧ a' = frF w A n c key x Bx
set_option maxRecDepth 100000 in
set_option maxHeartbeats 2000000 in
theorem find_x (A : Option Addr) (c : Nat) (l : List Rec) (key : Bs) (w : World) (hl : l.length ≤ 4611686018427387904) (hr : RdV w A (rcs l)) (R : Option (Nat × Rec)) (hR : ((bk l).find? fun x => x.2.key == key) = R) :
    CallsIn Fence.wide 3 Tryz.prog 52 #[.slice A l.length c, .string (st key)] w fun e w' => e = .returned (.tuple #[.string (st ((R.map (·.2.val)).getD [])), .bool R.isSome]) ∧ Below w.heap.size w w' := by
  have HR := Lib.hid hR
  clear hR
  refine callsIn_of_wp_marks Tryz.func52 rfl trivial ?_ rfl
  simp only [Tryz.ntmps52, List.size_toArray, List.length_cons, List.length_nil, Nat.reduceAdd, Nat.reduceSub, Array.replicate_succ, Array.replicate_zero, List.push_toArray, List.append_toArray, List.nil_append, List.cons_append]
  gi_wp2_with (refine ⟨trivial, ?_⟩; gi_at_call 85; refine (callsIn_wide.2 (backward _ _ ⟨_, _, _, rfl⟩)).mono ?_; rintro e w1 ⟨rfl, hw1⟩)
  rw [← hw1]
  have hs : w1.heap.size = w.heap.size + 4 := by rw [hw1]; simp
  have hB : Below w.heap.size w w1 := by rw [hw1]; exact ((((Below.refl _ w).alloc (Nat.le_refl _) _).alloc (by simp) _).alloc (by simp; omega) _).alloc (by simp; omega) _
  have hI0 : FI w w1 key [] := by
    refine ⟨?_, ?_, ?_, by simp, hB, by omega⟩
    · rw [hw1]; exact (((Boxed.new w _ _).alloc _).alloc _).alloc _
    · rw [hw1]
      have := Boxed.new (w.alloc (.cells #[.string (st key)] 9)) 9 (.string { data := #[] })
      rw [World.size_alloc] at this
      exact (this.alloc _).alloc _
    · rw [hw1]
      have := Boxed.new ((w.alloc (.cells #[.string (st key)] 9)).alloc (.cells #[.string { data := #[] }] 9)) 4 (.bool false)
      rw [World.size_alloc, World.size_alloc] at this
      exact this.alloc _
  have hbn : w1.cell? ⟨w.heap.size + 1 + 1 + 1, 0, none⟩ = some (.slice A l.length c) := by
    rw [hw1]
    have := Boxed.new (((w.alloc (.cells #[.string (st key)] 9)).alloc (.cells #[.string { data := #[] }] 9)).alloc (.cells #[.bool false] 4)) 32 (.slice A l.length c)
    rw [World.size_alloc, World.size_alloc, World.size_alloc] at this
    exact this.cell
  clear hw1
  refine wpIn_rangeFunc_ownH rfl (by omega) (gf := 116) (lb := #[.pointer (some ⟨w.heap.size + 1 + 1 + 1, 0, none⟩)]) rfl trivial (enters_of Tryz.func116 (by kernel_rfl) rfl)
    (back_stops 2 (by omega) _ c A l w1 hl hbn (hr.below hB)) belowK_t (belowK_b (Nat.le_refl _)) (Below.refl _ _) (fun _ => rfl)
    (fun pre W => FI w W key pre) (fun cc pre W => cc = .ret ∧ FX w W key pre) (fi_own w key _ (by omega)) (fun cc => OwnFrom.and (ownFrom_pure _ _) (fx_own w key _ (by omega))) hI0
    (fun x a' W => AF w A l.length c key x a' W)
    (fun x a' _ W W' row h hg hr => by obtain ⟨Bx, h1, h2, h3⟩ := h; exact ⟨Bx, h1, cl2_own h2 hg (fun r e => (hr r e).2), h3⟩) ?assign ?body ?done ?stop
  case assign =>
    rintro y pre x W K hI hK
    have hz := hI.z
    gi_wp2
    exact hK _ _ ((KeepsOthers.alloc _ _).from _) ((Below.refl _ W).alloc (by omega) _) ⟨hI.k.alloc _, hI.a.alloc _, hI.e.alloc _, hI.n, hI.b.alloc (by omega) _, by simp; omega⟩ ⟨W.heap.size, hz, heap_alloc_new W _, rfl⟩
  case body =>
    rintro y pre x a' W hy ⟨r, hr2⟩ hI ⟨Bx, hBx, bX, rfl⟩ hlt
    have c0 := bX.c0
    have c1 := bX.c1
    have ck := hI.k.cell
    have ca := hI.a.cell
    have fa := hI.a.frozen
    have ce := hI.e.cell
    have fe := hI.e.frozen
    have HI := Lib.hid hI
    clear hI hr2
    unfold frF
    cases hx : x.2.key == key with
    | true =>
      have HX := Lib.hid hx
      have hx2 : (x.2.key == key) = true := hx
      clear hx
      gi_wp2
      refine ⟨((KeepsOthers.setCell _ _ _).trans (KeepsOthers.setCell _ _ _)).from _, rfl, ⟨x, ?_, ?_⟩, ?_, ?_⟩
      · rw [List.find?_append]
        have : pre.find? (fun x => x.2.key == key) = none := List.find?_eq_none.2 fun z hz => by rw [HI.out.n z hz]; simp
        rw [this]
        simp [HX.out]
      · exact (HI.out.a.set _).other (by omega) _
      · exact (HI.out.e.other (B' := w.heap.size + 1) (by omega) _).set _
      · exact (HI.out.b.setCell (p := ⟨w.heap.size + 1, 0, none⟩) (by dsimp only; omega) _).setCell (p := ⟨w.heap.size + 1 + 1, 0, none⟩) (by dsimp only; omega) _
    | false =>
      have HX := Lib.hid hx
      have hx2 : (x.2.key == key) = false := hx
      clear hx
      gi_wp2
      exact ⟨KeepsFrom.refl _ _, Below.refl _ _, HI.out.k, HI.out.a, HI.out.e, fun z hz => by
        rcases List.mem_append.1 hz with hz | hz
        · exact HI.out.n z hz
        · rw [List.mem_singleton] at hz
          subst hz
          exact HX.out, HI.out.b, HI.out.z⟩
  case done =>
    rintro D ys W hD rfl hI hK
    have hn : R = none := by
      rw [← HR.out]
      exact List.find?_eq_none.2 fun z hz => by rw [hI.n z hz]; simp
    subst hn
    have ca := hI.a.cell
    have fa := hI.a.frozen
    have ce := hI.e.cell
    have fe := hI.e.frozen
    have HI := Lib.hid hI
    have HK := Lib.hid hK
    clear hI hK
    gi_wp2
    have hB2 := (HI.out.b.setCell (p := ⟨w.heap.size + 1, 0, none⟩) (by dsimp only; omega) (.string { data := #[] })).setCell (p := ⟨w.heap.size + 1 + 1, 0, none⟩) (by dsimp only; omega) (.bool false)
    have hK2 := ((KeepsOthers.setCell W ⟨w.heap.size + 1, 0, none⟩ (.string { data := #[] })).trans (KeepsOthers.setCell _ ⟨w.heap.size + 1 + 1, 0, none⟩ (.bool false))).same D _ HK.out rfl
    refine ⟨by simp, .inl ⟨_, _, rfl, run_takeDeferred hK2, ?_⟩⟩
    have c2 := (boxed_own2 ((HI.out.a.set (.string { data := #[] })).other (B' := w.heap.size + 1 + 1) (by omega) (.bool false)) (grownBy_putObj' _ D (.deferred none)) (fun r e => by cases e; exact ⟨_, hK2, rfl⟩)).cell
    have c3 := (boxed_own2 ((HI.out.e.other (B' := w.heap.size + 1) (by omega) (.string { data := #[] })).set (.bool false)) (grownBy_putObj' _ D (.deferred none)) (fun r e => by cases e; exact ⟨_, hK2, rfl⟩)).cell
    refine ⟨.tuple #[.string { data := #[] }, .bool false], ?_, rfl, hB2.trans (below_put _ D _ (by omega))⟩
    simp [results, Tryz.results52, go_sem, c2, c3]
  case stop =>
    rintro D cc pre W hD hpre ⟨rfl, hX⟩ hK
    obtain ⟨x, hx, hbx⟩ := hX.x
    have hR2 : R = some x := by
      rw [← HR.out]
      obtain ⟨t, ht⟩ := hpre
      rw [← ht, List.find?_append, hx]
      rfl
    subst hR2
    have ca := hbx.cell
    have ce := hX.e.cell
    have HX := Lib.hid hX
    clear hX hx
    gi_wp2
    refine ⟨by simp, .inl ⟨_, _, rfl, run_takeDeferred hK, ?_⟩⟩
    have c2 := cell_kept ca (grownBy_putObj' _ D (.deferred none)) (fun r e => by cases e; exact ⟨_, hK, rfl⟩)
    have c3 := cell_kept ce (grownBy_putObj' _ D (.deferred none)) (fun r e => by cases e; exact ⟨_, hK, rfl⟩)
    refine ⟨.tuple #[.string (st x.2.val), .bool true], ?_, rfl, HX.out.b.trans (below_put W D _ (by omega))⟩
    simp [results, Tryz.results52, go_sem, c2, c3]
theorem recs_Find (A : Option Addr) (c : Nat) (l : List Rec) (key : Bs) (w : World) (hl : l.length ≤ 4611686018427387904) (hr : RdV w A (rcs l)) :
    Calls Tryz.prog 52 #[.slice A l.length c, .string (st key)] w fun e w' => e = .returned (.tuple #[.string (st ((rFind l key).getD [])), .bool (rFind l key).isSome]) ∧ Below w.heap.size w w' := by
  have h := callsIn_wide.1 (find_x A c l key w hl hr _ rfl)
  rw [rFind_bk]
  have e : (Option.map (fun x : Nat × Rec => x.2.val) ((bk l).find? fun x => x.2.key == key)).isSome = ((bk l).find? fun x => x.2.key == key).isSome := by simp
  rw [e]
  exact h
end Go.Proofs.YtckgjbpgdpcnnaaGreatDoor
