/-
  THE ITERATORS strings.SplitSeq (at a separator of one byte), slices.Backward (over records): their contracts.
-/
import Derived.Test.YtckgjbpgdpcnnaaGreatDoorRng
namespace Go.Proofs.YtckgjbpgdpcnnaaGreatDoor
set_option linter.all false
set_option linter.unusedVariables false
set_option linter.unusedSimpArgs false
open Go.RowKit Pl Go.Shelf
attribute [local go_sem] st_toList st_size Oper.semAt_some

theorem cuts_none (l : Bs) (h : Lib.indexByte l 47 = -1) : cuts l = [l] := by
  have hn := Lib.indexByte_none h
  clear h
  induction l with
  | nil => rfl
  | cons a l ih =>
    have ha : a ≠ 47 := by intro e; have := hn 0; simp [e] at this
    unfold cuts
    rw [if_neg ha, ih (fun k => by have := hn (k + 1); simpa using this)]
theorem cuts_some (l : Bs) (i : Nat) (h : Lib.indexByte l 47 = i) : cuts l = l.take i :: cuts (l.drop (i + 1)) ∧ i < l.length := by
  obtain ⟨h1, h2⟩ := Lib.indexByte_some h
  have hi := (List.getElem?_eq_some_iff.1 h1).1
  refine ⟨?_, hi⟩
  clear h hi
  induction l generalizing i with
  | nil => simp at h1
  | cons a l ih =>
    cases i with
    | zero =>
      have : a = 47 := by simpa using h1
      subst this
      rw [cuts, if_pos rfl]
      rfl
    | succ i =>
      have ha : a ≠ 47 := by intro e; have := h2 0 (by omega); simp [e] at this
      have := ih i (by simpa using h1) (fun k hk => by have := h2 (k + 1) (by omega); simpa using this)
      rw [cuts, if_neg ha, this]
      simp
/-- What is left in the box of SplitSeq's text. -/
def leftS (W : World) (b : Nat) : Nat := match W.cell? ⟨b, 0, none⟩ with | some (.string s) => s.size | _ => 0
/-- The three boxes at m lie as they lay. -/
def Kp3 (m : Nat) (A B : World) : Prop := ∀ b, m ≤ b → b < m + 3 → B.heap[b]? = A.heap[b]?
theorem Kp3.trans {m : Nat} {A B C : World} (h : Kp3 m A B) (k : Kp3 m B C) : Kp3 m A C := fun b h1 h2 => (k b h1 h2).trans (h b h1 h2)
theorem Kp3.at_ {m : Nat} {A B : World} (h : Kp3 m A B) (k : Nat) (hk : k < 3) {v : Value} (hc : A.cell? ⟨m + k, 0, none⟩ = some v) : B.cell? ⟨m + k, 0, none⟩ = some v := (World.cell?_of_block (h (m + k) (by omega) (by omega))).trans hc
theorem Kp3.fz {m : Nat} {A B : World} (h : Kp3 m A B) (k : Nat) (hk : k < 3) : B.frozen? ⟨m + k, 0, none⟩ = A.frozen? ⟨m + k, 0, none⟩ := World.frozen?_of_block (h (m + k) (by omega) (by omega))
/-- The text's box at m, the separator's at m + 1, 0 at m + 2. -/
structure Box3 (W : World) (m : Nat) (l : Bs) : Prop where
  s : Boxed W m 9 (.string (st l))
  p : Boxed W (m + 1) 9 (.string (st [47]))
  z : Boxed W (m + 2) 3 (.int .i64 0)
theorem Box3.keep {A B : World} {m : Nat} {l : Bs} (h : Box3 A m l) (hk : Kp3 m A B) : Box3 B m l := ⟨(hk m (by omega) (by omega)).trans h.s, (hk _ (by omega) (by omega)).trans h.p, (hk _ (by omega) (by omega)).trans h.z⟩
theorem Box3.put {A : World} {m : Nat} {l : Bs} (h : Box3 A m l) (r : Bs) : Box3 (A.setCell ⟨m, 0, none⟩ (.string (st r))) m r := ⟨h.s.set _, h.p.other (by omega) _, h.z.other (by omega) _⟩
theorem Box3.drew {A : World} {m : Nat} {l : Bs} (h : Box3 A m l) (n : Nat) : Box3 (A.drewN n) m l := ⟨h.s, h.p, h.z⟩
theorem Box3.left {A : World} {m : Nat} {l : Bs} (h : Box3 A m l) : leftS A m = l.length := by unfold leftS; rw [h.s.cell]; exact st_size l
theorem idx_one (l : Bs) (w : World) (hn : l.length < 4294967281) (hg : Glob w) : Calls Tryz.prog 128 #[.string (st l), .string (st [47])] w fun e w' => e = .returned (.int .i64 (Lib.indexByte l 47)) ∧ w = w' :=
  lib_Index (st l) 47 w (by rw [st_size]; exact hn) hg
set_option maxRecDepth 100000 in
set_option maxHeartbeats 2000000 in
theorem split1_in (N : Nat) (hN : 1 ≤ N) (l : Nat) (m : Nat) (t : Bs) (ht : t.length < 4294967281) (J Jx : List Bs → World → Prop)
    (hJs : ∀ s W1 v, J s W1 → J s (W1.setCell ⟨m, 0, none⟩ v)) (w0 : World) (hg : Glob w0) (hH : w0.heap.size ≤ m)
    (hY : ∀ pre x W, J pre W → pre ++ [x] <+: cuts t → YieldAt Fence.wide (N - 1) Tryz.prog l #[.string (st x)] W fun e W' => (e = .returned (.bool true) ∧ J (pre ++ [x]) W' ∧ Kp3 m W W' ∧ Below w0.heap.size W W') ∨ (e = .returned (.bool false) ∧ Jx (pre ++ [x]) W'))
    (W : World) (hW : Below w0.heap.size w0 W) (hb : Box3 W m t) (h0 : J [] W) :
    CallsIn Fence.wide N Tryz.prog 201 #[.func (.yield l) #[] #[], .pointer (some ⟨m + 1, 0, none⟩), .pointer (some ⟨m, 0, none⟩), .pointer (some ⟨m + 2, 0, none⟩)] W fun e W' => (∃ v, e = .returned v) ∧
      ((∃ ys, ys = cuts t ∧ J ys W') ∨ (∃ pre, pre <+: cuts t ∧ Jx pre W')) := by
  have hc1 := hb.p.cell
  refine callsIn_of_wp Tryz.func201 rfl trivial ?_ rfl
  simp only [Tryz.ntmps201, List.size_toArray, List.length_cons, List.length_nil, Nat.reduceAdd, Nat.reduceSub, Array.replicate_succ, Array.replicate_zero, List.push_toArray, List.append_toArray, List.nil_append, List.cons_append]
  gi_wp2
  clear hc1
  gi_loopw [7, 8] (fun _ _ wr => ∃ (pre : List Bs) (rest : Bs), pre ++ cuts rest = cuts t ∧ rest.length ≤ t.length ∧ Box3 wr m rest ∧ J pre wr ∧ Below w0.heap.size w0 wr) (fun _ _ wr => leftS wr m)
  case atStart => exact ⟨[], t, rfl, Nat.le_refl _, hb, h0, hW⟩
  case round =>
    obtain ⟨pre, rest, hpre, hlen, hB, hJ, hW⟩ := hrel
    have HW := Lib.hid hW
    have HG := Lib.hid hg
    have HB := Lib.hid hB
    have HJ := Lib.hid hJ
    have HP := Lib.hid hpre
    have c0 := hB.s.cell
    have c1 := hB.p.cell
    have hI := idx_one rest wr (by omega) (hg.below hW)
    clear hpre hB hJ hW hg
    by_cases hi : Lib.indexByte rest 47 = -1
    · have e1 := cuts_none rest hi
      rw [hi] at hI
      have HI := Lib.hid hI
      have HE := Lib.hid e1
      clear hI hi e1
      obtain ⟨fn, tmps, assign, body, hy, hR⟩ := hY pre rest wr HJ.out (by rw [← HP.out, HE.out]; exact List.prefix_refl _)
      gi_wp2_with (refine ⟨trivial, ?_⟩; gi_at_call 128; refine (callsIn_wide.2 HI.out).mono ?_; rintro e w' ⟨rfl, rfl⟩)
      refine hR.mono ?_
      rintro e W3 (⟨rfl, hJ3, hk3, hb3⟩ | ⟨rfl, hJx3⟩)
      · gi_wp2
        go_end0
        exact ⟨⟨_, rfl⟩, .inl ⟨pre ++ [rest], by rw [← HP.out, HE.out], hJ3⟩⟩
      · gi_wp2
        go_end0
        exact ⟨⟨_, rfl⟩, .inr ⟨pre ++ [rest], ⟨[], by rw [← HP.out, HE.out]; simp⟩, hJx3⟩⟩
    · obtain ⟨i, hi2⟩ : ∃ i : Nat, Lib.indexByte rest 47 = i := by
        have := Lib.indexByte_ge rest 47
        exact Int.eq_ofNat_of_zero_le (by omega)
      obtain ⟨e1, hlt⟩ := cuts_some rest i hi2
      rw [hi2] at hI
      have HI := Lib.hid hI
      have HE := Lib.hid e1
      have c2 := HB.out.z.cell
      have hcut := fun W => scut_to .i64 rest i (by omega) W
      have hcut2 := fun W => scut_from .i64 rest (i + 1) (by omega) W
      push_cast at hcut2
      clear hI hi hi2 e1
      obtain ⟨fn, tmps, assign, body, hy, hR⟩ := hY pre (rest.take i) wr HJ.out ⟨cuts (rest.drop (i + 1)), by rw [← HP.out, HE.out]; simp⟩
      gi_wp2_with (refine ⟨trivial, ?_⟩; gi_at_call 128; refine (callsIn_wide.2 HI.out).mono ?_; rintro e w' ⟨rfl, rfl⟩)
      refine hR.mono ?_
      rintro e W3 (⟨rfl, hJ3, hk3, hb3⟩ | ⟨rfl, hJx3⟩)
      · have HB4 := Lib.hid hb3
        clear hb3
        have d0 := hk3.at_ 0 (by omega) HB.out.s.cell
        have d1 := hk3.at_ 1 (by omega) HB.out.p.cell
        have f0 := (hk3.fz 0 (by omega)).trans HB.out.s.frozen
        rw [Nat.add_zero] at d0 f0
        have HB3 := Lib.hid (HB.out.keep hk3)
        have HJ3 := Lib.hid hJ3
        clear hk3 hJ3
        gi_wp2
        go_roundw
        case rel => exact ⟨pre ++ [rest.take i], rest.drop (i + 1), by rw [List.append_assoc, List.singleton_append, ← HE.out]; exact HP.out, by rw [List.length_drop]; omega, HB3.out.put _, hJs _ _ _ HJ3.out, (HW.out.trans HB4.out).setCell hH _⟩
        case measure =>
          rw [(HB3.out.put (rest.drop (i + 1))).left, HB.out.left, List.length_drop]
          omega
      · gi_wp2
        refine bodyPost_ret (results_none rfl _ _ _) rfl ?_
        exact ⟨⟨_, rfl⟩, .inr ⟨pre ++ [rest.take i], ⟨cuts (rest.drop (i + 1)), by rw [List.append_assoc, List.singleton_append, ← HE.out]; exact HP.out⟩, hJx3⟩⟩
theorem split_stops (N : Nat) (hN : 1 ≤ N) (m : Nat) (t : Bs) (ht : t.length < 4294967281) (w0 w1 : World) (hg : Glob w0) (hH : w0.heap.size ≤ m) (h01 : Below w0.heap.size w0 w1) (hb : Box3 w1 m t) :
    SeqSt Fence.wide N Tryz.prog 201 #[.pointer (some ⟨m + 1, 0, none⟩), .pointer (some ⟨m, 0, none⟩), .pointer (some ⟨m + 2, 0, none⟩)] (fun x : Bs => #[.string (st x)]) (fun A B => Kp3 m A B ∧ Below w0.heap.size A B) (fun ys => ys = cuts t) (fun pre => pre <+: cuts t) (cuts t) w1 m :=
  fun l J Jx W hW _ _ hJs hY h0 =>
    split1_in N hN l m t ht J Jx hJs w0 hg hH (fun pre x W h hl => hY pre x W h hl) W (h01.trans (hW.mono h01.size)) ⟨(hW.block _ hb.s.lt).trans hb.s, (hW.block _ hb.p.lt).trans hb.p, (hW.block _ hb.z.lt).trans hb.z⟩ h0
set_option maxRecDepth 100000 in
theorem split_seq (t : Bs) (w : World) : Calls Tryz.prog 150 #[.string (st t), .string (st [47])] w fun e w' => e = .returned (.func (.func 201) #[] #[.pointer (some ⟨w.heap.size + 1, 0, none⟩), .pointer (some ⟨w.heap.size, 0, none⟩), .pointer (some ⟨w.heap.size + 2, 0, none⟩)]) ∧ Box3 w' w.heap.size t ∧ Below w.heap.size w w' ∧ w'.heap.size = w.heap.size + 3 := by
  go_enter Tryz.func150, Tryz.ntmps150
  go_wp2
  go_ret
  refine ⟨by simp, ⟨?_, ?_, ?_⟩, ?_, by simp⟩
  · exact ((Boxed.new w _ _).alloc _).alloc _
  · have := (Boxed.new (w.alloc (.cells #[.string (st t)] 9)) 9 (.string (st [47])))
    rw [World.size_alloc] at this
    exact this.alloc _
  · have := (Boxed.new ((w.alloc (.cells #[.string (st t)] 9)).alloc (.cells #[.string (st [47])] 9)) 3 (.int .i64 0))
    rw [World.size_alloc, World.size_alloc] at this
    exact this
  · exact (((Below.refl _ w).alloc (Nat.le_refl _) _).alloc (by simp) _).alloc (by simp; omega) _
end Go.Proofs.YtckgjbpgdpcnnaaGreatDoor
