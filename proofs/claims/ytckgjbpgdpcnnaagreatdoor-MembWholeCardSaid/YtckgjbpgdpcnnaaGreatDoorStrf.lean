/-
  THE CONTRACTS of package strf: texts in a header's fields.
-/
import Derived.Test.YtckgjbpgdpcnnaaGreatDoorMem
namespace Go.Proofs.YtckgjbpgdpcnnaaGreatDoor
set_option linter.all false
set_option linter.unusedVariables false
set_option linter.unusedSimpArgs false
open Go.RowKit Pl

theorem splice_noughts (r : Bs) (n : Nat) (h : r.length ≤ n) : splice (noughts n) 0 r = r ++ noughts (n - r.length) := by
  simp [splice, noughts]

set_option maxRecDepth 100000 in
set_option maxHeartbeats 1000000 in
theorem strf_Put (s : ByteArray) (d : Nat) (h1 : 1 ≤ d) (h2 : d ≤ 512) (hs : s.size < 4294967281) (w : World) (hg : Glob w) :
    Calls Tryz.prog 124 #[.string s, .int .i64 d] w fun e w' =>
      ∃ v, e = .returned (.tuple #[v, .int .i64 (sPut s.data.toList d).2]) ∧ w'.ownsRow w.heap.size 5 1 v (sPut s.data.toList d).1.length (bcs (sPut s.data.toList d).1) ∧ Below w.heap.size w w' := by
  have hmk := mk_bytes d (by omega)
  have c1 : ¬ (d : Int) < 1 := by omega
  have c2 : ¬ (512 : Int) < (d : Int) := by omega
  by_cases hz : s.data.toList.any (· == 0) = true
  · have hr : sPut s.data.toList d = ([], 3) := by unfold sPut; rw [if_pos hz]
    have HZ := Lib.hid hz
    rw [hr]
    clear hr hz
    go_enter Tryz.func124, Tryz.ntmps124
    go_wp2_with (go_at_call 119; refine (lib_Contains s 0 _ hs hg).mono ?_; rw [HZ.out]; rintro e w' ⟨rfl, rfl⟩)
    go_ret2
    exact ⟨_, rfl, World.ownsRow_nil _ _ _ _, Below.refl _ _⟩
  · have hz2 : s.data.toList.any (· == 0) = false := by simpa using hz
    have HZ := Lib.hid hz2
    by_cases hl : d < s.size
    · have hr : sPut s.data.toList d = ([], 10) := by unfold sPut; rw [if_neg hz, if_pos (by rw [size_data]; exact hl)]
      rw [hr]
      clear hr hz hz2
      go_enter Tryz.func124, Tryz.ntmps124
      go_wp2_with (go_at_call 119; refine (lib_Contains s 0 _ hs hg).mono ?_; rw [HZ.out]; rintro e w' ⟨rfl, rfl⟩)
      go_ret2
      exact ⟨_, rfl, World.ownsRow_nil _ _ _ _, Below.refl _ _⟩
    · have hr : sPut s.data.toList d = (s.data.toList ++ noughts (d - s.size), 0) := by unfold sPut; rw [if_neg hz, if_neg (by rw [size_data]; exact hl), size_data]
      have hsp := splice_noughts s.data.toList d (by rw [size_data]; omega)
      rw [size_data] at hsp
      have HSP := Lib.hid hsp
      have hlen : (s.data.toList ++ noughts (d - s.size)).length = d := by rw [List.length_append, size_data]; simp [noughts]; omega
      rw [hr, hlen]
      have HLEN := Lib.hid hlen
      have HN := Lib.hid (Blk.new w d)
      have HB := Lib.hid ((Below.refl w.heap.size w).alloc (Nat.le_refl _) (.cells (madeCells #[.int .u8 0] d) 5))
      have hsd : s.size ≤ d := by omega
      clear hr hz hz2 hsp hlen
      go_enter Tryz.func124, Tryz.ntmps124
      go_wp2_with (first | (go_at_call 119; refine (lib_Contains s 0 _ hs hg).mono ?_; rw [HZ.out]; rintro e w' ⟨rfl, rfl⟩) | (refine cp_string rfl _ _ rfl w.heap.size 0 d d s (by rfl) (by rfl) (noughts d) HN.out hsd (by simp [noughts]; omega) w.heap.size w HB.out (Nat.le_refl _) ?_; intro w1 hk hb; have HK := Lib.hid hk; have HB2 := Lib.hid hb; clear hk hb))
      go_ret2
      refine ⟨_, rfl, ?_, HB2.out⟩
      have := HK.out
      rw [HSP.out] at this
      exact this.own HLEN.out (Nat.le_refl _) (by omega)

/-! ### Loose, Get -/
theorem takeWhile_self (f : UInt8 → Bool) (l : Bs) (h : ∀ x ∈ l, f x = true) : l.takeWhile f = l := by
  induction l with
  | nil => rfl
  | cons a l ih => rw [List.takeWhile_cons, if_pos (h a (by simp)), ih fun x hx => h x (by simp [hx])]
theorem loose_none (l : Bs) (h : Lib.indexByte l 0 = -1) : loose l = l := by
  unfold loose
  apply takeWhile_self
  intro x hx
  obtain ⟨k, hk, hk2⟩ := List.getElem_of_mem hx
  have := Lib.indexByte_none h k
  rw [List.getElem?_eq_getElem hk, hk2] at this
  simpa using this
theorem loose_some (l : Bs) (i : Nat) (h : Lib.indexByte l 0 = i) : loose l = l.take i ∧ i < l.length := by
  obtain ⟨h1, h2⟩ := Lib.indexByte_some h
  have hi := (List.getElem?_eq_some_iff.1 h1).1
  refine ⟨?_, hi⟩
  unfold loose
  have e : l = l.take i ++ (0 :: l.drop (i + 1)) := by
    have h3 := (List.getElem?_eq_some_iff.1 h1).2
    rw [← h3, ← List.drop_eq_getElem_cons hi, List.take_append_drop]
  conv => lhs; rw [e]
  rw [List.takeWhile_append_of_pos]
  · simp
  · intro x hx
    obtain ⟨k, hk, hk2⟩ := List.getElem_of_mem hx
    rw [List.length_take] at hk
    have := h2 k (by omega)
    rw [List.getElem_take] at hk2
    rw [List.getElem?_eq_getElem (by omega), hk2] at this
    simpa using this
theorem cutV_none (A : Option Addr) (n c : Nat) : Lib.cutV A n c 1 (-1) = .tuple #[.slice A n c, .slice none 0 0, .bool false] := by simp [Lib.cutV]
theorem cutV_some (A : Option Addr) (n c i : Nat) : Lib.cutV A n c 1 (i : Int) = .tuple #[.slice A i c, Lib.fromV A n c (i + 1), .bool true] := by simp [Lib.cutV]

set_option maxRecDepth 100000 in
set_option maxHeartbeats 1000000 in
theorem strf_Loose (A : Option Addr) (n c : Nat) (l : Bs) (w : World) (hl : l.length = n) (hc : n ≤ c) (hA : A = none → c = 0) (hn : n < 4294967281) (h : Rd w A l) (hg : Glob w) :
    Calls Tryz.prog 129 #[.slice A n c] w fun e w' => e = .returned (.string ⟨(loose l).toArray⟩) ∧ Below w.heap.size w w' := by
  have kc := kc_bytes
  have hb0 := (Below.refl w.heap.size w).alloc (Nat.le_refl _) (.cells #[.int .u8 0] 5 (1, 2))
  have hcut := lib_Cut A n c w.heap.size 0 1 l 0 (w.alloc (.cells #[.int .u8 0] 5 (1, 2))) hl hc hA hn (h.below hb0) (by rw [World.cell?_alloc_mark]; rfl) (hg.below hb0)
  have HC := Lib.hid hcut
  have HB := Lib.hid hb0
  have HR := Lib.hid h
  by_cases hi : Lib.indexByte l 0 = -1
  · have e1 := loose_none l hi
    rw [e1]
    have HI := Lib.hid hi
    clear hcut hb0 h hi e1
    go_enter Tryz.func129, Tryz.ntmps129
    go_wp2_with (go_at_call 161; go_must (refine HC.out.mono ?_); rw [HI.out, cutV_none]; rintro e w1 ⟨rfl, hq⟩; have HB1 := Lib.hid (show Below w.heap.size w w1 from by obtain ⟨q, rfl⟩ := hq; exact below_drewN HB.out q); have hsv := str_of A n c l w1 hl (HR.out.below HB1.out); clear hq)
    go_ret
    exact ⟨rfl, HB1.out⟩
  · obtain ⟨i, hi2⟩ : ∃ i : Nat, Lib.indexByte l 0 = i := by
      have := Lib.indexByte_ge l 0
      exact Int.eq_ofNat_of_zero_le (by omega)
    obtain ⟨e1, hlt⟩ := loose_some l i hi2
    rw [e1]
    have HI := Lib.hid hi2
    clear hcut hb0 h hi hi2 e1
    go_enter Tryz.func129, Tryz.ntmps129
    go_wp2_with (go_at_call 161; go_must (refine HC.out.mono ?_); rw [HI.out, cutV_some]; rintro e w1 ⟨rfl, hq⟩; have HB1 := Lib.hid (show Below w.heap.size w w1 from by obtain ⟨q, rfl⟩ := hq; exact below_drewN HB.out q); have hsv := str_of A i c (l.take i) w1 (by rw [List.length_take]; omega) ((HR.out.take i).below HB1.out); clear hq)
    go_ret
    exact ⟨rfl, HB1.out⟩

theorem loose_le (l : Bs) : (loose l).length ≤ l.length := tw_le' _ l
where
  tw_le' (f : UInt8 → Bool) (l : Bs) : (l.takeWhile f).length ≤ l.length := by
    have h := congrArg List.length (List.takeWhile_append_dropWhile (p := f) (l := l))
    rw [List.length_append] at h
    omega
theorem size_mk (l : Bs) : (⟨l.toArray⟩ : ByteArray).size = l.length := by
  show l.toArray.size = _
  simp

set_option maxRecDepth 100000 in
set_option maxHeartbeats 1000000 in
theorem strf_Get (A : Option Addr) (n c : Nat) (l : Bs) (w : World) (hl : l.length = n) (hc : n ≤ c) (hbig : c ≤ 9223372036854775807) (hA : A = none → c = 0) (hn : n < 4294967281) (h : Rd w A l) (hg : Glob w) :
    Calls Tryz.prog 101 #[.slice A n c] w fun e w' => e = .returned (.tuple #[.string ⟨(sGet l).1.toArray⟩, .int .i64 (sGet l).2]) ∧ Below w.heap.size w w' := by
  have hle := loose_le l
  have hL := strf_Loose A n c l w hl hc hA hn h hg
  obtain ⟨s, hs⟩ : ∃ s, loose l = s := ⟨_, rfl⟩
  have hR : sGet l = if (l.drop s.length).all (· == 0) then (s, 0) else ([], 3) := by unfold sGet; simp only [hs]
  rw [hs] at hL hle
  obtain ⟨A', hcut, hrd, _⟩ := cut_from .i64 A n c s.length (by omega)
  have hsz := size_mk s
  have HL := Lib.hid hL
  have hrd2 := fun W hW => hrd W l hl hc hW
  have HRD := Lib.hid hrd2
  have HH := Lib.hid h
  have hsl : s.length ≤ n := by omega
  have hdl : (l.drop s.length).length = n - s.length := by rw [List.length_drop]; omega
  obtain ⟨t, ht⟩ : ∃ t, (l.drop s.length).dropWhile (· == 0) = t := ⟨_, rfl⟩
  have HT := Lib.hid ht
  have HDL := Lib.hid hdl
  have hiff := dropWhile_nil_iff (· == 0) (l.drop s.length)
  rw [ht] at hiff
  clear hL hrd hrd2 h hs ht hdl hle hl
  by_cases ha : (l.drop s.length).all (· == 0) = true
  · rw [if_pos ha] at hR
    have htn := hiff.2 ha
    rw [hR]
    have HTN := Lib.hid (show t.length = 0 from by rw [htn]; rfl)
    clear hR ha htn hiff
    go_enter Tryz.func101, Tryz.ntmps101
    go_wp2_with (first | (go_at_call 129; go_must (refine HL.out.mono ?_); rintro e w1 ⟨rfl, hb⟩; have HB := Lib.hid hb; clear hb) | (go_at_call 130; go_must (refine (lib_TrimLeft A' (n - s.length) (c - s.length) (l.drop s.length) 0 _ HDL.out (by omega) (by omega) (by decide) (HRD.out _ (HH.out.below HB.out))).mono ?_); rw [HT.out, HTN.out]; rintro e w' ⟨A2, c2, rfl, _, _, _, _, rfl⟩))
    go_ret2
    exact ⟨rfl, HB.out⟩
  · rw [if_neg ha] at hR
    have htn : ¬ t.length = 0 := fun h => ha (hiff.1 (List.eq_nil_of_length_eq_zero h))
    have htp : (0 : Int) < (t.length : Int) := by omega
    rw [hR]
    clear hR ha htn hiff
    go_enter Tryz.func101, Tryz.ntmps101
    go_wp2_with (first | (go_at_call 129; go_must (refine HL.out.mono ?_); rintro e w1 ⟨rfl, hb⟩; have HB := Lib.hid hb; clear hb) | (go_at_call 130; go_must (refine (lib_TrimLeft A' (n - s.length) (c - s.length) (l.drop s.length) 0 _ HDL.out (by omega) (by omega) (by decide) (HRD.out _ (HH.out.below HB.out))).mono ?_); rw [HT.out]; rintro e w' ⟨A2, c2, rfl, _, _, _, _, rfl⟩))
    go_ret2
    exact ⟨rfl, HB.out⟩
end Go.Proofs.YtckgjbpgdpcnnaaGreatDoor
