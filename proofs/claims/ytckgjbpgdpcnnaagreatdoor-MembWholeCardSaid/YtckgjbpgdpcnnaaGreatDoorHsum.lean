/-
  THE CONTRACTS of package hsum: sums of headers.
-/
import Derived.Test.YtckgjbpgdpcnnaaGreatDoorMem
import Derived.Test.YtckgjbpgdpcnnaaGreatDoorNumj
namespace Go.Proofs.YtckgjbpgdpcnnaaGreatDoor
set_option linter.all false
set_option linter.unusedVariables false
set_option linter.unusedSimpArgs false
open Go.RowKit Pl

theorem total_snoc (l : Bs) (x : UInt8) : total (l ++ [x]) = total l + x.toNat := by simp [total]
theorem total_append (l r : Bs) : total (l ++ r) = total l + total r := by simp [total]
theorem total_le (l : Bs) : total l ≤ 255 * l.length := by
  induction l with
  | nil => simp [total]
  | cons a l ih =>
    have := a.toNat_lt
    simp only [total, List.map_cons, List.sum_cons, List.length_cons] at ih ⊢
    omega
theorem take_snoc (l : Bs) (k : Nat) (h : k < l.length) : l.take (k + 1) = l.take k ++ [l.getD k 0] := by
  rw [List.take_succ_eq_append_getElem h]
  simp [List.getD, List.getElem?_eq_getElem h]
theorem hsum_eq (l : Bs) (h : l.length = 512) : hsum l + total ((l.drop 148).take 8) = total l + 256 := by
  have e : l = l.take 148 ++ ((l.drop 148).take 8 ++ l.drop 156) := by
    rw [show l.drop 156 = (l.drop 148).drop 8 by rw [List.drop_drop], List.take_append_drop, List.take_append_drop]
  have ht := congrArg total e
  rw [total_append, total_append] at ht
  unfold hsum
  omega
theorem hsum_le (l : Bs) (h : l.length = 512) : hsum l ≤ 128776 := by
  have h1 := total_le (l.take 148)
  have h2 := total_le (l.drop 156)
  rw [List.length_take] at h1
  rw [List.length_drop] at h2
  unfold hsum
  omega

set_option maxRecDepth 100000 in
set_option maxHeartbeats 1000000 in
theorem hsum_Sum (A : Option Addr) (c : Nat) (l : Bs) (w : World) (hl : l.length = 512) (hc : 512 ≤ c) (h : Rd w A l) :
    Calls Tryz.prog 100 #[.slice A 512 c] w fun e w' => e = .returned (.tuple #[.int .i64 (hsum l), .int .i64 0]) ∧ w = w' := by
  have heq := hsum_eq l hl
  have HEQ := Lib.hid heq
  have htl := total_le l
  have HTL := Lib.hid htl
  clear heq htl
  go_enter Tryz.func100, Tryz.ntmps100
  go_wp2
  go_loop [4, 5, 10] (fun a _ i => ∃ k : Nat, k ≤ 512 ∧ i = .int .i64 k ∧ a = .int .i64 (total (l.take k))) (fun _ _ i => 512 - (intOf i).toNat)
  case atStart => exact ⟨0, by omega, rfl, rfl⟩
  case round =>
    obtain ⟨k, hk, rfl, rfl⟩ := hrel
    by_cases hlt : k < 512
    · obtain ⟨b, o, rfl, hcell⟩ := h.cell (j := k) (by omega)
      have hs : total (l.take (k + 1)) = total (l.take k) + (l.getD k 0).toNat := by rw [take_snoc l k (by omega), total_snoc]
      obtain ⟨x, hx⟩ : ∃ x : UInt8, l.getD k 0 = x := ⟨_, rfl⟩
      rw [hx] at hcell hs
      have hb := total_le (l.take k)
      rw [List.length_take] at hb
      obtain ⟨m, hm⟩ : ∃ m, total (l.take k) = m := ⟨_, rfl⟩
      rw [hm] at hs hb ⊢
      have hxl := x.toNat_lt
      have hb2 : m ≤ 130560 := by omega
      have HS := Lib.hid hs
      clear h hs hx hb hm
      go_wp2
      go_round
      case rel => exact ⟨k + 1, by omega, by go_num, by rw [HS.out]; go_num⟩
      case measure => simp [intOf]; omega
    · obtain rfl : k = 512 := by omega
      have e5 : l.take 512 = l := List.take_of_length_le (by omega)
      rw [e5]
      clear e5
      have hb2 : total l ≤ 130560 := by have := HTL.out; omega
      go_wp2
      go_loop [4, 6, 21] (fun a _ i => ∃ k : Nat, k ≤ 8 ∧ i = .int .i64 k ∧ a = .int .i64 ((total l : Int) + 32 * k - total ((l.drop 148).take k))) (fun _ _ i => 8 - (intOf i).toNat)
      case atStart => exact ⟨0, by omega, rfl, by simp [total]⟩
      case round =>
        obtain ⟨k, hk, rfl, rfl⟩ := hrel
        by_cases hlt : k < 8
        · obtain ⟨b, o, rfl, hcell⟩ := h.cell (j := 148 + k) (by omega)
          have hs : total ((l.drop 148).take (k + 1)) = total ((l.drop 148).take k) + (l.getD (148 + k) 0).toNat := by
            rw [take_snoc _ k (by rw [List.length_drop]; omega), total_snoc]
            simp [List.getD, List.getElem?_drop]
          obtain ⟨x, hx⟩ : ∃ x : UInt8, l.getD (148 + k) 0 = x := ⟨_, rfl⟩
          rw [hx] at hcell hs
          have hb := total_le ((l.drop 148).take k)
          rw [List.length_take, List.length_drop] at hb
          obtain ⟨m, hm⟩ : ∃ m, total ((l.drop 148).take k) = m := ⟨_, rfl⟩
          obtain ⟨tl, htl⟩ : ∃ tl, total l = tl := ⟨_, rfl⟩
          rw [hm] at hs hb ⊢
          rw [htl] at hb2 ⊢
          have hxl := x.toNat_lt
          have hb3 : m ≤ 2040 := by omega
          have HS := Lib.hid hs
          have HT := Lib.hid htl
          clear h hs hx hb hm htl
          go_wp2
          go_round
          case rel => exact ⟨k + 1, by omega, by go_num, by rw [HS.out]; go_num⟩
          case measure => simp [intOf]; omega
        · obtain rfl : k = 8 := by omega
          have hf : (total l : Int) + 32 * 8 - total ((l.drop 148).take 8) = hsum l := by have := HEQ.out; omega
          have HF := Lib.hid hf
          clear hf
          go_wp2
          go_ret2
          exact ⟨by rw [← HF.out]; rfl, rfl⟩

/-! ### Told, Check, Zero -/
theorem hGet_8 (l : Bs) (h : l.length = 512) : ((l.take 156).drop 148) = (l.drop 148).take 8 := by rw [List.take_drop]

set_option maxRecDepth 100000 in
set_option maxHeartbeats 1000000 in
theorem hsum_Told (A : Option Addr) (c : Nat) (l : Bs) (w : World) (hl : l.length = 512) (hc : 512 ≤ c) (hbig : c ≤ 9223372036854775807) (h : Rd w A l) :
    Calls Tryz.prog 99 #[.slice A 512 c] w fun e w' => e = .returned (.tuple #[.int .i64 (told l).1, .int .i64 (told l).2]) ∧ Below w.heap.size w w' := by
  obtain ⟨A', hcut, hrd, _⟩ := cut_mid .i64 .i64 A 512 c 148 156 (by omega) (by omega)
  have hcut : ∀ W : World, (Instr.slice 31 (.slice A 512 c) (some (.int .i64 148)) (some (.int .i64 156)) none).run Tryz.prog W = .ok (.slice A' 8 (c - 148)) W := hcut
  have hG := numf_Get A' 8 (c - 148) ((l.drop 148).take 8) w (by rw [List.length_take, List.length_drop]; omega) (by omega) (by omega) (.inl rfl) (by rw [← hGet_8 l hl]; exact hrd w l hl hc (by omega) h)
  obtain ⟨r, hr⟩ : ∃ r, nGet ((l.drop 148).take 8) = r := ⟨_, rfl⟩
  have ht : told l = if r.2 ≠ 0 then (0, r.2) else if r.1 < 0 ∨ r.1 > 1048576 then (0, 3) else (r.1, 0) := by unfold told; simp only [hr]
  rw [hr] at hG
  obtain ⟨r1, r2⟩ := r
  simp only [] at ht hG
  have HG := Lib.hid hG
  clear hG hr hrd h hl
  by_cases h2 : r2 = 0
  · subst h2
    by_cases h3 : r1 < 0
    · rw [ht, if_neg (by simp), if_pos (.inl h3)]
      clear ht
      go_enter Tryz.func99, Tryz.ntmps99
      go_wp2_with (go_at_call 102; go_must (refine HG.out.mono ?_); rintro e w1 ⟨rfl, hb⟩; have HB := Lib.hid hb; clear hb)
      go_ret2
      exact ⟨rfl, HB.out⟩
    · by_cases h4 : 1048576 < r1
      · rw [ht, if_neg (by simp), if_pos (.inr h4)]
        clear ht
        go_enter Tryz.func99, Tryz.ntmps99
        go_wp2_with (go_at_call 102; go_must (refine HG.out.mono ?_); rintro e w1 ⟨rfl, hb⟩; have HB := Lib.hid hb; clear hb)
        go_ret2
        exact ⟨rfl, HB.out⟩
      · rw [ht, if_neg (by simp), if_neg (by omega)]
        clear ht
        go_enter Tryz.func99, Tryz.ntmps99
        go_wp2_with (go_at_call 102; go_must (refine HG.out.mono ?_); rintro e w1 ⟨rfl, hb⟩; have HB := Lib.hid hb; clear hb)
        go_ret2
        exact ⟨rfl, HB.out⟩
  · rw [ht, if_pos h2]
    have hne : (r2 != 0) = true := by rw [bne_iff_ne]; exact h2
    clear ht h2
    go_enter Tryz.func99, Tryz.ntmps99
    go_wp2_with (go_at_call 102; go_must (refine HG.out.mono ?_); rintro e w1 ⟨rfl, hb⟩; have HB := Lib.hid hb; clear hb)
    go_ret2
    exact ⟨rfl, HB.out⟩

set_option maxRecDepth 100000 in
set_option maxHeartbeats 1000000 in
theorem hsum_Check (A : Option Addr) (c : Nat) (l : Bs) (w : World) (hl : l.length = 512) (hc : 512 ≤ c) (hbig : c ≤ 9223372036854775807) (h : Rd w A l) :
    Calls Tryz.prog 64 #[.slice A 512 c] w fun e w' => e = .returned (.int .i64 (hCheck l)) ∧ Below w.heap.size w w' := by
  have hT := hsum_Told A c l w hl hc hbig h
  have hS := fun W hW => hsum_Sum A c l W hl hc hW
  have hr : hCheck l = if (told l).2 ≠ 0 then (told l).2 else if (hsum l : Int) ≠ (told l).1 then 9 else 0 := by unfold hCheck; rw [if_neg (by omega)]
  obtain ⟨t, ht⟩ : ∃ t, told l = t := ⟨_, rfl⟩
  rw [ht] at hr hT
  obtain ⟨t1, t2⟩ := t
  simp only [] at hr hT
  have HT := Lib.hid hT
  have HS := Lib.hid hS
  have HH := Lib.hid h
  clear hT hS h ht
  by_cases h2 : t2 = 0
  · subst h2
    rw [if_neg (by simp)] at hr
    by_cases h3 : (hsum l : Int) = t1
    · have hne : ((hsum l : Int) != t1) = false := by rw [bne_eq_false_iff_eq]; exact h3
      rw [hr, if_neg (by simpa using h3)]
      clear hr h3
      go_enter Tryz.func64, Tryz.ntmps64
      go_wp2_with (first | (go_at_call 99; go_must (refine HT.out.mono ?_); rintro e w1 ⟨rfl, hb⟩; have HB := Lib.hid hb; clear hb) | (go_at_call 100; go_must (refine (HS.out _ (HH.out.below HB.out)).mono ?_); rintro e w2 ⟨rfl, rfl⟩))
      go_ret
      exact ⟨rfl, HB.out⟩
    · have hne : ((hsum l : Int) != t1) = true := by rw [bne_iff_ne]; exact h3
      rw [hr, if_pos h3]
      clear hr h3
      go_enter Tryz.func64, Tryz.ntmps64
      go_wp2_with (first | (go_at_call 99; go_must (refine HT.out.mono ?_); rintro e w1 ⟨rfl, hb⟩; have HB := Lib.hid hb; clear hb) | (go_at_call 100; go_must (refine (HS.out _ (HH.out.below HB.out)).mono ?_); rintro e w2 ⟨rfl, rfl⟩))
      go_ret
      exact ⟨rfl, HB.out⟩
  · have hne : (t2 != 0) = true := by rw [bne_iff_ne]; exact h2
    rw [hr, if_pos h2]
    clear hr h2
    go_enter Tryz.func64, Tryz.ntmps64
    go_wp2_with (first | (go_at_call 99; go_must (refine HT.out.mono ?_); rintro e w1 ⟨rfl, hb⟩; have HB := Lib.hid hb; clear hb) | (go_at_call 100; go_must (refine (HS.out _ (HH.out.below HB.out)).mono ?_); rintro e w2 ⟨rfl, rfl⟩))
    go_ret
    exact ⟨rfl, HB.out⟩
end Go.Proofs.YtckgjbpgdpcnnaaGreatDoor
