/-
  THE CONTRACTS of the document's answer for layer 8: Type, Kind.
-/
import Derived.Test.YtckgjbpgdpcnnaaGreatDoorMbg
namespace Go.Proofs.YtckgjbpgdpcnnaaGreatDoor
set_option linter.all false
set_option linter.unusedVariables false
set_option linter.unusedSimpArgs false
open Go.RowKit Pl
attribute [local go_sem] st_toList st_size

set_option maxRecDepth 100000 in
theorem ref8_Type (k : Int) (w : World) (h : -9223372036854775808 ≤ k) (h1 : k ≤ 9223372036854775807) : Calls Tryz.prog 13 #[.int .i64 k] w fun e w' => e = .returned (.int .u8 ((mType k).toNat : Int)) ∧ Below w.heap.size w w' := by
  have hh : k < 1 ∨ k = 1 ∨ k = 2 ∨ k = 3 ∨ k = 4 ∨ 4 < k := by omega
  rcases hh with hk | rfl | rfl | rfl | rfl | hk
  · have e : mType k = 0 := by unfold mType; rw [if_neg (by omega), if_neg (by omega), if_neg (by omega), if_neg (by omega)]
    rw [e]
    clear e
    go_enter Tryz.func13, Tryz.ntmps13
    go_wp2
    go_ret
    exact ⟨rfl, Below.refl _ _⟩
  · go_enter Tryz.func13, Tryz.ntmps13
    go_wp2
    go_ret
    exact ⟨rfl, (Below.refl _ _).alloc (Nat.le_refl _) _⟩
  · go_enter Tryz.func13, Tryz.ntmps13
    go_wp2
    go_ret
    exact ⟨rfl, (Below.refl _ _).alloc (Nat.le_refl _) _⟩
  · go_enter Tryz.func13, Tryz.ntmps13
    go_wp2
    go_ret
    exact ⟨rfl, (Below.refl _ _).alloc (Nat.le_refl _) _⟩
  · go_enter Tryz.func13, Tryz.ntmps13
    go_wp2
    go_ret
    exact ⟨rfl, (Below.refl _ _).alloc (Nat.le_refl _) _⟩
  · have e : mType k = 0 := by unfold mType; rw [if_neg (by omega), if_neg (by omega), if_neg (by omega), if_neg (by omega)]
    rw [e]
    clear e
    have h2 : ¬ k < 1 := by omega
    go_enter Tryz.func13, Tryz.ntmps13
    go_wp2
    go_ret
    exact ⟨rfl, Below.refl _ _⟩
set_option maxRecDepth 100000 in
theorem ref8_Kind (c : UInt8) (w : World) : Calls Tryz.prog 14 #[.int .u8 (c.toNat : Int)] w fun e w' => e = .returned (.int .i64 (mKind c)) ∧ Below w.heap.size w w' := by
  have hT := fun k W h1 h2 => ref8_Type k W h1 h2
  have HT := Lib.hid hT
  obtain ⟨R, hR⟩ : ∃ R, mKind c = R := ⟨_, rfl⟩
  rw [hR]
  have HR := Lib.hid hR
  clear hT hR
  go_enter Tryz.func14, Tryz.ntmps14
  go_wp2
  go_loopw [3] (fun i wr => ∃ k : Nat, 1 ≤ k ∧ k ≤ 5 ∧ i = .int .i64 (k : Int) ∧ Hid (∀ j : Nat, 1 ≤ j → j < k → mType j ≠ c) ∧ Hid (Below w.heap.size w wr)) (fun i _ => 5 - (intOf i).toNat)
  case atStart => exact ⟨1, by omega, by omega, rfl, Lib.hid (fun j h1 h2 => by omega), Lib.hid (Below.refl _ _)⟩
  case round =>
    obtain ⟨k, hk1, hk5, rfl, HN, HB⟩ := hrel
    by_cases hlt : k ≤ 4
    · have hT2 := fun W => HT.out (k : Int) W (by omega) (by omega)
      by_cases he : mType (k : Int) = c
      · rw [he] at hT2
        have hm : R = (k : Int) := by
          rw [← HR.out, ← he]
          exact mKind_mType _ ⟨by omega, by omega⟩
        subst hm
        have HT2 := Lib.hid hT2
        clear hT2 he HN HT HR
        go_wp2_with (go_at_call 13; refine (HT2.out _).mono ?_; rintro e w' ⟨rfl, hb⟩; have HB2 := Lib.hid (HB.out.trans (hb.mono HB.out.size)); clear hb)
        go_ret
        exact ⟨rfl, HB2.out⟩
      · have hN2 : ∀ j : Nat, 1 ≤ j → j < k + 1 → mType j ≠ c := fun j h1 h2 => by
          rcases Nat.lt_or_ge j k with h | h
          · exact HN.out j h1 h
          · obtain rfl : j = k := by omega
            exact he
        have HN2 := Lib.hid hN2
        have hne := byte_ne (mType (k : Int)) c he
        obtain ⟨T, hTT⟩ : ∃ T, mType (k : Int) = T := ⟨_, rfl⟩
        rw [hTT] at hT2 hne
        have HT2 := Lib.hid hT2
        clear hT2 hN2 he hTT HN HR
        go_wp2_with (go_at_call 13; refine (HT2.out _).mono ?_; rintro e w' ⟨rfl, hb⟩; have HB2 := Lib.hid (HB.out.trans (hb.mono HB.out.size)); clear hb)
        go_roundw
        case rel => exact ⟨k + 1, by omega, by omega, by go_num, HN2, HB2⟩
        case measure => simp [intOf]; omega
    · obtain rfl : k = 5 := by omega
      have hm : R = 0 := by
        rw [← HR.out]
        have a1 := HN.out 1 (by omega) (by omega)
        have a2 := HN.out 2 (by omega) (by omega)
        have a3 := HN.out 3 (by omega) (by omega)
        have a4 := HN.out 4 (by omega) (by omega)
        unfold mKind
        rw [if_neg (fun h => a1 (by rw [h]; rfl)), if_neg (fun h => a2 (by rw [h]; rfl)), if_neg (fun h => a3 (by rw [h]; rfl)), if_neg (fun h => a4 (by rw [h]; rfl))]
      subst hm
      clear HN HR HT
      go_wp2
      go_ret
      exact ⟨rfl, HB.out⟩
end Go.Proofs.YtckgjbpgdpcnnaaGreatDoor
