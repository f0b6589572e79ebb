/-
  thwartlaw08.MembTypes: the walk.
-/
import Derived.Test.YtckgjbpgdpcnnaaGreatDoorAlv
import Derived.Test.YtckgjbpgdpcnnaaGreatDoorRfa
namespace Go.Proofs.YtckgjbpgdpcnnaaGreatDoor
set_option linter.all false
set_option linter.unusedVariables false
set_option linter.unusedSimpArgs false
open Go.RowKit Pl
attribute [local go_sem] st_toList st_size

theorem mType_mKind (c : UInt8) (h : mKind c ≠ 0) : mType (mKind c) = c := by
  unfold mKind at h ⊢
  split at h
  · rename_i e; rw [if_pos e, e]; rfl
  · rename_i e0
    rw [if_neg e0]
    split at h
    · rename_i e; rw [if_pos e, e]; rfl
    · rename_i e1
      rw [if_neg e1]
      split at h
      · rename_i e; rw [if_pos e, e]; rfl
      · rename_i e2
        rw [if_neg e2]
        split at h
        · rename_i e; rw [if_pos e, e]; rfl
        · exact absurd rfl h
theorem mType_ne (k : Int) (h : mType k ≠ 0) : mKind (mType k) = k := by
  apply mKind_mType
  unfold mType at h
  split at h
  · omega
  · split at h
    · omega
    · split at h
      · omega
      · split at h
        · omega
        · exact absurd rfl h
theorem mKind_i64 (c : UInt8) : -9223372036854775808 ≤ mKind c ∧ mKind c ≤ 9223372036854775807 := by
  unfold mKind
  (repeat' split) <;> omega
set_option maxRecDepth 100000 in
set_option maxHeartbeats 4000000 in
theorem law_MembTypes (k : Int) (c : UInt8) (w : World) (h1 : -9223372036854775808 ≤ k) (h2 : k ≤ 9223372036854775807) (hg : Glob w) : Calls Tryz.prog 3 #[.int .i64 k, .int .u8 (c.toNat : Int)] w fun e w' => e = .returned (.bool true) ∧ Below w.heap.size w w' := by
  have hT := fun W => memb_Type k W h1 h2
  have hK := fun W => memb_Kind c W
  have hRT := fun W => ref8_Type k W h1 h2
  have hRK := fun W => ref8_Kind c W
  have hA := fun W h => alive08 W h
  have hTK := fun W => memb_Kind (mType k) W
  have hKT := fun W => memb_Type (mKind c) W (mKind_i64 c).1 (mKind_i64 c).2
  have e1 := mType_ne k
  have e2 := mType_mKind c
  obtain ⟨T, hTT⟩ : ∃ T, mType k = T := ⟨_, rfl⟩
  obtain ⟨K, hKK⟩ : ∃ K, mKind c = K := ⟨_, rfl⟩
  rw [hTT] at hT hRT hTK e1
  rw [hKK] at hK hRK hKT e2
  have HT := Lib.hid hT
  have HK := Lib.hid hK
  have HRT := Lib.hid hRT
  have HRK := Lib.hid hRK
  have HA := Lib.hid hA
  have HG := Lib.hid hg
  by_cases t0 : T = 0
  · have ht0 : ((T.toNat : Int) == 0) = true := by rw [t0]; rfl
    by_cases k0 : K = 0
    · have hk0 : (K == 0) = true := by rw [k0]; rfl
      clear hT hK hRT hRK hA hTT hKK hTK hKT e1 e2 hg t0 k0
      go_enter Tryz.func3, Tryz.ntmps3
      go_wp2_with (first | (go_at_call 11; refine (HT.out _).mono ?_; rintro e w' ⟨rfl, rfl⟩) | (go_at_call 12; refine (HK.out _).mono ?_; rintro e w' ⟨rfl, rfl⟩) | (go_at_call 13; refine (HRT.out _).mono ?_; rintro e w1 ⟨rfl, hb⟩; have HB1 := Lib.hid hb; clear hb) | (go_at_call 14; refine (HRK.out _).mono ?_; rintro e w2 ⟨rfl, hb⟩; have HB2 := Lib.hid (HB1.out.trans (hb.mono HB1.out.size)); clear hb) | (go_at_call 15; refine (HA.out _ (HG.out.below HB2.out)).mono ?_; rintro e w3 ⟨rfl, hb⟩; have HB3 := Lib.hid (HB2.out.trans (hb.mono HB2.out.size)); clear hb))
      go_ret
      exact ⟨rfl, HB3.out⟩
    · have hk0 : (K == 0) = false := by rw [beq_eq_false_iff_ne]; exact k0
      rw [e2 k0] at hKT
      have HKT := Lib.hid hKT
      clear hT hK hRT hRK hA hTT hKK hTK hKT e1 e2 hg t0 k0
      go_enter Tryz.func3, Tryz.ntmps3
      go_wp2_with (first | (go_at_call 11; have hx := HB2; clear hx; refine (HKT.out _).mono ?_; rintro e w' ⟨rfl, rfl⟩) | (go_at_call 11; refine (HT.out _).mono ?_; rintro e w' ⟨rfl, rfl⟩) | (go_at_call 12; refine (HK.out _).mono ?_; rintro e w' ⟨rfl, rfl⟩) | (go_at_call 13; refine (HRT.out _).mono ?_; rintro e w1 ⟨rfl, hb⟩; have HB1 := Lib.hid hb; clear hb) | (go_at_call 14; refine (HRK.out _).mono ?_; rintro e w2 ⟨rfl, hb⟩; have HB2 := Lib.hid (HB1.out.trans (hb.mono HB1.out.size)); clear hb) | (go_at_call 15; refine (HA.out _ (HG.out.below HB2.out)).mono ?_; rintro e w3 ⟨rfl, hb⟩; have HB3 := Lib.hid (HB2.out.trans (hb.mono HB2.out.size)); clear hb))
      go_ret
      exact ⟨rfl, HB3.out⟩
  · have ht0 : ((T.toNat : Int) == 0) = false := byte_ne T 0 t0
    by_cases k0 : K = 0
    · have hk0 : (K == 0) = true := by rw [k0]; rfl
      rw [e1 t0] at hTK
      have HTK := Lib.hid hTK
      clear hT hK hRT hRK hA hTT hKK hTK hKT e1 e2 hg t0 k0
      go_enter Tryz.func3, Tryz.ntmps3
      go_wp2_with (first | (go_at_call 12; have hx := HB2; clear hx; refine (HTK.out _).mono ?_; rintro e w' ⟨rfl, rfl⟩) | (go_at_call 11; refine (HT.out _).mono ?_; rintro e w' ⟨rfl, rfl⟩) | (go_at_call 12; refine (HK.out _).mono ?_; rintro e w' ⟨rfl, rfl⟩) | (go_at_call 13; refine (HRT.out _).mono ?_; rintro e w1 ⟨rfl, hb⟩; have HB1 := Lib.hid hb; clear hb) | (go_at_call 14; refine (HRK.out _).mono ?_; rintro e w2 ⟨rfl, hb⟩; have HB2 := Lib.hid (HB1.out.trans (hb.mono HB1.out.size)); clear hb) | (go_at_call 15; refine (HA.out _ (HG.out.below HB2.out)).mono ?_; rintro e w3 ⟨rfl, hb⟩; have HB3 := Lib.hid (HB2.out.trans (hb.mono HB2.out.size)); clear hb))
      go_ret
      exact ⟨rfl, HB3.out⟩
    · have hk0 : (K == 0) = false := by rw [beq_eq_false_iff_ne]; exact k0
      rw [e1 t0] at hTK
      have HTK := Lib.hid hTK
      rw [e2 k0] at hKT
      have HKT := Lib.hid hKT
      clear hT hK hRT hRK hA hTT hKK hTK hKT e1 e2 hg t0 k0
      go_enter Tryz.func3, Tryz.ntmps3
      go_wp2_with (first | (go_at_call 12; have hx := HB2; clear hx; refine (HTK.out _).mono ?_; rintro e w' ⟨rfl, rfl⟩) | (go_at_call 11; have hx := HB2; clear hx; refine (HKT.out _).mono ?_; rintro e w' ⟨rfl, rfl⟩) | (go_at_call 11; refine (HT.out _).mono ?_; rintro e w' ⟨rfl, rfl⟩) | (go_at_call 12; refine (HK.out _).mono ?_; rintro e w' ⟨rfl, rfl⟩) | (go_at_call 13; refine (HRT.out _).mono ?_; rintro e w1 ⟨rfl, hb⟩; have HB1 := Lib.hid hb; clear hb) | (go_at_call 14; refine (HRK.out _).mono ?_; rintro e w2 ⟨rfl, hb⟩; have HB2 := Lib.hid (HB1.out.trans (hb.mono HB1.out.size)); clear hb) | (go_at_call 15; refine (HA.out _ (HG.out.below HB2.out)).mono ?_; rintro e w3 ⟨rfl, hb⟩; have HB3 := Lib.hid (HB2.out.trans (hb.mono HB2.out.size)); clear hb))
      go_ret
      exact ⟨rfl, HB3.out⟩
end Go.Proofs.YtckgjbpgdpcnnaaGreatDoor
