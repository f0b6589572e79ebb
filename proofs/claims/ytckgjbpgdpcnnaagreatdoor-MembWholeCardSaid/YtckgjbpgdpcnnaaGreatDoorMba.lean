/-
  THE CONTRACTS of package memb: kinds, numbers, what may be.
-/
import Derived.Test.YtckgjbpgdpcnnaaGreatDoorPath
import Derived.Test.YtckgjbpgdpcnnaaGreatDoorHeae
namespace Go.Proofs.YtckgjbpgdpcnnaaGreatDoor
set_option linter.all false
set_option linter.unusedVariables false
set_option linter.unusedSimpArgs false
open Go.RowKit Pl
attribute [local go_sem] st_toList st_size

theorem bcell {W w1 : World} (hb : Below W.heap.size W w1) : (∀ b o, b < W.heap.size → w1.cell? ⟨b, o, none⟩ = W.cell? ⟨b, o, none⟩) ∧ (∀ b o, b < W.heap.size → w1.frozen? ⟨b, o, none⟩ = W.frozen? ⟨b, o, none⟩) :=
  ⟨fun b o h => hb.cell (p := ⟨b, o, none⟩) h, fun b o h => hb.frozen (p := ⟨b, o, none⟩) h⟩
theorem memb_Type (k : Int) (w : World) (h : -9223372036854775808 ≤ k) (h1 : k ≤ 9223372036854775807) : Calls Tryz.prog 11 #[.int .i64 k] w fun e w' => e = .returned (.int .u8 ((mType k).toNat : Int)) ∧ w = w' := by
  have hh : k < 1 ∨ k = 1 ∨ k = 2 ∨ k = 3 ∨ k = 4 ∨ 4 < k := by omega
  rcases hh with hk | rfl | rfl | rfl | rfl | hk
  · have e : mType k = 0 := by unfold mType; rw [if_neg (by omega), if_neg (by omega), if_neg (by omega), if_neg (by omega)]
    rw [e]
    clear e
    go_enter Tryz.func11, Tryz.ntmps11
    go_wp2
    go_ret
    exact ⟨rfl, rfl⟩
  · go_enter Tryz.func11, Tryz.ntmps11
    go_wp2
    go_ret
    exact ⟨rfl, rfl⟩
  · go_enter Tryz.func11, Tryz.ntmps11
    go_wp2
    go_ret
    exact ⟨rfl, rfl⟩
  · go_enter Tryz.func11, Tryz.ntmps11
    go_wp2
    go_ret
    exact ⟨rfl, rfl⟩
  · go_enter Tryz.func11, Tryz.ntmps11
    go_wp2
    go_ret
    exact ⟨rfl, rfl⟩
  · have e : mType k = 0 := by unfold mType; rw [if_neg (by omega), if_neg (by omega), if_neg (by omega), if_neg (by omega)]
    rw [e]
    clear e
    have h2 : ¬ k < 1 := by omega
    go_enter Tryz.func11, Tryz.ntmps11
    go_wp2
    go_ret
    exact ⟨rfl, rfl⟩
theorem mKind_index (c : UInt8) : Lib.indexByte [48, 49, 50, 53] c + 1 = mKind c := by
  unfold mKind
  by_cases h1 : c = 48
  · subst h1; rfl
  · by_cases h2 : c = 49
    · subst h2; rfl
    · by_cases h3 : c = 50
      · subst h3; rfl
      · by_cases h4 : c = 53
        · subst h4; rfl
        · rw [if_neg h1, if_neg h2, if_neg h3, if_neg h4]
          have g1 : ((48 : UInt8) == c) = false := by simpa using fun e => h1 (e.symm)
          have g2 : ((49 : UInt8) == c) = false := by simpa using fun e => h2 (e.symm)
          have g3 : ((50 : UInt8) == c) = false := by simpa using fun e => h3 (e.symm)
          have g4 : ((53 : UInt8) == c) = false := by simpa using fun e => h4 (e.symm)
          simp [Lib.indexByte, g1, g2, g3, g4]
theorem memb_Kind (c : UInt8) (w : World) : Calls Tryz.prog 12 #[.int .u8 (c.toNat : Int)] w fun e w' => e = .returned (.int .i64 (mKind c)) ∧ w = w' := by
  have hI := fun W => lib_IndexByte { data := #[48, 49, 50, 53] } c W
  have e := mKind_index c
  rw [show (({ data := #[48, 49, 50, 53] } : ByteArray).data.toList) = [48, 49, 50, 53] from rfl] at hI
  obtain ⟨i, hi⟩ : ∃ i, Lib.indexByte [48, 49, 50, 53] c = i := ⟨_, rfl⟩
  rw [hi] at hI e
  rw [← e]
  have h0 : -1 ≤ i := by rw [← hi]; exact Lib.indexByte_ge _ _
  have h1 : i ≤ 3 := by
    have : mKind c ≤ 4 := by unfold mKind; split; omega; split; omega; split; omega; split <;> omega
    omega
  have HI := Lib.hid hI
  clear hI hi e
  go_enter Tryz.func12, Tryz.ntmps12
  go_wp2_with (go_at_call 49; refine (HI.out _).mono ?_; rintro e w' ⟨rfl, rfl⟩)
  go_ret
  exact ⟨rfl, rfl⟩
def wi (n a b : Int) : Bool := decide (a ≤ n ∧ n ≤ b)
theorem memb_within (n a b : Int) (w : World) : Calls Tryz.prog 118 #[.int .i64 n, .int .i64 a, .int .i64 b] w fun e w' => e = .returned (.bool (wi n a b)) ∧ w = w' := by
  cases h : wi n a b with
  | true =>
    obtain ⟨h1, h2⟩ := of_decide_eq_true h
    clear h
    go_enter Tryz.func118, Tryz.ntmps118
    go_wp2
    go_ret
    exact ⟨rfl, rfl⟩
  | false =>
    have hh := of_decide_eq_false h
    clear h
    by_cases h1 : a ≤ n
    · have h2 : ¬ n ≤ b := fun h => hh ⟨h1, h⟩
      clear hh
      go_enter Tryz.func118, Tryz.ntmps118
      go_wp2
      go_ret
      exact ⟨rfl, rfl⟩
    · clear hh
      go_enter Tryz.func118, Tryz.ntmps118
      go_wp2
      go_ret
      exact ⟨rfl, rfl⟩
def mtV (m : Meta) : Value := .agg #[.int .i64 m.mode, .int .i64 m.uid, .int .i64 m.gid, .int .i64 m.mtime]
theorem numbersOk_wi (m : Meta) : numbersOk m = (wi m.mode 0 4095 && (wi m.uid 0 1099511627775 && (wi m.gid 0 1099511627775 && wi m.mtime (-1125899906842624) 1125899906842624))) := by
  unfold numbersOk wi
  simp only [← Bool.decide_and]
  rw [decide_eq_decide]
  simp only [and_assoc]
set_option maxRecDepth 100000 in
set_option maxHeartbeats 2000000 in
theorem memb_numbers (m : Meta) (w : World) : Calls Tryz.prog 87 #[mtV m] w fun e w' => e = .returned (.bool (numbersOk m)) ∧ Below w.heap.size w w' := by
  rw [numbersOk_wi]
  obtain ⟨a, b, c, d⟩ := m
  unfold mtV
  simp only []
  have hA := fun W => memb_within a 0 4095 W
  have hB := fun W => memb_within b 0 1099511627775 W
  have hC := fun W => memb_within c 0 1099511627775 W
  have hD := fun W => memb_within d (-1125899906842624) 1125899906842624 W
  obtain ⟨x, hx⟩ : ∃ x, wi a 0 4095 = x := ⟨_, rfl⟩
  obtain ⟨y, hy⟩ : ∃ x, wi b 0 1099511627775 = x := ⟨_, rfl⟩
  obtain ⟨z, hz⟩ : ∃ x, wi c 0 1099511627775 = x := ⟨_, rfl⟩
  obtain ⟨u, hu⟩ : ∃ x, wi d (-1125899906842624) 1125899906842624 = x := ⟨_, rfl⟩
  rw [hx] at hA
  rw [hy] at hB
  rw [hz] at hC
  rw [hu] at hD
  rw [hx, hy, hz, hu]
  have HA := Lib.hid hA
  have HB := Lib.hid hB
  have HC := Lib.hid hC
  have HD := Lib.hid hD
  clear hA hB hC hD hx hy hz hu
  cases x
  · go_enter Tryz.func87, Tryz.ntmps87
    go_wp2_with (go_at_call 118; refine (HA.out _).mono ?_; rintro e w' ⟨rfl, rfl⟩)
    go_ret
    exact ⟨rfl, (Below.refl _ _).alloc (Nat.le_refl _) _⟩
  · cases y
    · go_enter Tryz.func87, Tryz.ntmps87
      go_wp2_with (first | (go_at_call 118; have hx := HA; clear hx; refine (HA.out _).mono ?_; clear HA; rintro e w' ⟨rfl, rfl⟩) | (go_at_call 118; refine (HB.out _).mono ?_; clear HB; rintro e w' ⟨rfl, rfl⟩))
      go_ret
      exact ⟨rfl, (Below.refl _ _).alloc (Nat.le_refl _) _⟩
    · cases z
      · go_enter Tryz.func87, Tryz.ntmps87
        go_wp2_with (first | (go_at_call 118; have hx := HA; clear hx; refine (HA.out _).mono ?_; clear HA; rintro e w' ⟨rfl, rfl⟩) | (go_at_call 118; have hx := HB; clear hx; refine (HB.out _).mono ?_; clear HB; rintro e w' ⟨rfl, rfl⟩) | (go_at_call 118; refine (HC.out _).mono ?_; clear HC; rintro e w' ⟨rfl, rfl⟩))
        go_ret
        exact ⟨rfl, (Below.refl _ _).alloc (Nat.le_refl _) _⟩
      · go_enter Tryz.func87, Tryz.ntmps87
        go_wp2_with (first | (go_at_call 118; have hx := HA; clear hx; refine (HA.out _).mono ?_; clear HA; rintro e w' ⟨rfl, rfl⟩) | (go_at_call 118; have hx := HB; clear hx; refine (HB.out _).mono ?_; clear HB; rintro e w' ⟨rfl, rfl⟩) | (go_at_call 118; have hx := HC; clear hx; refine (HC.out _).mono ?_; clear HC; rintro e w' ⟨rfl, rfl⟩) | (go_at_call 118; refine (HD.out _).mono ?_; clear HD; rintro e w' ⟨rfl, rfl⟩))
        go_ret
        exact ⟨by simp, (Below.refl _ _).alloc (Nat.le_refl _) _⟩
end Go.Proofs.YtckgjbpgdpcnnaaGreatDoor
