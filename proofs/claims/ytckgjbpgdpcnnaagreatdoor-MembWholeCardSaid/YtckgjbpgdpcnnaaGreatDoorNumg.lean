/-
  THE CONTRACTS of package numf, on: Put.
-/
import Derived.Test.YtckgjbpgdpcnnaaGreatDoorNumf
namespace Go.Proofs.YtckgjbpgdpcnnaaGreatDoor
set_option linter.all false
set_option linter.unusedVariables false
set_option linter.unusedSimpArgs false
open Go.RowKit Pl

theorem octs_len (n d : Nat) : (octs n d).length = d := by simp [octs]
theorem baseB_len (n : Int) (w : Nat) (h : 1 ≤ w) : (baseB n w).length = w := by simp [baseB]; omega

theorem numf_Plain8 (n : Int) (h0 : -9223372036854775808 ≤ n) (h1 : n ≤ 9223372036854775807) (w : World) :
    Calls Tryz.prog 157 #[.int .i64 n, .int .i64 8] w fun e w' => e = .returned (.bool (isPlain n 8)) ∧ w = w' := numf_Plain n 8 (by omega) h0 h1 w
theorem numf_Octal7 (n : Int) (h0 : 0 ≤ n) (h1 : n ≤ (most 7 : Nat)) (h2 : n ≤ 9223372036854775807) (w : World) :
    Calls Tryz.prog 127 #[.int .i64 n, .int .i64 7] w fun e w' =>
      ∃ v, e = .returned (.tuple #[v, .int .i64 0]) ∧ w'.ownsRow w.heap.size 5 1 v 7 (bcs (octs n.toNat 7)) ∧ Below w.heap.size w w' := by
  obtain ⟨m, rfl⟩ := Int.eq_ofNat_of_zero_le h0
  exact numf_Octal m 7 (by omega) (by omega) (by omega) (by omega) w
set_option maxRecDepth 100000 in
set_option maxHeartbeats 1000000 in
theorem numf_Put8 (n : Int) (h0 : -9223372036854775808 ≤ n) (h1 : n ≤ 9223372036854775807) (w : World) :
    Calls Tryz.prog 126 #[.int .i64 n, .int .i64 8] w fun e w' =>
      ∃ v, e = .returned (.tuple #[v, .int .i64 (nPut n 8).2]) ∧ w'.ownsRow w.heap.size 5 1 v (nPut n 8).1.length (bcs (nPut n 8).1) ∧ Below w.heap.size w w' := by
  by_cases hp : isPlain n 8 = true
  · have hr : nPut n 8 = (octs n.toNat 7 ++ [0], 0) := by unfold nPut; rw [if_pos hp]
    rw [hr]
    simp only [List.length_append, octs_len, List.length_singleton]
    have hb : 0 ≤ n ∧ n ≤ (most 7 : Nat) := by simpa [isPlain] using hp
    obtain ⟨b1, b2⟩ := hb
    have HP := Lib.hid hp
    have HR := Lib.hid hr
    clear hp hr
    go_enter Tryz.func126, Tryz.ntmps126
    go_wp2_with (first | (go_at_call 131; refine (numf_isWidth _ _).mono ?_; rintro e w' ⟨rfl, rfl⟩) | (go_at_call 157; refine (numf_Plain8 _ h0 h1 _).mono ?_; rintro e w' ⟨rfl, rfl⟩; rw [HP.out]) | (go_at_call 127; go_must (refine (numf_Octal7 n b1 b2 h1 _).mono ?_); rintro e w' ⟨v, rfl, ho, hb⟩; have HO := Lib.hid ho; have HB := Lib.hid hb; have hsz := hb.size; clear ho hb) | (at_builtin; go_must (refine app_byte (w0 := w) w.heap.size rfl _ _ rfl _ 7 (octs n.toNat 7) 0 _ rfl (by rfl) (by rfl) HO.out HB.out hsz (by omega) ?_); intro v1 w1 HO2 HB2 _; have HO3 := Lib.hid HO2; have HB3 := Lib.hid HB2; clear HO2 HB2))
    go_ret2
    exact ⟨_, rfl, HO3.out, HB3.out⟩
  · by_cases hb : -72057594037927936 ≤ n ∧ n < 72057594037927936
    · have hr : nPut n 8 = (baseB n 8, 0) := by unfold nPut; rw [if_neg hp, if_neg (by omega)]
      rw [hr, baseB_len n 8 (by omega)]
      have hq : isPlain n 8 = false := by simpa using hp
      have HP := Lib.hid hq
      clear hp hr hq
      have HBD := Lib.hid hb
      clear hb
      go_enter Tryz.func126, Tryz.ntmps126
      go_wp2_with (first | (go_at_call 131; refine (numf_isWidth _ _).mono ?_; rintro e w' ⟨rfl, rfl⟩) | (go_at_call 157; refine (numf_Plain8 _ h0 h1 _).mono ?_; rintro e w' ⟨rfl, rfl⟩; rw [HP.out]) | (go_at_call 158; go_must (refine (numf_base8 n HBD.out h0 h1 _).mono ?_); rintro e w' ⟨v, rfl, ho, hb⟩; have HO := Lib.hid ho; have HB := Lib.hid hb; clear ho hb))
      go_ret2
      exact ⟨_, rfl, HO.out, HB.out⟩
    · have hr : nPut n 8 = ([], 10) := by unfold nPut; rw [if_neg hp, if_pos ⟨rfl, hb⟩]
      rw [hr]
      have hq : isPlain n 8 = false := by simpa using hp
      have HP := Lib.hid hq
      clear hp hr hq
      have HBD := Lib.hid hb
      clear hb
      go_enter Tryz.func126, Tryz.ntmps126
      go_wp2_with (first | (go_at_call 131; refine (numf_isWidth _ _).mono ?_; rintro e w' ⟨rfl, rfl⟩) | (go_at_call 157; refine (numf_Plain8 _ h0 h1 _).mono ?_; rintro e w' ⟨rfl, rfl⟩; rw [HP.out]) | (go_at_call 158; go_must (refine (numf_base_big n HBD.out h0 h1 _).mono ?_); rintro e w' ⟨rfl, rfl⟩))
      go_ret2
      exact ⟨_, rfl, World.ownsRow_nil _ _ _ _, Below.refl _ _⟩

theorem numf_Plain12 (n : Int) (h0 : -9223372036854775808 ≤ n) (h1 : n ≤ 9223372036854775807) (w : World) :
    Calls Tryz.prog 157 #[.int .i64 n, .int .i64 12] w fun e w' => e = .returned (.bool (isPlain n 12)) ∧ w = w' := numf_Plain n 12 (by omega) h0 h1 w
theorem numf_Octal11 (n : Int) (h0 : 0 ≤ n) (h1 : n ≤ (most 11 : Nat)) (h2 : n ≤ 9223372036854775807) (w : World) :
    Calls Tryz.prog 127 #[.int .i64 n, .int .i64 11] w fun e w' =>
      ∃ v, e = .returned (.tuple #[v, .int .i64 0]) ∧ w'.ownsRow w.heap.size 5 1 v 11 (bcs (octs n.toNat 11)) ∧ Below w.heap.size w w' := by
  obtain ⟨m, rfl⟩ := Int.eq_ofNat_of_zero_le h0
  exact numf_Octal m 11 (by omega) (by omega) (by omega) (by omega) w
set_option maxRecDepth 100000 in
set_option maxHeartbeats 1000000 in
theorem numf_Put12 (n : Int) (h0 : -9223372036854775808 ≤ n) (h1 : n ≤ 9223372036854775807) (w : World) :
    Calls Tryz.prog 126 #[.int .i64 n, .int .i64 12] w fun e w' =>
      ∃ v, e = .returned (.tuple #[v, .int .i64 (nPut n 12).2]) ∧ w'.ownsRow w.heap.size 5 1 v (nPut n 12).1.length (bcs (nPut n 12).1) ∧ Below w.heap.size w w' := by
  by_cases hp : isPlain n 12 = true
  · have hr : nPut n 12 = (octs n.toNat 11 ++ [0], 0) := by unfold nPut; rw [if_pos hp]
    rw [hr]
    simp only [List.length_append, octs_len, List.length_singleton]
    have hb : 0 ≤ n ∧ n ≤ (most 11 : Nat) := by simpa [isPlain] using hp
    obtain ⟨b1, b2⟩ := hb
    have HP := Lib.hid hp
    have HR := Lib.hid hr
    clear hp hr
    go_enter Tryz.func126, Tryz.ntmps126
    go_wp2_with (first | (go_at_call 131; refine (numf_isWidth _ _).mono ?_; rintro e w' ⟨rfl, rfl⟩) | (go_at_call 157; refine (numf_Plain12 _ h0 h1 _).mono ?_; rintro e w' ⟨rfl, rfl⟩; rw [HP.out]) | (go_at_call 127; go_must (refine (numf_Octal11 n b1 b2 h1 _).mono ?_); rintro e w' ⟨v, rfl, ho, hb⟩; have HO := Lib.hid ho; have HB := Lib.hid hb; have hsz := hb.size; clear ho hb) | (at_builtin; go_must (refine app_byte (w0 := w) w.heap.size rfl _ _ rfl _ 11 (octs n.toNat 11) 0 _ rfl (by rfl) (by rfl) HO.out HB.out hsz (by omega) ?_); intro v1 w1 HO2 HB2 _; have HO3 := Lib.hid HO2; have HB3 := Lib.hid HB2; clear HO2 HB2))
    go_ret2
    exact ⟨_, rfl, HO3.out, HB3.out⟩
  · have hr : nPut n 12 = (baseB n 12, 0) := by unfold nPut; rw [if_neg hp, if_neg (by omega)]
    rw [hr, baseB_len n 12 (by omega)]
    have hq : isPlain n 12 = false := by simpa using hp
    have HP := Lib.hid hq
    clear hp hr hq
    go_enter Tryz.func126, Tryz.ntmps126
    go_wp2_with (first | (go_at_call 131; refine (numf_isWidth _ _).mono ?_; rintro e w' ⟨rfl, rfl⟩) | (go_at_call 157; refine (numf_Plain12 _ h0 h1 _).mono ?_; rintro e w' ⟨rfl, rfl⟩; rw [HP.out]) | (go_at_call 158; go_must (refine (numf_base12 n h0 h1 _).mono ?_); rintro e w' ⟨v, rfl, ho, hb⟩; have HO := Lib.hid ho; have HB := Lib.hid hb; clear ho hb))
    go_ret2
    exact ⟨_, rfl, HO.out, HB.out⟩
end Go.Proofs.YtckgjbpgdpcnnaaGreatDoor
