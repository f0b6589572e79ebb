/-
  THE CONTRACTS of package numf, on: digits, Get.
-/
import Derived.Test.YtckgjbpgdpcnnaaGreatDoorNumh
namespace Go.Proofs.YtckgjbpgdpcnnaaGreatDoor
set_option linter.all false
set_option linter.unusedVariables false
set_option linter.unusedSimpArgs false
open Go.RowKit Pl

theorem tw_le (f : UInt8 → Bool) (l : Bs) : (l.takeWhile f).length ≤ l.length := by
  have h := congrArg List.length (List.takeWhile_append_dropWhile (p := f) (l := l))
  rw [List.length_append] at h
  omega
theorem tw_in (f : UInt8 → Bool) (l : Bs) (k : Nat) (h : k < (l.takeWhile f).length) : f (l.getD k 0) = true := by
  have h2 := List.takeWhile_append_dropWhile (p := f) (l := l)
  have hg : l.getD k 0 = (l.takeWhile f)[k] := by
    have hk : k < l.length := Nat.lt_of_lt_of_le h (tw_le f l)
    have e : l[k]? = (l.takeWhile f)[k]? := by
      conv => lhs; rw [← h2]
      exact List.getElem?_append_left h
    rw [List.getD_eq_getElem?_getD, e, List.getElem?_eq_getElem h]
    rfl
  rw [hg]
  exact takeWhile_mem f l _ (List.getElem_mem h)
theorem tw_out (f : UInt8 → Bool) (l : Bs) (h : (l.takeWhile f).length < l.length) : f (l.getD (l.takeWhile f).length 0) = false := by
  induction l with
  | nil => simp at h
  | cons a l ih =>
    rw [List.takeWhile_cons] at h ⊢
    split
    · rename_i ha
      rw [if_pos ha] at h
      simp only [List.length_cons] at h ⊢
      have := ih (by omega)
      simpa [List.getD] using this
    · rename_i ha
      simpa [List.getD] using ha

set_option maxRecDepth 100000 in
set_option maxHeartbeats 1000000 in
theorem numf_digits (A : Option Addr) (n c : Nat) (l : Bs) (w : World) (hl : l.length = n) (hc : n ≤ c) (hn : n ≤ 9223372036854775807) (h : Rd w A l) :
    Calls Tryz.prog 132 #[.slice A n c] w fun e w' => e = .returned (.slice A (l.takeWhile isOct).length c) ∧ w = w' := by
  have hle := tw_le isOct l
  obtain ⟨t, ht⟩ : ∃ t, (l.takeWhile isOct).length = t := ⟨_, rfl⟩
  have hin := fun k => tw_in isOct l k
  have hout := tw_out isOct l
  rw [ht] at hin hout hle ⊢
  have hcut := cut_to .i64 A n c t (by omega)
  go_enter Tryz.func132, Tryz.ntmps132
  go_wp2
  go_loop [3] (fun i => ∃ k : Nat, k ≤ t ∧ i = .int .i64 k) (fun i => t - (intOf i).toNat)
  case atStart => exact ⟨0, by omega, rfl⟩
  case round =>
    obtain ⟨k, hk, rfl⟩ := hrel
    by_cases hlt : k < t
    · obtain ⟨b, o, rfl, hcell⟩ := h.cell (j := k) (by omega)
      have hx := hin k hlt
      obtain ⟨x, hxx⟩ : ∃ x : UInt8, l.getD k 0 = x := ⟨_, rfl⟩
      rw [hxx] at hcell hx
      have hx2 : 48 ≤ x.toNat ∧ x.toNat ≤ 55 := by simpa [isOct] using hx
      obtain ⟨x1, x2⟩ := hx2
      have hkn : k < n := by omega
      clear h hin hout hx hxx hcut
      go_wp2
      go_round
      case rel => exact ⟨k + 1, by omega, by go_num⟩
      case measure => simp [intOf]; omega
    · obtain rfl : k = t := by omega
      clear hin
      by_cases hkn : k < n
      · obtain ⟨b, o, rfl, hcell⟩ := h.cell (j := k) (by omega)
        have hx := hout (by omega)
        obtain ⟨x, hxx⟩ : ∃ x : UInt8, l.getD k 0 = x := ⟨_, rfl⟩
        rw [hxx] at hcell hx
        have hx2 : ¬ (48 ≤ x.toNat ∧ x.toNat ≤ 55) := by simpa [isOct] using hx
        clear h hout hx hxx
        by_cases h48 : 48 ≤ x.toNat
        · have h55 : ¬ x.toNat ≤ 55 := by omega
          clear hx2
          go_wp2
          go_ret
          exact ⟨rfl, rfl⟩
        · clear hx2
          go_wp2
          go_ret
          exact ⟨rfl, rfl⟩
      · clear hout h
        go_wp2
        go_ret
        exact ⟨rfl, rfl⟩
end Go.Proofs.YtckgjbpgdpcnnaaGreatDoor
