/-
  THE CONTRACTS of package strf, on: Split, Fits, Join.
-/
import Derived.Test.YtckgjbpgdpcnnaaGreatDoorStr
import Derived.Test.YtckgjbpgdpcnnaaGreatDoorStrf
namespace Go.Proofs.YtckgjbpgdpcnnaaGreatDoor
set_option linter.all false
set_option linter.unusedVariables false
set_option linter.unusedSimpArgs false
open Go.RowKit Pl
attribute [local go_sem] st_toList st_size

theorem strf_Join (p n : Bs) (w : World) (hs : p.length + n.length < 4294967281) :
    Calls Tryz.prog 84 #[.string (st p), .string (st n)] w fun e w' => e = .returned (.string (st (sJoin p n))) ∧ w = w' := by
  have h1 : ¬ 9223372036854775807 < p.length + 1 := by omega
  have h2 : ¬ 9223372036854775807 < p.length + 1 + n.length := by omega
  by_cases hp : p = []
  · have hr : sJoin p n = n := by unfold sJoin; rw [if_pos hp]
    rw [hr]
    have hp2 : p.isEmpty = true := by rw [hp]; rfl
    clear hp hr
    go_enter Tryz.func84, Tryz.ntmps84
    go_wp2
    go_ret
    exact ⟨rfl, rfl⟩
  · have hr : sJoin p n = p ++ 47 :: n := by unfold sJoin; rw [if_neg hp]
    rw [hr]
    have hp2 : p.isEmpty = false := by simpa using hp
    have hq : st p ++ { data := #[47] } ++ st n = st (p ++ 47 :: n) := by
      rw [show ({ data := #[47] } : ByteArray) = st [47] from rfl, st_append, st_append]
      simp
    have HQ := Lib.hid hq
    clear hp hr hq
    go_enter Tryz.func84, Tryz.ntmps84
    go_wp2
    go_ret
    exact ⟨by rw [← HQ.out]; rfl, rfl⟩

theorem findAt_lt (c : UInt8) : ∀ (l : Bs) (i j : Nat), findAt c l i = some j → i ≤ j ∧ j < i + l.length
  | [], i, j, h => by simp [findAt] at h
  | x :: l, i, j, h => by
    unfold findAt at h
    by_cases hx : x = c
    · rw [if_pos hx] at h
      injection h with h
      subst h
      simp
    · rw [if_neg hx] at h
      have := findAt_lt c l (i + 1) j h
      simp only [List.length_cons]
      omega
def splitE (r : Option (Bs × Bs)) : Value := match r with
  | none => .tuple #[.string (st []), .string (st []), .bool false]
  | some (p, n) => .tuple #[.string (st p), .string (st n), .bool true]
set_option maxRecDepth 100000 in
set_option maxHeartbeats 1000000 in
theorem strf_Split (l : Bs) (w : World) (hn : l.length < 4294967281) (hg : Glob w) :
    Calls Tryz.prog 96 #[.string (st l)] w fun e w' => e = .returned (splitE (split l)) ∧ Below w.heap.size w w' := by
  by_cases hc : l ≠ [] ∧ l.length ≤ 100
  · have hr : split l = some ([], l) := by unfold split; rw [if_pos hc]
    rw [hr]
    have h1 : l.isEmpty = false := by simpa using hc.1
    have h2 := hc.2
    clear hr hc
    go_enter Tryz.func96, Tryz.ntmps96
    go_wp2
    go_step3
    go_wp2
    try rw [Exit.noGoto_ret]
    go_ret3
    exact ⟨rfl, Below.refl _ _⟩
  · have hr : split l = splitAux l (l.length + 1) 0 := by unfold split; rw [if_neg hc]
    rw [hr]
    obtain ⟨R, hR⟩ : ∃ R, splitAux l (l.length + 1) 0 = R := ⟨_, rfl⟩
    rw [hR]
    have HR := Lib.hid hR
    have hc2 : l.isEmpty = true ∨ (l.isEmpty = false ∧ decide ((l.length : Int) ≤ 100) = false) := by
      rcases l with _ | ⟨x, l⟩
      · exact .inl rfl
      · refine .inr ⟨rfl, ?_⟩
        have : ¬ (x :: l).length ≤ 100 := fun h => hc ⟨by simp, h⟩
        rw [decide_eq_false_iff_not]
        omega
    clear hR hr hc
    rcases hc2 with h1 | ⟨h1, h2⟩
    all_goals
      go_enter Tryz.func96, Tryz.ntmps96
      go_wp2
      go_step3
      go_wp2
      go_step3
      go_wp2
      go_loopw [5] (fun i wr => ∃ k f : Nat, k ≤ l.length ∧ l.length < f + k ∧ i = .int .i64 k ∧ Hid (splitAux l f k = R) ∧ Hid (Below w.heap.size w wr)) (fun i _ => l.length + 1 - (intOf i).toNat)
      case atStart => exact ⟨0, l.length + 1, by omega, by omega, rfl, HR, Lib.hid (Below.refl _ _)⟩
      case round =>
        obtain ⟨k, f, hk, hf, rfl, HF, HB⟩ := hrel
        obtain ⟨f, rfl⟩ : ∃ f', f = f' + 1 := ⟨f - 1, by omega⟩
        have hF := HF.out
        unfold splitAux at hF
        have hcut := scut_from .i64 l k hk
        have hD : (l.drop k).length = l.length - k := List.length_drop
        have hI := lib_Index (st (l.drop k)) 47 wr (by rw [st_size]; omega) (hg.below HB.out)
        rw [st_data, ← indexByte_findAt 47 (l.drop k) 0] at hI
        have hfb := findAt_lt 47 (l.drop k) 0
        cases hfa : findAt 47 (l.drop k) 0 with
        | none =>
          rw [hfa] at hI hF
          obtain ⟨D, hDD⟩ : ∃ D, l.drop k = D := ⟨_, rfl⟩
          rw [hDD] at hI hcut
          simp only [] at hI
          have HI := Lib.hid hI
          have HF2 := Lib.hid hF
          clear hI hF hfb hfa hD hDD
          go_wp2_with (go_at_call 128; go_must (refine HI.out.mono ?_); rintro e w1 ⟨rfl, rfl⟩)
          try rw [Exit.noGoto_ret]
          go_ret3
          exact ⟨by rw [← HF2.out]; rfl, HB.out⟩
        | some j =>
          rw [hfa] at hI hF
          have hj := hfb j hfa
          rw [hD] at hj
          have hc1 := scut_to .i64 l (k + j) (by omega)
          have hc2 := scut_from .i64 l (k + j + 1) (by omega)
          have hPl : (l.take (k + j)).length = k + j := by rw [List.length_take]; omega
          have hNl : (l.drop (k + j + 1)).length = l.length - (k + j + 1) := List.length_drop
          rw [Int.natCast_add] at hc1 hc2
          rw [Int.natCast_add] at hc2
          have hc2 : ∀ W : World, (Instr.slice 9 (.string (st l)) (some (.int .i64 ((k : Int) + (j : Int) + 1))) none none).run Tryz.prog W = .ok (.string (st (l.drop (k + j + 1)))) W := hc2
          simp only [] at hI
          rw [show (((j : Nat) : Int) - ((0 : Nat) : Int)) = (j : Int) by omega] at hI
          obtain ⟨D, hDD⟩ : ∃ D, l.drop k = D := ⟨_, rfl⟩
          obtain ⟨p, hp⟩ : ∃ p, l.take (k + j) = p := ⟨_, rfl⟩
          obtain ⟨n, hn⟩ : ∃ n, l.drop (k + j + 1) = n := ⟨_, rfl⟩
          rw [hDD] at hI hcut
          rw [hp] at hc1 hPl
          rw [hn] at hc2 hNl
          simp only [hp, hn] at hI hF
          have HI := Lib.hid hI
          have hpl1 : p.length ≤ k + j := by omega
          have hpl2 : k + j ≤ p.length := by omega
          have hj2 := hj.2
          clear hI hfb hfa hD hDD hp hn hPl hNl hj
          have hb : ((p.length > 155 ∨ n = [])) ∨ ((¬ (p.length > 155 ∨ n = [])) ∧ (p ≠ [] ∧ n.length ≤ 100)) ∨ ((¬ (p.length > 155 ∨ n = [])) ∧ ¬ (p ≠ [] ∧ n.length ≤ 100)) := by
            by_cases h1 : (p.length > 155 ∨ n = []) <;> by_cases h2 : (p ≠ [] ∧ n.length ≤ 100) <;> simp_all
          rcases hb with hb | ⟨hb1, hb2⟩ | ⟨hb1, hb2⟩
          · rw [if_pos hb] at hF
            have HF2 := Lib.hid hF
            clear hF
            have hb2 : (155 : Int) < p.length ∨ ((p.length : Int) ≤ 155 ∧ n.isEmpty = true) := by
              by_cases h : p.length > 155
              · exact .inl (by omega)
              · exact .inr ⟨by omega, by rcases hb with hb | hb; omega; rw [hb]; rfl⟩
            clear hb
            rcases hb2 with hb2 | ⟨hb2, hb3⟩
            all_goals
              go_wp2_with (go_at_call 128; go_must (refine HI.out.mono ?_); rintro e w1 ⟨rfl, rfl⟩)
              go_region
              all_goals
                go_wp2
                try rw [Exit.noGoto_ret]
                go_ret3
                exact ⟨by rw [← HF2.out]; rfl, HB.out.drew⟩
          · rw [if_neg hb1, if_pos hb2] at hF
            have HF2 := Lib.hid hF
            clear hF
            have hb3 : decide ((155 : Int) < p.length) = false := by rw [decide_eq_false_iff_not]; omega
            have hb4 : n.isEmpty = false := by simpa using fun h => hb1 (.inr h)
            have hb5 : p.isEmpty = false := by simpa using hb2.1
            have hb6 : (n.length : Int) ≤ 100 := by have := hb2.2; omega
            clear hb1 hb2
            go_wp2_with (go_at_call 128; go_must (refine HI.out.mono ?_); rintro e w1 ⟨rfl, rfl⟩)
            go_region
            all_goals
              go_wp2
              try rw [Exit.noGoto_ret]
              go_ret3
              exact ⟨by rw [← HF2.out]; rfl, HB.out.drew⟩
          · rw [if_neg hb1, if_neg hb2] at hF
            have HF2 := Lib.hid hF
            clear hF
            have hb3 : decide ((155 : Int) < p.length) = false := by rw [decide_eq_false_iff_not]; omega
            have hb4 : n.isEmpty = false := by simpa using fun h => hb1 (.inr h)
            have hb5 : p.isEmpty = true ∨ (p.isEmpty = false ∧ decide ((n.length : Int) ≤ 100) = false) := by
              by_cases h : p = []
              · exact .inl (by rw [h]; rfl)
              · refine .inr ⟨by simpa using h, ?_⟩
                rw [decide_eq_false_iff_not]
                intro h'
                exact hb2 ⟨h, by omega⟩
            clear hb1 hb2
            rcases hb5 with hb5 | ⟨hb5, hb6⟩
            all_goals
              go_wp2_with (go_at_call 128; go_must (refine HI.out.mono ?_); rintro e w1 ⟨rfl, rfl⟩)
              go_region
              all_goals
                go_wp2
                go_roundw
                case rel => exact ⟨k + j + 1, f, by omega, by omega, by go_num, HF2, Lib.hid HB.out.drew⟩
                case measure => simp [intOf]; omega
end Go.Proofs.YtckgjbpgdpcnnaaGreatDoor
