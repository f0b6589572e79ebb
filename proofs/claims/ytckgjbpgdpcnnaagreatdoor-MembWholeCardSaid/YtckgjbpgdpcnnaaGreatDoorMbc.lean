/-
  THE CONTRACTS of package memb, on: May.
-/
import Derived.Test.YtckgjbpgdpcnnaaGreatDoorMbb
namespace Go.Proofs.YtckgjbpgdpcnnaaGreatDoor
set_option linter.all false
set_option linter.unusedVariables false
set_option linter.unusedSimpArgs false
open Go.RowKit Pl
attribute [local go_sem] st_toList st_size

set_option maxRecDepth 100000 in
set_option maxHeartbeats 2000000 in
theorem memb_May (m : Member) (A : Option Addr) (c : Nat) (w : World) (ok : MbOk m) (hg : Glob w) : Calls Tryz.prog 54 #[mbV m A c] w fun e w' => e = .returned (.int .i64 (mMay m)) ∧ Below w.heap.size w w' := by
  rw [mMay_ask]
  have hP := fun W h => ppath_May m.path W h
  have hT := fun W => memb_Type m.kind W ok.kind.1 ok.kind.2
  have hN := fun W => memb_numbers m.meta_ W
  have hK := fun W hk h => memb_isKind m A c W ok hk h
  have HG := Lib.hid hg
  cases hp : isPath m.path with
  | false =>
    rw [hp] at hP
    rw [if_pos (by rfl : (!false) = true)]
    obtain ⟨p, k, ⟨a, b, g, t⟩, ln, d⟩ := m
    unfold mbV
    simp only [] at hP ⊢
    have HP := Lib.hid hP
    clear hP hT hN hK hg ok hp
    go_enter Tryz.func54, Tryz.ntmps54
    go_wp2_with (go_at_call 86; refine (HP.out _ (HG.out.below ((Below.refl _ _).alloc (Nat.le_refl _) _))).mono ?_; rintro e w1 ⟨rfl, hb⟩; have HB : Hid (Below w.heap.size w w1) := Lib.hid (((Below.refl _ w).alloc (Nat.le_refl _) _).trans (hb.mono (by simp))); clear hb)
    go_ret
    exact ⟨rfl, HB.out⟩
  | true =>
    rw [hp] at hP
    rw [if_neg (by simp)]
    by_cases hk : 1 ≤ m.kind ∧ m.kind ≤ 4
    · rw [if_neg (by simpa using hk)]
      have hty : mType m.kind ≠ 0 := by
        have hh : m.kind = 1 ∨ m.kind = 2 ∨ m.kind = 3 ∨ m.kind = 4 := by omega
        rcases hh with h | h | h | h <;> rw [h] <;> decide
      have hty2 : (((mType m.kind).toNat : Int) == 0) = false := byte_ne (mType m.kind) 0 hty
      obtain ⟨T, hTT⟩ : ∃ T, mType m.kind = T := ⟨_, rfl⟩
      rw [hTT] at hT hty2
      have hK2 := fun W h => hK W hk h
      cases hn : numbersOk m.meta_ with
      | false =>
        rw [hn] at hN
        rw [if_pos (by rfl : (!false) = true)]
        obtain ⟨p, k, ⟨a, b, g, t⟩, ln, d⟩ := m
        unfold mtV at hN
        unfold mbV
        simp only [] at hP hT hN ⊢
        have HP := Lib.hid hP
        have HT := Lib.hid hT
        have HN := Lib.hid hN
        clear hP hT hN hK hK2 hg ok hp hk hty hTT hn
        go_enter Tryz.func54, Tryz.ntmps54
        go_wp2_with (first | (go_at_call 86; refine (HP.out _ (HG.out.below ((Below.refl _ _).alloc (Nat.le_refl _) _))).mono ?_; rintro e w1 ⟨rfl, hb⟩; have HB : Hid (Below w.heap.size w w1) := Lib.hid (((Below.refl _ w).alloc (Nat.le_refl _) _).trans (hb.mono (by simp))); obtain ⟨hc1, hf1⟩ := bcell hb; rw [World.size_alloc] at hc1 hf1; have hs1 : w.heap.size < w1.heap.size := by have := hb.size; simp at this; omega) | (go_at_call 11; refine (HT.out _).mono ?_; rintro e w' ⟨rfl, rfl⟩) | (go_at_call 87; refine (HN.out _).mono ?_; rintro e w2 ⟨rfl, hb2⟩; have HB2 : Hid (Below w.heap.size w w2) := Lib.hid (HB.out.trans (hb2.mono (by omega))); clear hb2))
        go_ret
        exact ⟨rfl, HB2.out⟩
      | true =>
        rw [hn] at hN
        rw [if_neg (by simp)]
        obtain ⟨E, hE⟩ : ∃ E, mAsk m = E := ⟨_, rfl⟩
        rw [hE] at hK2 ⊢
        obtain ⟨p, k, ⟨a, b, g, t⟩, ln, d⟩ := m
        unfold mtV at hN
        unfold mbV at hK2 ⊢
        simp only [] at hP hT hN hK2 ⊢
        have HP := Lib.hid hP
        have HT := Lib.hid hT
        have HN := Lib.hid hN
        have HK := Lib.hid hK2
        clear hP hT hN hK hK2 hg ok hp hk hty hTT hn hE
        go_enter Tryz.func54, Tryz.ntmps54
        go_wp2_with (first | (go_at_call 86; refine (HP.out _ (HG.out.below ((Below.refl _ _).alloc (Nat.le_refl _) _))).mono ?_; rintro e w1 ⟨rfl, hb⟩; have HB : Hid (Below w.heap.size w w1) := Lib.hid (((Below.refl _ w).alloc (Nat.le_refl _) _).trans (hb.mono (by simp))); obtain ⟨hc1, hf1⟩ := bcell hb; rw [World.size_alloc] at hc1 hf1; have hs1 : w.heap.size < w1.heap.size := by have := hb.size; simp at this; omega) | (go_at_call 11; refine (HT.out _).mono ?_; rintro e w' ⟨rfl, rfl⟩) | (go_at_call 87; refine (HN.out _).mono ?_; rintro e w2 ⟨rfl, hb2⟩; have HB2 : Hid (Below w.heap.size w w2) := Lib.hid (HB.out.trans (hb2.mono (by omega))); obtain ⟨hc2, hf2⟩ := bcell hb2; have hs2 := hb2.size; clear hb2) | (go_at_call 88; refine (HK.out _ (HG.out.below HB2.out)).mono ?_; rintro e w3 ⟨rfl, hb3⟩; have HB3 : Hid (Below w.heap.size w w3) := Lib.hid (HB2.out.trans (hb3.mono (by omega))); clear hb3))
        go_ret
        exact ⟨rfl, HB3.out⟩
    · rw [if_pos hk]
      have hty : mType m.kind = 0 := by unfold mType; rw [if_neg (by omega), if_neg (by omega), if_neg (by omega), if_neg (by omega)]
      rw [hty] at hT
      obtain ⟨p, k, ⟨a, b, g, t⟩, ln, d⟩ := m
      unfold mbV
      simp only [] at hP hT ⊢
      have HP := Lib.hid hP
      have HT := Lib.hid hT
      clear hP hT hN hK hg ok hp hk hty
      go_enter Tryz.func54, Tryz.ntmps54
      go_wp2_with (first | (go_at_call 86; refine (HP.out _ (HG.out.below ((Below.refl _ _).alloc (Nat.le_refl _) _))).mono ?_; rintro e w1 ⟨rfl, hb⟩; have HB : Hid (Below w.heap.size w w1) := Lib.hid (((Below.refl _ w).alloc (Nat.le_refl _) _).trans (hb.mono (by simp))); obtain ⟨hc1, hf1⟩ := bcell hb; rw [World.size_alloc] at hc1 hf1; have hs1 : w.heap.size < w1.heap.size := by have := hb.size; simp at this; omega) | (go_at_call 11; refine (HT.out _).mono ?_; rintro e w' ⟨rfl, rfl⟩))
      go_ret
      exact ⟨rfl, HB.out⟩
end Go.Proofs.YtckgjbpgdpcnnaaGreatDoor
