/-
  THE CONTRACTS of package recs: May, text, Len.
-/
import Derived.Test.YtckgjbpgdpcnnaaGreatDoorMba
import Derived.Test.YtckgjbpgdpcnnaaGreatDoorNumj
namespace Go.Proofs.YtckgjbpgdpcnnaaGreatDoor
set_option linter.all false
set_option linter.unusedVariables false
set_option linter.unusedSimpArgs false
open Go.RowKit Pl
attribute [local go_sem] st_toList st_size jmp_ret jmp_normal jmp_exit jmp_panic

def rcV (r : Rec) : Value := .agg #[.string (st r.key), .string (st r.val)]
theorem asc3 (a b c : UInt8) (ha : a.toNat < 128) (hb : b.toNat < 128) (hc : c.toNat < 128) : Asc { data := #[a, b, c] } := by
  intro x hx
  have : x = a ∨ x = b ∨ x = c := by simpa using hx
  rcases this with rfl | rfl | rfl <;> assumption
theorem keyBad_any (k : Bs) : (k.any fun c => ([61, 10, 0] : Bs).contains c) = keyBad k := by
  unfold keyBad
  congr 1
  funext c
  simp only [List.contains_cons, List.contains_nil, Bool.or_false, Bool.or_assoc]
set_option maxRecDepth 100000 in
set_option maxHeartbeats 2000000 in
theorem recs_May (r : Rec) (w : World) (hk : r.key.length < 4294967281) (hv : r.val.length < 4294967281) : Calls Tryz.prog 153 #[rcV r] w fun e w' => e = .returned (.int .i64 (rMay r)) ∧ Below w.heap.size w w' := by
  have hC := fun W => lib_ContainsAny (st r.key) { data := #[61, 10, 0] } W (by decide) (by decide) (by rw [st_size]; exact hk) (asc3 61 10 0 (by decide) (by decide) (by decide))
  obtain ⟨k, v⟩ := r
  unfold rcV rMay
  simp only [] at hC hk hv ⊢
  rw [keyBad_any, st_data] at hC
  by_cases h1 : k = []
  · rw [if_pos (.inl h1)]
    have hE : k.isEmpty = true := by simpa using h1
    clear hC h1
    go_enter Tryz.func153, Tryz.ntmps153
    go_wp2
    go_ret
    exact ⟨rfl, by go_grown⟩
  · have hE : k.isEmpty = false := by simpa using h1
    by_cases h2 : 60 < k.length
    · rw [if_pos (.inr (.inl h2))]
      have h3 : (60 : Int) < (k.length : Int) := by omega
      clear hC h1 h2
      go_enter Tryz.func153, Tryz.ntmps153
      go_wp2
      go_ret
      exact ⟨rfl, by go_grown⟩
    · have h3 : (k.length : Int) ≤ 60 := by omega
      cases hB : keyBad k with
      | true =>
        rw [hB] at hC
        rw [if_pos (.inr (.inr rfl))]
        have HC := Lib.hid hC
        clear hC h1 h2 hB
        go_enter Tryz.func153, Tryz.ntmps153
        go_wp2_with (go_at_call 186; refine (HC.out _).mono ?_; rintro e w1 ⟨rfl, hb⟩; have HB : Hid (Below w.heap.size w w1) := Lib.hid (((Below.refl _ w).alloc (Nat.le_refl _) _).trans (hb.mono (by simp))); clear hb)
        go_ret
        exact ⟨rfl, HB.out⟩
      | false =>
        rw [hB] at hC
        have hn : ¬ (k = [] ∨ 60 < k.length ∨ false = true) := by rintro (h | h | h); exact h1 h; exact h2 h; cases h
        rw [if_neg hn]
        have HC := Lib.hid hC
        by_cases h4 : 2000 < v.length
        · rw [if_pos h4]
          have h5 : (2000 : Int) < (v.length : Int) := by omega
          clear hC h1 h2 hB hn h4
          go_enter Tryz.func153, Tryz.ntmps153
          go_wp2_with (go_at_call 186; refine (HC.out _).mono ?_; rintro e w1 ⟨rfl, hb⟩; have HB : Hid (Below w.heap.size w w1) := Lib.hid (((Below.refl _ w).alloc (Nat.le_refl _) _).trans (hb.mono (by simp))); obtain ⟨hc1, hf1⟩ := bcell hb; rw [World.size_alloc] at hc1 hf1; clear hb)
          go_ret
          exact ⟨rfl, HB.out⟩
        · rw [if_neg h4]
          have h5 : (v.length : Int) ≤ 2000 := by omega
          clear hC h1 h2 hB hn h4
          go_enter Tryz.func153, Tryz.ntmps153
          go_wp2_with (go_at_call 186; refine (HC.out _).mono ?_; rintro e w1 ⟨rfl, hb⟩; have HB : Hid (Below w.heap.size w w1) := Lib.hid (((Below.refl _ w).alloc (Nat.le_refl _) _).trans (hb.mono (by simp))); obtain ⟨hc1, hf1⟩ := bcell hb; rw [World.size_alloc] at hc1 hf1; clear hb)
          go_ret
          exact ⟨rfl, HB.out⟩
theorem recs_text (r : Rec) (w : World) (hk : r.key.length < 4294967281) (hv : r.val.length < 4294967281) : Calls Tryz.prog 156 #[rcV r] w fun e w' => e = .returned (.string (st (rText r))) ∧ Below w.heap.size w w' := by
  have hT : ({ data := #[32] } : ByteArray) ++ st r.key ++ { data := #[61] } ++ st r.val ++ { data := #[10] } = st (rText r) := by
    rw [show ({ data := #[32] } : ByteArray) = st [32] from rfl, show ({ data := #[61] } : ByteArray) = st [61] from rfl, show ({ data := #[10] } : ByteArray) = st [10] from rfl, st_append, st_append, st_append, st_append]
    rfl
  obtain ⟨T, hTT⟩ : ∃ T, rText r = T := ⟨_, rfl⟩
  rw [hTT] at hT ⊢
  obtain ⟨k, v⟩ := r
  unfold rcV
  simp only [] at hk hv hT ⊢
  have HT := Lib.hid hT
  clear hT hTT
  go_enter Tryz.func156, Tryz.ntmps156
  go_wp2
  go_ret
  exact ⟨by rw [← HT.out]; rfl, by go_grown⟩
/-! ### Len -/
def fLen (rest n : Nat) : Nat := rest + Lib.nDigits n
theorem nd_low (a : Nat) (h : 1 ≤ a) : 10 ^ (Lib.nDigits a - 1) ≤ a := by
  induction a using Nat.strongRecOn with
  | _ a ih =>
    by_cases h10 : a < 10
    · rw [Lib.nDigits_small h10]; simpa using h
    · rw [Lib.nDigits_big h10]
      have := ih (a / 10) (by omega) (by omega)
      have hp := Lib.nDigits_pos (a / 10)
      rw [show Lib.nDigits (a / 10) + 1 - 1 = (Lib.nDigits (a / 10) - 1) + 1 from by omega, Nat.pow_succ]
      omega
theorem nd_mono (a b : Nat) (h : a ≤ b) : Lib.nDigits a ≤ Lib.nDigits b := by
  apply Nat.le_of_not_lt
  intro hlt
  have h1 := Lib.lt_pow_nDigits b
  have h2 : 1 ≤ Lib.nDigits b := Lib.nDigits_pos b
  have h3 : 10 ^ (Lib.nDigits a - 1) ≤ a := by
    by_cases h10 : a < 10
    · rw [Lib.nDigits_small h10] at hlt; omega
    · exact nd_low a (by omega)
  have h4 : 10 ^ Lib.nDigits b ≤ 10 ^ (Lib.nDigits a - 1) := Nat.pow_le_pow_right (by omega) (by omega)
  omega
theorem fLen_fix (rest n : Nat) (h1 : 1 ≤ rest) (h2 : rest ≤ 9000) (hn : n ≤ selfLen rest) (he : fLen rest n = n) : n = selfLen rest := by
  unfold fLen at he
  have hl := Lib.lt_pow_nDigits n
  have hp := Lib.nDigits_pos n
  have hs := selfLen_eq rest h1 h2
  have h4 : Lib.nDigits n ≤ 4 := by
    have hm := nd_mono n _ hn
    have h10 : selfLen rest < 10000 := by
      unfold selfLen
      split
      · omega
      · split
        · omega
        · split <;> omega
    have h5 : Lib.nDigits (selfLen rest) ≤ 4 := by
      apply Nat.le_of_not_lt
      intro hh
      have := nd_low (selfLen rest) (by omega)
      have h6 : 10 ^ 4 ≤ 10 ^ (Lib.nDigits (selfLen rest) - 1) := Nat.pow_le_pow_right (by omega) (by omega)
      have h7 : (10 : Nat) ^ 4 = 10000 := rfl
      rw [h7] at h6
      exact absurd (Nat.le_trans h6 this) (by omega)
    omega
  have hc : Lib.nDigits n = 1 ∨ Lib.nDigits n = 2 ∨ Lib.nDigits n = 3 ∨ Lib.nDigits n = 4 := by omega
  unfold selfLen at hn ⊢
  rcases hc with h | h | h | h <;> rw [h] at hl he <;> simp at hl
  · rw [if_pos (by omega)]; omega
  · split at hn
    · omega
    · rename_i h5
      rw [if_neg h5, if_pos (by omega)]; omega
  · split at hn
    · omega
    · rename_i h5
      split at hn
      · omega
      · rename_i h6
        rw [if_neg h5, if_neg h6, if_pos (by omega)]; omega
  · split at hn
    · omega
    · rename_i h5
      split at hn
      · omega
      · rename_i h6
        split at hn
        · omega
        · rename_i h7
          rw [if_neg h5, if_neg h6, if_neg h7]; omega
theorem fLen_up (rest n : Nat) (h1 : 1 ≤ rest) (h2 : rest ≤ 9000) (hn : n ≤ selfLen rest) : fLen rest n ≤ selfLen rest := by
  have := selfLen_eq rest h1 h2
  have := nd_mono _ _ hn
  unfold fLen
  omega
theorem fLen_grow (rest n : Nat) (h : n ≤ fLen rest n) : fLen rest n ≤ fLen rest (fLen rest n) := by
  have := nd_mono _ _ h
  unfold fLen at this ⊢
  omega
theorem lib_Itoa (n : Nat) (w : World) (hn : (n : Int) ≤ 9223372036854775807) (hg : Glob w) : Calls Tryz.prog 188 #[.int .i64 (n : Int)] w fun e w' => e = .returned (.string (st (Lib.decDigits n))) ∧ Below w.heap.size w w' :=
  (Tryz.strconv_Itoa (n : Int) (by omega) hn w hg.tab).mono fun e w' ⟨h1, k, os, h2⟩ => ⟨by rw [h1, itoa_nat]; rfl, by rw [h2]; exact Lib.below_grow _ _ (Nat.le_refl _) _ _⟩
theorem rText_ge (r : Rec) : 1 ≤ (rText r).length := by rw [rText_len]; omega
theorem ret_nat {a b : Nat} (h : a = b) : Ending.returned (.int .i64 (a : Int)) = .returned (.int .i64 (b : Int)) := by rw [h]
/-- The frame at the label. -/
def LJ (w : World) (k v : Bs) (n F : Nat) (a : Act) (W : World) : Prop :=
  ∃ (m : Nat) (u5 u6 u7 u8 u9 u10 u11 u12 u13 u14 u15 u16 u17 u18 u19 u20 u21 u22 : Value), a = { tmps := #[.agg #[.string (st k), .string (st v)], .pointer (some ⟨w.heap.size, 0, none⟩), .int .i64 0, .int .i64 (n : Int), .int .i64 (m : Int), u5, u6, u7, u8, u9, u10, u11, u12, u13, u14, u15, u16, u17, u18, u19, u20, u21, u22], defers := [] } ∧
    m ≤ F ∧ m ≤ fLen n m ∧ Below w.heap.size w W
set_option maxRecDepth 100000 in
set_option maxHeartbeats 2000000 in
theorem recs_Len (r : Rec) (w : World) (hk : r.key.length < 4294967281) (hv : r.val.length < 4294967281) (hg : Glob w) : Calls Tryz.prog 155 #[rcV r] w fun e w' => e = .returned (.int .i64 ((rLen r : Nat) : Int)) ∧ Below w.heap.size w w' := by
  have hM := fun W => recs_May r W hk hv
  have hT := fun W => recs_text r W hk hv
  have hL : rLen r = if rMay r ≠ 0 then 0 else selfLen (rText r).length := rfl
  by_cases h0 : rMay r = 0
  · rw [if_neg (by rw [h0]; simp)] at hL
    rw [hL]
    obtain ⟨a1, a2, a3, a4⟩ := rMay_zero r h0
    have h1 := rText_ge r
    have h2 : (rText r).length ≤ 9000 := by rw [rText_len]; omega
    rw [h0] at hM
    obtain ⟨T, hTT⟩ : ∃ T, rText r = T := ⟨_, rfl⟩
    rw [hTT] at h1 h2 hT ⊢
    have hS1 : T.length ≤ selfLen T.length := by have := selfLen_eq T.length h1 h2; omega
    have hS2 : selfLen T.length ≤ 10000 := by have := selfLen_eq T.length h1 h2; unfold selfLen; split; omega; split; omega; split <;> omega
    obtain ⟨F, hF⟩ : ∃ F, selfLen T.length = F := ⟨_, rfl⟩
    obtain ⟨n, hn⟩ : ∃ n, T.length = n := ⟨_, rfl⟩
    rw [hF] at hS1 hS2 ⊢
    rw [hn] at h1 h2 hS1 hF
    obtain ⟨k, v⟩ := r
    unfold rcV at hM hT ⊢
    simp only [] at hM hT hk hv ⊢
    have HM := Lib.hid hM
    have HT := Lib.hid hT
    have HN := Lib.hid hn
    have HF := Lib.hid hF
    have HG := Lib.hid hg
    clear hM hT hL h0 a1 a2 a3 a4 hTT hg hn hF
    go_enter Tryz.func155, Tryz.ntmps155
    go_wp2_with (first | (go_at_call 153; refine (HM.out _).mono ?_; rintro e w1 ⟨rfl, hb⟩; have HB : Hid (Below w.heap.size w w1) := Lib.hid (((Below.refl _ w).alloc (Nat.le_refl _) _).trans (hb.mono (by simp))); obtain ⟨hc1, hf1⟩ := bcell hb; rw [World.size_alloc] at hc1 hf1; have hs1 : w.heap.size < w1.heap.size := by have := hb.size; simp at this; omega) | (go_at_call 156; refine (HT.out _).mono ?_; rintro e w2 ⟨rfl, hb2⟩; have HB2 : Hid (Below w.heap.size w w2) := Lib.hid (HB.out.trans (hb2.mono (by omega))); clear hb2; have hnn := HN.out))
    refine wp_scope_jumps 0 (LJ w k v n F) (fun a _ => F - (intOf (a.tmps.getD 4 undef)).toNat) rfl ?_ ?_
    · obtain ⟨d, hd⟩ : ∃ d, Lib.nDigits n = d := ⟨_, rfl⟩
      obtain ⟨D, hD⟩ : ∃ D, Lib.decDigits n = D := ⟨_, rfl⟩
      have hDl : D.length = d := by rw [← hD, ← hd]; exact Lib.decDigits_length n
      have hup := fLen_up n n h1 h2 (by rw [HF.out]; exact hS1)
      have hgr := fLen_grow n n (by unfold fLen; omega)
      have hfx := fLen_fix n n h1 h2 (by rw [HF.out]; exact hS1)
      have hI := fun W h => lib_Itoa n W (by omega) h
      rw [hD] at hI
      rw [HF.out] at hup hfx
      unfold fLen at hup hgr hfx
      rw [hd] at hup hgr hfx
      have HI := Lib.hid hI
      have HU := Lib.hid hup
      have HGR := Lib.hid hgr
      have HFX := Lib.hid hfx
      have hsz : d ≤ 10000 := by omega
      clear hI hup hgr hfx hD hd
      by_cases he : n + d = n
      · have hte : (((n : Int) + (d : Int)) != (n : Int)) = false := by simp; omega
        have HFE := Lib.hid (HFX.out he)
        clear he
        go_wp2_with (first | (go_at_call 153; refine (HM.out _).mono ?_; rintro e w1 ⟨rfl, hb⟩; have HB : Hid (Below w.heap.size w w1) := Lib.hid (((Below.refl _ w).alloc (Nat.le_refl _) _).trans (hb.mono (by simp))); obtain ⟨hc1, hf1⟩ := bcell hb; rw [World.size_alloc] at hc1 hf1; have hs1 : w.heap.size < w1.heap.size := by have := hb.size; simp at this; omega) | (go_at_call 156; refine (HT.out _).mono ?_; rintro e w2 ⟨rfl, hb2⟩; have HB2 : Hid (Below w.heap.size w w2) := Lib.hid (HB.out.trans (hb2.mono (by omega))); clear hb2; have hnn := HN.out) | (go_at_call 188; refine (HI.out _ (HG.out.below HB2.out)).mono ?_; rintro e w3 ⟨rfl, hb3⟩; have HB3 : Hid (Below w.heap.size w w3) := Lib.hid (HB2.out.trans (hb3.mono HB2.out.size)); clear hb3))
        go_step3
        go_wp2_with (go_at_call 188; refine (HI.out _ (HG.out.below HB2.out)).mono ?_; rintro e w3 ⟨rfl, hb3⟩; have HB3 : Hid (Below w.heap.size w w3) := Lib.hid (HB2.out.trans (hb3.mono HB2.out.size)); clear hb3)
        try rw [jmp_ret]
        go_wp2
        go_ret
        exact ⟨ret_nat HFE.out, HB3.out⟩
      · have hte : (((n : Int) + (d : Int)) != (n : Int)) = true := by simp; omega
        clear he
        go_wp2_with (first | (go_at_call 153; refine (HM.out _).mono ?_; rintro e w1 ⟨rfl, hb⟩; have HB : Hid (Below w.heap.size w w1) := Lib.hid (((Below.refl _ w).alloc (Nat.le_refl _) _).trans (hb.mono (by simp))); obtain ⟨hc1, hf1⟩ := bcell hb; rw [World.size_alloc] at hc1 hf1; have hs1 : w.heap.size < w1.heap.size := by have := hb.size; simp at this; omega) | (go_at_call 156; refine (HT.out _).mono ?_; rintro e w2 ⟨rfl, hb2⟩; have HB2 : Hid (Below w.heap.size w w2) := Lib.hid (HB.out.trans (hb2.mono (by omega))); clear hb2; have hnn := HN.out) | (go_at_call 188; refine (HI.out _ (HG.out.below HB2.out)).mono ?_; rintro e w3 ⟨rfl, hb3⟩; have HB3 : Hid (Below w.heap.size w w3) := Lib.hid (HB2.out.trans (hb3.mono HB2.out.size)); clear hb3))
        go_step3
        go_wp2_with (go_at_call 188; refine (HI.out _ (HG.out.below HB2.out)).mono ?_; rintro e w3 ⟨rfl, hb3⟩; have HB3 : Hid (Below w.heap.size w w3) := Lib.hid (HB2.out.trans (hb3.mono HB2.out.size)); clear hb3)
        go_step3
        refine ⟨rfl, ?_⟩
        exact ⟨n + d, _, _, _, _, _, _, _, _, _, _, _, _, _, _, _, _, _, _, rfl, HU.out, HGR.out, HB3.out⟩
    · rintro a W ⟨m, u5, u6, u7, u8, u9, u10, u11, u12, u13, u14, u15, u16, u17, u18, u19, u20, u21, u22, rfl, hm, hmf, hW⟩
      obtain ⟨d, hd⟩ : ∃ d, Lib.nDigits m = d := ⟨_, rfl⟩
      obtain ⟨D, hD⟩ : ∃ D, Lib.decDigits m = D := ⟨_, rfl⟩
      have hDl : D.length = d := by rw [← hD, ← hd]; exact Lib.decDigits_length m
      have hup := fLen_up n m h1 h2 (by rw [HF.out]; exact hm)
      have hgr := fLen_grow n m hmf
      have hfx := fLen_fix n m h1 h2 (by rw [HF.out]; exact hm)
      have hI := fun W h => lib_Itoa m W (by omega) h
      rw [hD] at hI
      rw [HF.out] at hup hfx
      unfold fLen at hup hgr hfx hmf
      rw [hd] at hup hgr hfx hmf
      have HI := Lib.hid hI
      have HU := Lib.hid hup
      have HGR := Lib.hid hgr
      have HFX := Lib.hid hfx
      have hsz : d ≤ 10000 := by omega
      have HW := Lib.hid hW
      clear hI hup hgr hfx hD hd hW
      by_cases he : n + d = m
      · have hte : (((n : Int) + (d : Int)) != (m : Int)) = false := by simp; omega
        have HFE := Lib.hid (HFX.out he)
        clear he hmf
        go_wp2_with (go_at_call 188; refine (HI.out _ (HG.out.below HW.out)).mono ?_; rintro e w3 ⟨rfl, hb3⟩; have HB3 : Hid (Below w.heap.size w w3) := Lib.hid (HW.out.trans (hb3.mono HW.out.size)); clear hb3)
        try rw [jmp_ret]
        go_wp2
        go_ret
        exact ⟨ret_nat HFE.out, HB3.out⟩
      · have hte : (((n : Int) + (d : Int)) != (m : Int)) = true := by simp; omega
        have hlt : m < n + d := by omega
        clear he hmf
        have HLT := Lib.hid hlt
        clear hlt
        go_wp2_with (go_at_call 188; refine (HI.out _ (HG.out.below HW.out)).mono ?_; rintro e w3 ⟨rfl, hb3⟩; have HB3 : Hid (Below w.heap.size w w3) := Lib.hid (HW.out.trans (hb3.mono HW.out.size)); clear hb3)
        go_step3
        refine ⟨rfl, ?_, ?_⟩
        · exact ⟨n + d, _, _, _, _, _, _, _, _, _, _, _, _, _, _, _, _, _, _, rfl, HU.out, HGR.out, HB3.out⟩
        · have := HU.out
          have := HLT.out
          simp [intOf]
          omega
  · rw [if_pos h0] at hL
    rw [hL]
    obtain ⟨E, hE⟩ : ∃ E, rMay r = E := ⟨_, rfl⟩
    rw [hE] at hM h0
    have hne : (E != 0) = true := by rw [bne_iff_ne]; exact h0
    obtain ⟨k, v⟩ := r
    unfold rcV at hM ⊢
    simp only [] at hM ⊢
    have HM := Lib.hid hM
    clear hM hT hL h0 hE hg hk hv
    go_enter Tryz.func155, Tryz.ntmps155
    go_wp2
    refine wp_scope_jumps 0 (fun _ _ => False) (fun _ _ => 0) rfl ?_ (fun a w h => h.elim)
    go_wp2_with (first | (go_at_call 153; refine (HM.out _).mono ?_; rintro e w1 ⟨rfl, hb⟩; have HB : Hid (Below w.heap.size w w1) := Lib.hid (((Below.refl _ w).alloc (Nat.le_refl _) _).trans (hb.mono (by simp))); clear hb))
    try rw [jmp_ret]
    go_wp2
    go_ret
    exact ⟨rfl, HB.out⟩
end Go.Proofs.YtckgjbpgdpcnnaaGreatDoor
