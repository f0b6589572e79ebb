/-
  thwartlaw08.alive: a directory is laid, parsed, made again.
-/
import Derived.Test.YtckgjbpgdpcnnaaGreatDoorMbh
import Derived.Test.YtckgjbpgdpcnnaaGreatDoorMbi
namespace Go.Proofs.YtckgjbpgdpcnnaaGreatDoor
set_option linter.all false
set_option linter.unusedVariables false
set_option linter.unusedSimpArgs false
open Go.RowKit Pl
attribute [local go_sem] st_toList st_size

def aliveM : Member := ⟨[97], 4, ⟨0, 0, 0, 0⟩, [], []⟩
theorem alive_may : mMay aliveM = 0 := by decide
theorem alive_recs : mRecs aliveM = [] := by decide
theorem alive_header : mHeader aliveM = ⟨[], [97], ⟨0, 0, 0, 0⟩, 0, 53, []⟩ := by
  have h : split aliveM.path = some ([], [97]) := by decide
  unfold mHeader
  rw [h]
  rfl
theorem alive_lay : (mLay aliveM).2 = 0 ∧ (mLay aliveM).1.length = 512 ∧ hdParse (mLay aliveM).1 = (mHeader aliveM, 0) := by
  have f := mMay_facts _ alive_may
  have hf := mHeader_fits _ f
  have hk := mHeader_ok _ f
  have e := hdLay_ok _ hf
  have hl := hdLay_len _ e
  have hp := hdParse_hdLay _ hk e
  have h := mLay_eq _ alive_may
  rw [if_pos alive_recs] at h
  have hb : bFill aliveM.data = [] := by decide
  rw [hb, List.nil_append, List.append_nil] at h
  rw [h]
  exact ⟨rfl, hl, hp⟩
theorem aliveOk : MbOk aliveM := ⟨by decide, by decide, by decide, ⟨by decide, by decide⟩, ⟨by decide, by decide⟩, ⟨by decide, by decide⟩, ⟨by decide, by decide⟩, ⟨by decide, by decide⟩⟩
theorem alive_from : mFrom (mHeader aliveM) [] [] = (aliveM, 0) := by
  have h := mFrom_mHeader _ alive_may
  rw [alive_recs] at h
  exact h
def hd0 : Value := .agg #[.string { data := #[] }, .string { data := #[97] }, .int .i64 0, .int .i64 0, .int .i64 0, .int .i64 0, .int .i64 0, .int .u8 53, .string { data := #[] }]
def mb0 (A : Option Addr) (c : Nat) : Value := .agg #[.string { data := #[97] }, .int .i64 4, .int .i64 0, .int .i64 0, .int .i64 0, .int .i64 0, .string { data := #[] }, .slice A 0 c]
theorem al_Lay (w : World) (hg : Glob w) : Calls Tryz.prog 21 #[mb0 none 0] w fun e w' => ∃ A c, e = .returned (.tuple #[.slice A 512 c, .int .i64 0]) ∧ 512 ≤ c ∧ c ≤ 9223372036854775807 ∧ Rd w' A (mLay aliveM).1 ∧ Below w.heap.size w w' :=
  (memb_Lay aliveM none 0 w aliveOk (Rd.nil _ _) hg).mono fun e w' ⟨v, he, ho, hb⟩ => by
    rw [alive_lay.2.1] at ho
    have ho2 := ho
    obtain ⟨g, cap, rfl, _, _, h1, h2⟩ := own_form ho (by omega)
    rw [alive_lay.1] at he
    refine ⟨_, cap, he, h1, Nat.le_trans h2 (by decide), own_rd ho2 alive_lay.2.1, hb⟩
theorem al_Parse (A : Option Addr) (c : Nat) (w : World) (hc : 512 ≤ c) (hbig : c ≤ 9223372036854775807) (hr : Rd w A (mLay aliveM).1) (hg : Glob w) : Calls Tryz.prog 23 #[.slice A 512 c] w fun e w' => e = .returned (.tuple #[hd0, .int .i64 0]) ∧ Below w.heap.size w w' :=
  (head_Parse A c _ w alive_lay.2.1 hc hbig hr hg).mono fun e w' ⟨he, hb⟩ => by
    rw [alive_lay.2.2, alive_header] at he
    exact ⟨he, hb⟩
theorem al_From (w : World) (hg : Glob w) : Calls Tryz.prog 16 #[hd0, .slice none 0 0, .slice none 0 0] w fun e w' => ∃ A c, e = .returned (.tuple #[mb0 A c, .int .i64 0]) ∧ Below w.heap.size w w' :=
  (memb_From (mHeader aliveM) [] [] none none 0 0 w (mHeader_hok _ (mMay_facts _ alive_may)) (by simp) (by simp) (by simp) (RdV.nil _ _) (Rd.nil _ _) hg).mono fun e w' ⟨A, c, he, _, hb⟩ => by
    rw [alive_from] at he
    exact ⟨A, c, he, hb⟩
theorem al_Same (A : Option Addr) (c : Nat) (w : World) : Calls Tryz.prog 19 #[mb0 A c, mb0 none 0] w fun e w' => e = .returned (.bool true) ∧ Below w.heap.size w w' :=
  (memb_Same aliveM aliveM A none c 0 w (Rd.nil _ _) (Rd.nil _ _)).mono fun e w' ⟨he, hb⟩ => by
    rw [(mSame_iff _ _).2 rfl] at he
    exact ⟨he, hb⟩
theorem al_Len (w : World) (hg : Glob w) : Calls Tryz.prog 50 #[mb0 none 0] w fun e w' => e = .returned (.int .i64 512) ∧ Below w.heap.size w w' :=
  (memb_Len aliveM none 0 w aliveOk (Rd.nil _ _) hg).mono fun e w' ⟨he, hb⟩ => by
    rw [alive_lay.2.1] at he
    exact ⟨he, hb⟩
set_option maxRecDepth 100000 in
set_option maxHeartbeats 4000000 in
theorem alive08 (w : World) (hg : Glob w) : Calls Tryz.prog 15 #[] w fun e w' => e = .returned (.bool true) ∧ Below w.heap.size w w' := by
  have hL := fun W h => al_Lay W h
  have hP := fun A c W h1 h2 h3 h4 => al_Parse A c W h1 h2 h3 h4
  have hF := fun W h => al_From W h
  have hS := fun A c W => al_Same A c W
  have hN := fun W h => al_Len W h
  have hT := fun W => memb_Type 3 W (by decide) (by decide)
  have hK := fun W => memb_Kind 53 W
  rw [show (((mType 3).toNat : Nat) : Int) = 50 by decide] at hT
  rw [show mKind 53 = 4 by decide, show (((53 : UInt8).toNat : Nat) : Int) = 53 by decide] at hK
  unfold mb0 at hL hF hS hN
  unfold hd0 at hP hF
  have hb0 := (Below.refl w.heap.size w).alloc (Nat.le_refl _) (.cells #[.string { data := #[97] }, .int .i64 4, .int .i64 0, .int .i64 0, .int .i64 0, .int .i64 0, .string { data := #[] }, .slice none 0 0] 38)
  have hc0 := Cel.new w #[.string { data := #[97] }, .int .i64 4, .int .i64 0, .int .i64 0, .int .i64 0, .int .i64 0, .string { data := #[] }, .slice none 0 0] 38
  have HL := Lib.hid hL
  have HP := Lib.hid hP
  have HF := Lib.hid hF
  have HS := Lib.hid hS
  have HN := Lib.hid hN
  have HT := Lib.hid hT
  have HK := Lib.hid hK
  have HG := Lib.hid hg
  have HB0 := Lib.hid hb0
  have HC0 := Lib.hid hc0
  clear hL hP hF hS hN hT hK hg hb0 hc0
  go_enter Tryz.func15, Tryz.ntmps15
  go_wp2_with (first | (go_at_call 21; refine (HL.out _ (HG.out.below HB0.out)).mono ?_; rintro e w1 ⟨A1, c1, rfl, hc1, hc2, hr, hb⟩; have HR := Lib.hid hr; have HCC := Lib.hid hc1; have HCD := Lib.hid hc2; have HC1 := Lib.hid (HC0.out.below hb); have HB1 := Lib.hid (HB0.out.trans (hb.mono HB0.out.size)); clear hb hr hc1 hc2) | (go_at_call 23; refine (HP.out _ _ _ HCC.out HCD.out HR.out (HG.out.below HB1.out)).mono ?_; rintro e w2 ⟨rfl, hb⟩; have HC2 := Lib.hid (HC1.out.below hb); have HB2 := Lib.hid (HB1.out.trans (hb.mono HB1.out.size)); clear hb) | (go_at_call 16; refine (HF.out _ (HG.out.below (HB2.out.alloc HB2.out.size _))).mono ?_; rintro e w3 ⟨A3, c3, rfl, hb⟩; have HC3 := Lib.hid ((HC2.out.below ((Below.refl _ _).alloc (Nat.le_refl _) _)).below hb); have HB3 := Lib.hid ((HB2.out.alloc HB2.out.size _).trans (hb.mono (HB2.out.alloc HB2.out.size _).size)); have m0 := fun o => (HC3.out.below ((Below.refl _ w3).alloc (Nat.le_refl _) o)).cell 0 _ rfl; have m1 := fun o => (HC3.out.below ((Below.refl _ w3).alloc (Nat.le_refl _) o)).cell 1 _ rfl; have m2 := fun o => (HC3.out.below ((Below.refl _ w3).alloc (Nat.le_refl _) o)).cell 2 _ rfl; have m3 := fun o => (HC3.out.below ((Below.refl _ w3).alloc (Nat.le_refl _) o)).cell 3 _ rfl; have m4 := fun o => (HC3.out.below ((Below.refl _ w3).alloc (Nat.le_refl _) o)).cell 4 _ rfl; have m5 := fun o => (HC3.out.below ((Below.refl _ w3).alloc (Nat.le_refl _) o)).cell 5 _ rfl; have m6 := fun o => (HC3.out.below ((Below.refl _ w3).alloc (Nat.le_refl _) o)).cell 6 _ rfl; have m7 := fun o => (HC3.out.below ((Below.refl _ w3).alloc (Nat.le_refl _) o)).cell 7 _ rfl; clear hb) | (go_at_call 19; refine (HS.out _ _ _).mono ?_; rintro e w4 ⟨rfl, hb⟩; have HC4 := Lib.hid ((HC3.out.below ((Below.refl _ _).alloc (Nat.le_refl _) _)).below hb); have HB4 := Lib.hid ((HB3.out.alloc HB3.out.size _).trans (hb.mono (HB3.out.alloc HB3.out.size _).size)); have m0 := HC4.out.cell 0 _ rfl; have m1 := HC4.out.cell 1 _ rfl; have m2 := HC4.out.cell 2 _ rfl; have m3 := HC4.out.cell 3 _ rfl; have m4 := HC4.out.cell 4 _ rfl; have m5 := HC4.out.cell 5 _ rfl; have m6 := HC4.out.cell 6 _ rfl; have m7 := HC4.out.cell 7 _ rfl; clear hb) | (go_at_call 11; refine (HT.out _).mono ?_; rintro e w' ⟨rfl, rfl⟩) | (go_at_call 12; refine (HK.out _).mono ?_; rintro e w' ⟨rfl, rfl⟩) | (go_at_call 50; refine (HN.out _ (HG.out.below HB4.out)).mono ?_; rintro e w5 ⟨rfl, hb⟩; have HB5 := Lib.hid (HB4.out.trans (hb.mono HB4.out.size)); clear hb))
  go_ret
  exact ⟨rfl, HB5.out⟩
end Go.Proofs.YtckgjbpgdpcnnaaGreatDoor
