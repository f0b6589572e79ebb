/-
  THE CONTRACTS of package memb, on: Lay, Len.
-/
import Derived.Test.YtckgjbpgdpcnnaaGreatDoorMbf
namespace Go.Proofs.YtckgjbpgdpcnnaaGreatDoor
set_option linter.all false
set_option linter.unusedVariables false
set_option linter.unusedSimpArgs false
open Go.RowKit Pl
attribute [local go_sem] st_toList st_size

theorem own_ne {w w' : World} {base size n size' n' : Nat} {e e' : TypeId} {v v' : Value} {xs xs' : List Value} (h : w.ownsRow base e size v n xs) (h' : w'.ownsRow w.heap.size e' size' v' n' xs') : ∀ k, v.ownBlock = some k → v'.ownBlock ≠ some k := fun k hk hk' => by
  have h1 := (h.lt k hk).2
  have h2 := (h'.lt k hk').1
  omega
theorem ne_or {a b : Option Nat} (h : ∀ k, a = some k → b ≠ some k) : b = none ∨ b ≠ a := by
  cases a with
  | none => cases b <;> simp
  | some k => exact .inr (h k rfl)
theorem own_rd {w : World} {base n c : Nat} {A : Option Addr} {l : Bs} (h : w.ownsRow base 5 1 (.slice A n c) n (bcs l)) (hn : l.length = n) : Rd w A l := by
  subst hn
  obtain ⟨A', c', hv, _, hr⟩ := Rd.of_own h
  injection hv with h1 h2 h3
  subst h1
  exact hr
theorem mHeader_hok (m : Member) (f : May m) : HdOk (mHeader m) := by
  have h := mHeader_fits m f
  have ok := mHeader_ok m f
  have hb : ∀ (s : Bs) (k : Nat), (sPut s k).2 = 0 → s.length ≤ k := by
    intro s k hs
    unfold sPut at hs
    split at hs
    · simp at hs
    · split at hs
      · simp at hs
      · omega
  have h1 := hb _ _ h.p
  have h2 := hb _ _ h.n
  have h3 := hb _ _ h.k
  exact ⟨by omega, by omega, by omega, ok.mode, ok.uid, ok.gid, ok.mtime, ok.size⟩
theorem mAhead_ok (m : Member) (f : May m) : (mAhead (mRecs m)).2 = 0 := by
  unfold mAhead
  split
  · rfl
  · rw [if_neg (by rw [rLay_ok _ (rMay_recs m f)]; simp)]
    exact hdLay_ok _ (paxHd_fits _)
theorem mAhead_len (m : Member) (f : May m) : (mAhead (mRecs m)).1.length ≤ 10000 := by
  unfold mAhead
  split
  · simp
  · have h0 := rLay_ok _ (rMay_recs m f)
    rw [if_neg (by rw [h0]; simp)]
    simp only []
    have h1 := hdLay_len _ (hdLay_ok _ (paxHd_fits (rLay (mRecs m)).1.length))
    have h2 := rLay_le _ h0
    have h3 := mRecs_len m
    have h4 := bFill_len (rLay (mRecs m)).1
    have h5 : bPad (rLay (mRecs m)).1.length ≤ 512 := by unfold bPad; omega
    rw [List.length_append]
    unfold paxHd at h1
    rw [h1, h4]
    omega
theorem RcOk_recs (m : Member) (f : May m) : ∀ r ∈ mRecs m, RcOk r := by
  intro r hr
  obtain ⟨_, h2, _, h4⟩ := rMay_zero r (rMay_recs m f r hr)
  exact ⟨by omega, by omega⟩
set_option maxRecDepth 100000 in
set_option maxHeartbeats 4000000 in
theorem memb_Lay (m : Member) (A : Option Addr) (c : Nat) (w : World) (ok : MbOk m) (hr : Rd w A m.data) (hg : Glob w) : Calls Tryz.prog 21 #[mbV m A c] w fun e w' => ∃ v, e = .returned (.tuple #[v, .int .i64 (mLay m).2]) ∧ w'.ownsRow w.heap.size 5 1 v (mLay m).1.length (bcs (mLay m).1) ∧ Below w.heap.size w w' := by
  have hM := fun W h => memb_May m A c W ok h
  have HG := Lib.hid hg
  have hbm := (Below.refl w.heap.size w).alloc (Nat.le_refl _) (.cells #[.string (st m.path), .int .i64 m.kind, .int .i64 m.meta_.mode, .int .i64 m.meta_.uid, .int .i64 m.meta_.gid, .int .i64 m.meta_.mtime, .string (st m.link), .slice A m.data.length c] 38)
  have hcm := Cel.new w #[.string (st m.path), .int .i64 m.kind, .int .i64 m.meta_.mode, .int .i64 m.meta_.uid, .int .i64 m.meta_.gid, .int .i64 m.meta_.mtime, .string (st m.link), .slice A m.data.length c] 38
  by_cases h0 : mMay m = 0
  · have f := mMay_facts m h0
    have hRc := fun W h => memb_Recs m A c W ok h
    have hLr := mRecs_len m
    have hAh := fun A c W h1 h2 => memb_ahead A c (mRecs m) W (by omega) (RcOk_recs m f) h1 h2
    have hae := mAhead_ok m f
    have hal := mAhead_len m f
    have hHd := fun W h => memb_header m A c W ok h
    have hHl := fun W h => head_Lay (mHeader m) (mHeader_hok m f) W h
    have hhe := hdLay_ok _ (mHeader_fits m f)
    have hhl := hdLay_len _ hhe
    have hF := fun W h => blocks_Fill A m.data.length c m.data W rfl (by have := f.data; omega) h
    have hfl := bFill_len m.data
    have hpad : bPad m.data.length ≤ 512 := by unfold bPad; omega
    have hdl := f.data
    have hm : mLay m = ((mAhead (mRecs m)).1 ++ (hdLay (mHeader m)).1 ++ bFill m.data, 0) := by
      unfold mLay
      rw [if_neg (by rw [h0]; simp), if_neg (by rw [hae]; simp), if_neg (by rw [hhe]; simp)]
    rw [hm]
    rw [h0] at hM
    rw [hae] at hAh
    rw [hhe] at hHl
    obtain ⟨X, hX⟩ : ∃ X, (mAhead (mRecs m)).1 = X := ⟨_, rfl⟩
    obtain ⟨Y, hY⟩ : ∃ Y, (hdLay (mHeader m)).1 = Y := ⟨_, rfl⟩
    obtain ⟨Z, hZ⟩ : ∃ Z, bFill m.data = Z := ⟨_, rfl⟩
    obtain ⟨L, hL⟩ : ∃ L, mRecs m = L := ⟨_, rfl⟩
    obtain ⟨HV, hHV⟩ : ∃ HV, hdV (mHeader m) = HV := ⟨_, rfl⟩
    rw [hX] at hAh hal ⊢
    rw [hY] at hHl hhl ⊢
    rw [hZ] at hF hfl ⊢
    rw [hL] at hRc hAh hLr
    rw [hHV] at hHd hHl
    have hlen : (X ++ Y ++ Z).length = X.length + Y.length + Z.length := by rw [List.length_append, List.length_append]
    rw [hlen]
    have hb1 : X.length + Y.length ≤ 140737488355328 := by omega
    have hb2 : X.length + Y.length + Z.length ≤ 140737488355328 := by omega
    clear hm h0 f hae hhe hhl hfl hpad hdl hal hX hY hZ hL hHV hlen hLr
    obtain ⟨p, k, ⟨a, b, g, t⟩, ln, d⟩ := m
    unfold mbV at hM hRc hHd ⊢
    simp only [] at hM hRc hHd hF hr hbm hcm ⊢
    have HM := Lib.hid hM
    have HRC := Lib.hid hRc
    have HAH := Lib.hid hAh
    have HHD := Lib.hid hHd
    have HHL := Lib.hid hHl
    have HF := Lib.hid hF
    have HRD := Lib.hid hr
    have HBM := Lib.hid hbm
    have HCM := Lib.hid hcm
    clear hM hRc hAh hHd hHl hF hr hbm hcm ok hg
    go_enter Tryz.func21, Tryz.ntmps21
    go_wp2_with (first | (go_at_call 54; refine (HM.out _ (HG.out.below HBM.out)).mono ?_; rintro e w1 ⟨rfl, hb⟩; have HB1 := Lib.hid (HBM.out.trans (hb.mono HBM.out.size)); have hc1 := HCM.out.below hb; have HC1 := Lib.hid hc1; have a0 := hc1.cell 0 _ rfl; have a1 := hc1.cell 1 _ rfl; have a2 := hc1.cell 2 _ rfl; have a3 := hc1.cell 3 _ rfl; have a4 := hc1.cell 4 _ rfl; have a5 := hc1.cell 5 _ rfl; have a6 := hc1.cell 6 _ rfl; have a7 := hc1.cell 7 _ rfl; clear hb hc1) | (go_at_call 22; refine (HRC.out _ (HG.out.below HB1.out)).mono ?_; rintro e w2 ⟨v15, rfl, ho, hb⟩; have HB2 := Lib.hid (HB1.out.trans (hb.mono HB1.out.size)); have HC2 := Lib.hid (HC1.out.below hb); obtain ⟨A15, c15, rfl, _, hrd⟩ := RdV.of_own ho; have HR15 := Lib.hid hrd; clear ho hb hrd) | (go_at_call 59; refine (HAH.out _ _ _ HR15.out (HG.out.below HB2.out)).mono ?_; rintro e w3 ⟨v5, rfl, ho, hb⟩; have HB3 := Lib.hid (HB2.out.trans (hb.mono HB2.out.size)); have hc3 := HC2.out.below hb; have HC3 := Lib.hid hc3; have HO5 := Lib.hid (own_more ho (Nat.succ_le_of_lt HC2.out.lt)); have b0 := hc3.cell 0 _ rfl; have b1 := hc3.cell 1 _ rfl; have b2 := hc3.cell 2 _ rfl; have b3 := hc3.cell 3 _ rfl; have b4 := hc3.cell 4 _ rfl; have b5 := hc3.cell 5 _ rfl; have b6 := hc3.cell 6 _ rfl; have b7 := hc3.cell 7 _ rfl; clear ho hb hc3) | (go_at_call 61; refine (HHD.out _ (HG.out.below HB3.out)).mono ?_; rintro e w4 ⟨rfl, hb⟩; have HB4 := Lib.hid (HB3.out.trans (hb.mono HB3.out.size)); have HC4 := Lib.hid (HC3.out.below hb); have HO54 := Lib.hid (own_later HO5.out hb); clear hb) | (go_at_call 60; refine (HHL.out _ (HG.out.below HB4.out)).mono ?_; rintro e w5 ⟨v7, rfl, ho, hb⟩; have HB5 := Lib.hid (HB4.out.trans (hb.mono HB4.out.size)); have hc5 := HC4.out.below hb; have HC5 := Lib.hid hc5; have HO55 := Lib.hid (own_later HO54.out hb); have HNE := Lib.hid (own_ne HO54.out ho); obtain ⟨A7, c7, rfl, _, hrd⟩ := Rd.of_own ho; have HR7 := Lib.hid hrd; have d7 := hc5.cell 7 _ rfl; clear ho hb hc5 hrd))
    have HS5 : Hid (w.heap.size + 1 ≤ w5.heap.size) := Lib.hid (Nat.succ_le_of_lt HC5.out.lt)
    have hlt5 : w.heap.size < w.heap.size + 1 := by omega
    have HBc : Hid (Below (w.heap.size + 1) w5 w5.drew) := Lib.hid ((Below.refl _ _).drew)
    have HO5c := Lib.hid (own_later HO55.out (Below.refl w5.heap.size w5).drew)
    have HR7c := Lib.hid (HR7.out.below (Below.refl w5.heap.size w5).drew)
    have D7 := Lib.hid d7
    clear HM HRC HAH HHD HHL HO5 HO54 HO55 HR7 HR15 HC1 HC2 HC3 HC4 HB1 HB2 HB3 HB4 a0 a1 a2 a3 a4 a5 a6 a7 b0 b1 b2 b3 b4 b5 b6 b7
    go_region_law (first | (refine step_app (w0 := w5) (w.heap.size + 1) rfl (.tmp 31) (.tmp 32) rfl v5 X.length X Y A7 Y.length c7 (by rfl) (by rfl) rfl HO5c.out HR7c.out HBc.out (Nat.le_trans HS5.out HBc.out.size) hb1 ?_; intro v33 w6 ho hb hg hat; (try have hk36 := HO36.out.kept hg (ne_or HNE36.out); clear HO36; have HO36 := Lib.hid hk36; clear hk36); have HO33 := Lib.hid ho; clear HBc; have HBc := Lib.hid hb; have e7 := (hb.cell (p := ⟨w.heap.size, 7, none⟩) hlt5).trans D7.out; clear ho hb hg hat) | (refine step_app (w0 := w5) (w.heap.size + 1) rfl (.tmp 33) (.tmp 36) rfl v33 (X.length + Y.length) (X ++ Y) Z A36 Z.length c36 (by rfl) (by rfl) rfl HO33.out (own_rd HO36.out rfl) HBc.out (Nat.le_trans HS5.out HBc.out.size) hb2 ?_; intro v37 w8 ho hb _ _; have HO37 := Lib.hid ho; have HB37 := Lib.hid hb; clear ho hb) | (go_simp; go_at_call 62; refine (HF.out _ (HRD.out.below (HB5.out.trans (HBc.out.mono (by omega))))).mono ?_; rintro e wF ⟨v36, rfl, ho, hb⟩; have HLT36 := Lib.hid hb.size; (try have h5n := own_later HO5c.out hb; have h7n := HR7c.out.below hb; have HNE36 := Lib.hid (own_ne HO5c.out ho); clear HO5c HR7c; have HO5c := Lib.hid h5n; have HR7c := Lib.hid h7n; clear h5n h7n); (try have h33n := own_later HO33.out hb; clear HO33; have HO33 := Lib.hid h33n; clear h33n); have hbn := HBc.out.trans (hb.mono (Nat.le_trans HS5.out HBc.out.size)); clear HBc; have HBc := Lib.hid hbn; obtain ⟨A36, c36, rfl, _, _⟩ := Rd.of_own ho; have HO36 := Lib.hid ho; have f7 := (hbn.cell (p := ⟨w.heap.size, 7, none⟩) hlt5).trans D7.out; clear ho hb hbn))
    all_goals
      go_wp2
      go_ret2
      exact ⟨_, rfl, own_more HO37.out (by omega), HB5.out.trans (HB37.out.mono (by omega))⟩
  · have hm : mLay m = ([], mMay m) := mLay_err m h0
    rw [hm]
    obtain ⟨E, hE⟩ : ∃ E, mMay m = E := ⟨_, rfl⟩
    rw [hE] at hM h0 ⊢
    have hne : (E != 0) = true := by rw [bne_iff_ne]; exact h0
    obtain ⟨p, k, ⟨a, b, g, t⟩, ln, d⟩ := m
    unfold mbV at hM ⊢
    simp only [] at hM hbm ⊢
    have HM := Lib.hid hM
    have HBM := Lib.hid hbm
    clear hM h0 hE hm hbm hcm hr hg ok
    go_enter Tryz.func21, Tryz.ntmps21
    go_wp2_with (go_at_call 54; refine (HM.out _ (HG.out.below HBM.out)).mono ?_; rintro e w1 ⟨rfl, hb⟩; have HB1 := Lib.hid (HBM.out.trans (hb.mono HBM.out.size)); clear hb)
    go_ret2
    exact ⟨_, rfl, World.ownsRow_nil _ _ _ _, HB1.out⟩
theorem memb_Len (m : Member) (A : Option Addr) (c : Nat) (w : World) (ok : MbOk m) (hr : Rd w A m.data) (hg : Glob w) : Calls Tryz.prog 50 #[mbV m A c] w fun e w' => e = .returned (.int .i64 ((mLay m).1.length : Int)) ∧ Below w.heap.size w w' := by
  have hL := fun W h1 h2 => memb_Lay m A c W ok h1 h2
  obtain ⟨X, hX⟩ : ∃ X, mLay m = X := ⟨_, rfl⟩
  rw [hX] at hL ⊢
  obtain ⟨XB, XE⟩ := X
  have HG := Lib.hid hg
  have hbm := (Below.refl w.heap.size w).alloc (Nat.le_refl _) (.cells #[.string (st m.path), .int .i64 m.kind, .int .i64 m.meta_.mode, .int .i64 m.meta_.uid, .int .i64 m.meta_.gid, .int .i64 m.meta_.mtime, .string (st m.link), .slice A m.data.length c] 38)
  obtain ⟨p, k, ⟨a, b, g, t⟩, ln, d⟩ := m
  unfold mbV at hL ⊢
  simp only [] at hL hr hbm ⊢
  have HL := Lib.hid hL
  have HR := Lib.hid hr
  have HBM := Lib.hid hbm
  clear hL hr hg hX ok hbm
  go_enter Tryz.func50, Tryz.ntmps50
  go_wp2_with (go_at_call 21; refine (HL.out _ (HR.out.below HBM.out) (HG.out.below HBM.out)).mono ?_; rintro e w1 ⟨v, rfl, ho, hb⟩; have HB1 := Lib.hid (HBM.out.trans (hb.mono HBM.out.size)); obtain ⟨A4, c4, rfl, _, _⟩ := Rd.of_own ho; clear ho hb)
  go_ret
  exact ⟨rfl, HB1.out⟩
end Go.Proofs.YtckgjbpgdpcnnaaGreatDoor
