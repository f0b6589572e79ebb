/-
  thwartlaw08.MembWhole: the walk.
-/
import Derived.Test.YtckgjbpgdpcnnaaGreatDoorLmv
namespace Go.Proofs.YtckgjbpgdpcnnaaGreatDoor
set_option linter.all false
set_option linter.unusedVariables false
set_option linter.unusedSimpArgs false
open Go.RowKit Pl
attribute [local go_sem] st_toList st_size

theorem keep_cell {w1 w' : World} (hb : Below w1.heap.size w1 w') {p : Addr} {v : Value} (h : w1.cell? p = some v) : w'.cell? p = some v := (hb.cell (World.block_lt_of_cell? w1 _ h)).trans h
/-- The member's bytes, as laid: what MembWhole asks. -/
structure Wh (m : Member) (S : Bs) (PL q : Nat) : Prop where
  len : S.length = PL + 512 + 512 * q
  quo : ((m.data.length : Int) + 511) / 512 = (q : Int)
  dq : m.data.length ≤ 512 * q
  mod : PL % 512 = 0
  small : PL ≤ 10000
  recs : (mRecs m = [] → PL = 0) ∧ (mRecs m ≠ [] → 512 ≤ PL)
  head : (S.drop PL).take 512 = (hdLay (mHeader m)).1
  data : (S.drop (PL + 512)).take m.data.length = m.data
theorem mPre_ahead (m : Member) (f : May m) : (mAhead (mRecs m)).1 = mPre m := by
  unfold mAhead mPre
  split
  · rfl
  · rw [if_neg (by rw [rLay_ok _ (rMay_recs m f)]; simp)]
    rfl
theorem wh_of (m : Member) (h : mMay m = 0) : ∃ PL q, Wh m (mLay m).1 PL q := by
  obtain ⟨h1, _, h3⟩ := mLay_parts m h
  obtain ⟨p1, p2, p3⟩ := mPre_len m (mMay_facts m h)
  have h4 := bFill_own m.data
  rw [h1]
  refine ⟨(mPre m).length, (m.data.length + 511) / 512, ⟨?_, by omega, by omega, p1, (by rw [← mPre_ahead m (mMay_facts m h)]; exact mAhead_len m (mMay_facts m h)), ⟨p2, p3⟩, whole_cut _ _ _ h3, ?_⟩⟩
  · rw [List.length_append, List.length_append, h3, h4]; omega
  · rw [whole_data _ _ _ _ h3, bFill_take]
theorem rd_take {w : World} {A : Option Addr} {l : Bs} (h : Rd w A l) (k : Nat) (l' : Bs) (e : l.take k = l') : Rd w A l' := by
  rw [← e]
  exact h.take k
theorem rd_ne_zero {w : World} {R : Nat} {A : Option Addr} {l : Bs} (hc : Cel w R zeroMb 38) (h : Rd w A l) : 0 < l.length → ∀ b o, A = some ⟨b, o, none⟩ → R ≠ b := by
  intro h0 b o e hb
  subst hb e
  obtain ⟨b', o', e, hcell⟩ := h h0
  injection e with e
  injection e with e1 e2
  subst e1 e2
  have hx := hcell 0 _ (List.getElem?_eq_getElem h0)
  unfold Cel at hc
  unfold World.cell? at hx
  simp only [hc, Nat.add_zero] at hx
  match o, hx with
  | 0, hx => simp [zeroMb] at hx
  | 1, hx => simp [zeroMb] at hx
  | 2, hx => simp [zeroMb] at hx
  | 3, hx => simp [zeroMb] at hx
  | 4, hx => simp [zeroMb] at hx
  | 5, hx => simp [zeroMb] at hx
  | 6, hx => simp [zeroMb] at hx
  | 7, hx => simp [zeroMb] at hx
  | n + 8, hx => simp [zeroMb] at hx
/-- How it stands behind From. -/
structure WS (w0 w : World) (V H : Array Value) (R1 R2 : Nat) (M : Array Value) (A9 : Option Addr) (d : Bs) : Prop where
  c : Cel w w0.heap.size V 45
  h : Cel w R1 H 43
  m : Cel w R2 M 38
  r : Rd w A9 d
  b : Below w0.heap.size w0 w
set_option maxRecDepth 100000 in
set_option maxHeartbeats 4000000 in
theorem law_MembWhole_ok (m : Member) (A : Option Addr) (c : Nat) (w : World) (ok : MbOk m) (hr : Rd w A m.data) (hg : Glob w) (hfar : ¬ (600 < m.path.length ∨ 600 < m.link.length ∨ 5000 < m.data.length)) (h0 : mMay m = 0) :
    Calls Tryz.prog 5 #[mbV m A c] w fun e w' => e = .returned (.bool true) ∧ Below w.heap.size w w' := by
  obtain ⟨PL, q, wh⟩ := wh_of m h0
  have hF := fun W => far08 m A c W
  rw [decide_eq_false hfar] at hF
  have hT := fun W => theirs08 m A c W
  have hL := fun W h1 h2 => memb_Lay m A c W ok h1 h2
  rw [(mLay_parts m h0).2.1] at hL
  have hRc := fun W h => memb_Recs m A c W ok h
  have hrc := mRecs_len m
  have hA := fun W h => alive08 W h
  have hfi := mHeader_fits m (mMay_facts m h0)
  have hpe := hdParse_hdLay _ (mHeader_ok m (mMay_facts m h0)) (hdLay_ok _ hfi)
  have hho := mHeader_hok m (mMay_facts m h0)
  have hP := fun A' c' W h1 h2 h3 h4 => head_Parse A' c' (hdLay (mHeader m)).1 W (hdLay_len _ (hdLay_ok _ hfi)) h1 h2 h3 h4
  rw [hpe] at hP
  have hrv : ∀ r ∈ mRecs m, r.val.length < 1073741824 := fun r hr => by
    unfold mRecs at hr
    rw [List.mem_append] at hr
    rcases hr with hr | hr
    · split at hr
      · simp only [List.mem_singleton] at hr; subst hr; simp only []; omega
      · simp at hr
    · split at hr
      · simp only [List.mem_singleton] at hr; subst hr; simp only []; omega
      · simp at hr
  have hFr := fun A' B' c' e' W h1 h2 h3 => memb_From (mHeader m) (mRecs m) m.data A' B' c' e' W hho (by omega) hrv (by omega) h1 h2 h3
  rw [mFrom_mHeader m h0] at hFr
  have hS := fun A' c' W h1 h2 => memb_Same m m A' A c' c W h1 h2
  rw [(mSame_iff m m).2 rfl] at hS
  have hsz : (mHeader m).size = (m.data.length : Int) := by unfold mHeader; split <;> rfl
  obtain ⟨S, hSe⟩ : ∃ S, (mLay m).1 = S := ⟨_, rfl⟩
  obtain ⟨XH, hXH⟩ : ∃ H, (hdLay (mHeader m)).1 = H := ⟨_, rfl⟩
  have hsl := wh.len
  have hq := wh.quo
  have hdq := wh.dq
  have hpm := wh.mod
  have hhe := wh.head
  have hda := wh.data
  have hrx := wh.recs
  rw [hSe] at hL hsl hhe hda
  rw [hXH] at hP hhe
  obtain ⟨RL, hRL⟩ : ∃ L, mRecs m = L := ⟨_, rfl⟩
  rw [hRL] at hRc hrc hFr hrx
  obtain ⟨HD, hHD⟩ : ∃ H, mHeader m = H := ⟨_, rfl⟩
  rw [hHD] at hP hFr hsz
  obtain ⟨p, k, ⟨mo, u, g, t⟩, ln, d⟩ := m
  obtain ⟨hp, hn, ⟨hmo, hu, hg_, ht⟩, hz, hty, hk⟩ := HD
  unfold FromPost at hFr
  unfold mbV at hF hT hL hRc hFr hS ⊢
  unfold hdV at hP hFr
  simp only [] at hF hT hL hRc hFr hS hP hsz hq hdq hda hfar hr ⊢
  subst hsz
  have hd5 : d.length ≤ 5000 := by omega
  have hbk : ((((PL + 512 + 512 * q : Nat) : Int) % 512) != 0) = false := by rw [bne_eq_false_iff_eq]; omega
  have hm1 : ((S.length : Int) % 512 != 0) = false := by rw [hsl]; exact hbk
  have hm2 : decide ((S.length : Int) < 512 + (q : Int) * 512) = false := by rw [decide_eq_false_iff_not]; omega
  have hm3 : decide ((512 : Int) + (q : Int) * 512 < (S.length : Int)) = decide ((0 : Int) < (RL.length : Int)) := by
    rw [decide_eq_decide]
    by_cases hn : RL = []
    · have := hrx.1 hn
      rw [hn]; simp; omega
    · have := hrx.2 hn
      have h5 : 0 < RL.length := List.length_pos_iff.2 hn
      constructor <;> intro _ <;> omega
  have hqb : (q : Int) ≤ 10 := by omega
  have hq0 : (0 : Int) ≤ (q : Int) := by omega
  have hps := wh.small
  have hSb : (S.length : Int) ≤ 20000 := by omega
  have hpb : (PL : Int) ≤ 10000 := by omega
  have hm4 : (S.length : Int) - (512 + (q : Int) * 512) = (PL : Int) := by omega
  have hb0 := (Below.refl w.heap.size w).alloc (Nat.le_refl _) (.cells #[.string (st p), .int .i64 k, .int .i64 mo, .int .i64 u, .int .i64 g, .int .i64 t, .string (st ln), .slice A d.length c] 45)
  have hc0 := Cel.new w #[.string (st p), .int .i64 k, .int .i64 mo, .int .i64 u, .int .i64 g, .int .i64 t, .string (st ln), .slice A d.length c] 45
  obtain ⟨P5, hP5⟩ : ∃ P5, PL + 512 = P5 := ⟨_, rfl⟩
  have hP5i : (PL : Int) + 512 = (P5 : Int) := by omega
  have hP5b : (P5 : Int) ≤ 20000 := by omega
  have hP5c : P5 + 512 * q = S.length := by omega
  rw [hP5] at hda
  have HP5 := Lib.hid hP5c
  have hw1 : IntKind.i64.wrap (PL : Int) = (PL : Int) := IntWalk.i64_in _ (by omega)
  have hw2 : IntKind.i64.wrap (P5 : Int) = (P5 : Int) := IntWalk.i64_in _ (by omega)
  have hw3 : IntKind.i64.wrap ((PL : Int) + 512) = (P5 : Int) := by rw [hP5i]; exact hw2
  clear hP5 hP5c
  have HF := Lib.hid hF
  have HT := Lib.hid hT
  have HL := Lib.hid hL
  have HRC := Lib.hid hRc
  have HA := Lib.hid hA
  have HP := Lib.hid hP
  have HFR := Lib.hid hFr
  have HS := Lib.hid hS
  have HRD := Lib.hid hr
  have HG := Lib.hid hg
  have HB0 := Lib.hid hb0
  have HC0 := Lib.hid hc0
  have HSL := Lib.hid hsl
  have HHE := Lib.hid hhe
  have HDA := Lib.hid hda
  have HDQ := Lib.hid hdq
  have HRLN := Lib.hid hrc
  clear hF hT hL hRc hA hP hFr hS hr hg hb0 hc0 hsl hhe hda hdq hrc hbk hpm hps hrx wh hSe hXH hRL hHD hfi hpe hho hrv hfar ok h0
  go_enter Tryz.func5, Tryz.ntmps5
  go_wp2_with (first | (go_at_call 20; refine (HF.out _).mono ?_; rintro e w1 ⟨rfl, hb⟩; have HB1 := Lib.hid (HB0.out.trans (hb.mono HB0.out.size)); have HC1 := Lib.hid (HC0.out.below hb); have c0 := HC1.out.cell 0 _ rfl; have c1 := HC1.out.cell 1 _ rfl; have c2 := HC1.out.cell 2 _ rfl; have c3 := HC1.out.cell 3 _ rfl; have c4 := HC1.out.cell 4 _ rfl; have c5 := HC1.out.cell 5 _ rfl; have c6 := HC1.out.cell 6 _ rfl; have c7 := HC1.out.cell 7 _ rfl; clear hb) | (go_at_call 18; have hx := HR3; clear hx; refine (HT.out _).mono ?_; rintro e w4 ⟨rfl, hb⟩; have HB4 := Lib.hid (HB3.out.trans (hb.mono HB3.out.size)); have HC4 := Lib.hid (HC3.out.below hb); have HR4 := Lib.hid (HR3.out.below hb); clear hb) | (go_at_call 18; refine (HT.out _).mono ?_; rintro e w2 ⟨rfl, hb⟩; have HB2 := Lib.hid (HB1.out.trans (hb.mono HB1.out.size)); have HC2 := Lib.hid (HC1.out.below hb); clear hb) | (go_at_call 21; refine (HL.out _ (HRD.out.below HB2.out) (HG.out.below HB2.out)).mono ?_; rintro e w3 ⟨v, rfl, ho, hb⟩; have HB3 := Lib.hid (HB2.out.trans (hb.mono HB2.out.size)); have HC3 := Lib.hid (HC2.out.below hb); have c0 := HC3.out.cell 0 _ rfl; have c1 := HC3.out.cell 1 _ rfl; have c2 := HC3.out.cell 2 _ rfl; have c3 := HC3.out.cell 3 _ rfl; have c4 := HC3.out.cell 4 _ rfl; have c5 := HC3.out.cell 5 _ rfl; have c6 := HC3.out.cell 6 _ rfl; have c7 := HC3.out.cell 7 _ rfl; obtain ⟨gb, cap, rfl, _, _, hk1, hk2⟩ := own_form ho (by have := HSL.out; omega); have HK1 := Lib.hid hk1; have HK2 := Lib.hid hk2; have HR3 := Lib.hid (own_rd ho rfl); obtain ⟨A1, hcut1, hrd1, _⟩ := cut_from .i64 (some ⟨gb, 0, none⟩) S.length cap PL (by have := HSL.out; omega); obtain ⟨A3, hcut3, hrd3, _⟩ := cut_from .i64 (some ⟨gb, 0, none⟩) S.length cap P5 (by have := HP5.out; omega); have hcut2 : ∀ W : World, (Instr.slice 31 (.slice A1 (S.length - PL) (cap - PL)) none (some (.int .i64 512)) none).run Tryz.prog W = .ok (.slice A1 512 (cap - PL)) W := (fun W => cut_to .i64 A1 (S.length - PL) (cap - PL) 512 (by have := HSL.out; omega) W); have hcut4 : ∀ W : World, (Instr.slice 31 (.slice A3 (S.length - P5) (cap - P5)) none (some (.int .i64 (d.length : Int))) none).run Tryz.prog W = .ok (.slice A3 d.length (cap - P5)) W := (fun W => cut_to .i64 A3 (S.length - P5) (cap - P5) d.length (by have h1 := HP5.out; have h2 := HDQ.out; have h3 := hk1; omega) W);  have HRD1 := Lib.hid hrd1; have HRD3 := Lib.hid hrd3; clear hb ho hk1 hk2 hrd1 hrd3) | (go_at_call 22; refine (HRC.out _ (HG.out.below HB4.out)).mono ?_; rintro e w5 ⟨v15, rfl, ho, hb⟩; have HB5 := Lib.hid (HB4.out.trans (hb.mono HB4.out.size)); have HC5 := Lib.hid (HC4.out.below hb); have HR5 := Lib.hid (HR4.out.below hb); have c0 := HC5.out.cell 0 _ rfl; have c1 := HC5.out.cell 1 _ rfl; have c2 := HC5.out.cell 2 _ rfl; have c3 := HC5.out.cell 3 _ rfl; have c4 := HC5.out.cell 4 _ rfl; have c5 := HC5.out.cell 5 _ rfl; have c6 := HC5.out.cell 6 _ rfl; have c7 := HC5.out.cell 7 _ rfl; obtain ⟨A15, c15, rfl, _, hrd⟩ := RdV.of_own ho; have HR15 := Lib.hid hrd; clear hb ho hrd) | (go_at_call 23; refine (HP.out A1 (cap - PL) _ (by have := HSL.out; have := HK1.out; omega) (Nat.le_trans (Nat.sub_le _ _) (Nat.le_trans HK2.out (by decide))) (rd_take (HRD1.out _ S rfl HK1.out HR5.out) 512 _ HHE.out) (HG.out.below HB5.out)).mono ?_; rintro e w6 ⟨rfl, hb⟩; have HB6 := Lib.hid (HB5.out.trans (hb.mono HB5.out.size)); have HC6 := Lib.hid (HC5.out.below hb); have HR6 := Lib.hid (HR5.out.below hb); have HR156 := Lib.hid (HR15.out.below hb); have c0 := HC6.out.cell 0 _ rfl; have c1 := HC6.out.cell 1 _ rfl; have c2 := HC6.out.cell 2 _ rfl; have c3 := HC6.out.cell 3 _ rfl; have c4 := HC6.out.cell 4 _ rfl; have c5 := HC6.out.cell 5 _ rfl; have c6 := HC6.out.cell 6 _ rfl; have c7 := HC6.out.cell 7 _ rfl; clear hb))
  obtain ⟨R1, hR1⟩ : ∃ R, w6.heap.size = R := ⟨_, rfl⟩
  obtain ⟨W7, hW7⟩ : ∃ W, w6.alloc (.cells #[.string (st hp), .string (st hn), .int .i64 hmo, .int .i64 hu, .int .i64 hg_, .int .i64 ht, .int .i64 (d.length : Int), .int .u8 (hty.toNat : Int), .string (st hk)] 43) = W := ⟨_, rfl⟩
  have hh7 : Cel W7 R1 #[.string (st hp), .string (st hn), .int .i64 hmo, .int .i64 hu, .int .i64 hg_, .int .i64 ht, .int .i64 (d.length : Int), .int .u8 (hty.toNat : Int), .string (st hk)] 43 := by rw [← hW7, ← hR1]; exact Cel.new _ _ _
  have hb67 : Below w6.heap.size w6 W7 := by rw [← hW7]; exact (Below.refl _ _).alloc (Nat.le_refl _) _
  have HH7 := Lib.hid hh7
  have HC7 := Lib.hid (HC6.out.below hb67)
  have HB7 := Lib.hid (HB6.out.trans (hb67.mono HB6.out.size))
  have HX7 := Lib.hid (HR156.out.below hb67)
  have HY7 := Lib.hid (rd_take (HRD3.out _ S rfl HK1.out (HR6.out.below hb67)) d.length _ HDA.out)
  have HG7 := Lib.hid (HG.out.below HB7.out)
  try rw [hW7]
  try rw [hR1]
  clear hW7 hR1 hb67 hh7 c0 c1 c2 c3 c4 c5 c6 c7 HC6 HC5 HC4 HC3 HC2 HC1 HC0 HB6 HB5 HB4 HB3 HB2 HB1 HB0 HR6 HR5 HR4 HR3 HR15 HR156 HRD1 HF HL HRC HP hcut1 hcut2
  have c7 := HC7.out.cell 7 _ rfl
  have x0 := HH7.out.cell 0 _ rfl
  have x1 := HH7.out.cell 1 _ rfl
  have x2 := HH7.out.cell 2 _ rfl
  have x3 := HH7.out.cell 3 _ rfl
  have x4 := HH7.out.cell 4 _ rfl
  have x5 := HH7.out.cell 5 _ rfl
  have x6 := HH7.out.cell 6 _ rfl
  have x7 := HH7.out.cell 7 _ rfl
  have x8 := HH7.out.cell 8 _ rfl
  have hne1 : W7.heap.size ≠ R1 := Nat.ne_of_gt HH7.out.lt
  have hne2 : W7.heap.size ≠ w.heap.size := Nat.ne_of_gt HC7.out.lt
  go_cut [9, 10] (fun s9 s10 wx => s10 = .int .i64 0 ∧ ∃ R2 A9 c9, s9 = .pointer (some ⟨R2, 0, none⟩) ∧ WS w wx #[.string (st p), .int .i64 k, .int .i64 mo, .int .i64 u, .int .i64 g, .int .i64 t, .string (st ln), .slice A d.length c] #[.string (st hp), .string (st hn), .int .i64 hmo, .int .i64 hu, .int .i64 hg_, .int .i64 ht, .int .i64 (d.length : Int), .int .u8 (hty.toNat : Int), .string (st hk)] R1 R2 #[.string (st p), .int .i64 k, .int .i64 mo, .int .i64 u, .int .i64 g, .int .i64 t, .string (st ln), .slice A9 d.length c9] A9 d)
  case first =>
    go_region_held3 (fun w' => w'.cell? ⟨R1, 0, none⟩ = some (.string (st hp)) ∧ w'.cell? ⟨R1, 1, none⟩ = some (.string (st hn)) ∧ w'.cell? ⟨R1, 2, none⟩ = some (.int .i64 hmo) ∧ w'.cell? ⟨R1, 3, none⟩ = some (.int .i64 hu) ∧ w'.cell? ⟨R1, 4, none⟩ = some (.int .i64 hg_) ∧ w'.cell? ⟨R1, 5, none⟩ = some (.int .i64 ht) ∧ w'.cell? ⟨R1, 6, none⟩ = some (.int .i64 (d.length : Int)) ∧ w'.cell? ⟨R1, 7, none⟩ = some (.int .u8 (hty.toNat : Int)) ∧ w'.cell? ⟨R1, 8, none⟩ = some (.string (st hk)) ∧ w'.cell? ⟨w.heap.size, 7, none⟩ = some (.slice A d.length c)) (first | (go_keep; done) | (go_split_ands; refine ⟨?_, ?_, ?_, ?_, ?_, ?_, ?_, ?_, ?_, ?_⟩ <;> exact keep_cell hb (by assumption)) | ((repeat' apply And.intro) <;> go_keep))
      (first | (go_at_call 16; refine (HFR.out A15 A3 _ _ _ (by first | exact HX7.out.below (Below.refl _ _).drew | exact HX7.out.below ((Below.refl _ _).alloc (Nat.le_refl _) _).drew) (by first | exact HY7.out.below (Below.refl _ _).drew | exact HY7.out.below ((Below.refl _ _).alloc (Nat.le_refl _) _).drew) (by first | exact HG7.out.below (Below.refl _ _).drew | exact HG7.out.below ((Below.refl _ _).alloc (Nat.le_refl _) _).drew)).mono ?_; rintro e w8 ⟨A9, c9, rfl, hrd9, hb⟩; have HR9 := Lib.hid hrd9; have hh8 := Cel.below (by first | exact HH7.out.below (Below.refl _ _).drew | exact HH7.out.below ((Below.refl _ _).alloc (Nat.le_refl _) _).drew) hb; have hc8 := Cel.below (by first | exact HC7.out.below (Below.refl _ _).drew | exact HC7.out.below ((Below.refl _ _).alloc (Nat.le_refl _) _).drew) hb; have HH8 := Lib.hid hh8; have HC8 := Lib.hid hc8; have y0 := hh8.cell 0 _ rfl; have y1 := hh8.cell 1 _ rfl; have y2 := hh8.cell 2 _ rfl; have y3 := hh8.cell 3 _ rfl; have y4 := hh8.cell 4 _ rfl; have y5 := hh8.cell 5 _ rfl; have y6 := hh8.cell 6 _ rfl; have y7 := hh8.cell 7 _ rfl; have y8 := hh8.cell 8 _ rfl; have y9 := hc8.cell 7 _ rfl; have HBX : Hid (Below W7.heap.size W7 w8) := Lib.hid (by first | exact ((Below.refl _ _).drew).trans hb | exact (((Below.refl _ _).alloc (Nat.le_refl _) _).drew).trans (hb.mono (by simp))); (try (have hz : Cel w8 W7.heap.size zeroMb 38 := Cel.below (Cel.new W7 zeroMb 38).drew hb; have HZ8 := Lib.hid hz; have z0 := hz.cell 0 _ rfl; have z1 := hz.cell 1 _ rfl; have z2 := hz.cell 2 _ rfl; have z3 := hz.cell 3 _ rfl; have z4 := hz.cell 4 _ rfl; have z5 := hz.cell 5 _ rfl; have z6 := hz.cell 6 _ rfl; have z7 := hz.cell 7 _ rfl; have fz := hz.frozen; clear hz)); clear hrd9 hh8 hc8))
    all_goals
      go_wp2_with fail
      go_meet
      have hb8 := HB7.out.trans (HBX.out.mono HB7.out.size)
    · exact ⟨rfl, _, A9, c9, rfl, ⟨HC8.out.below ((Below.refl _ _).alloc (Nat.le_refl _) _), HH8.out.below ((Below.refl _ _).alloc (Nat.le_refl _) _), Cel.new w8 _ _, HR9.out.below ((Below.refl _ _).alloc (Nat.le_refl _) _), hb8.alloc hb8.size _⟩⟩
    · have hf := rd_ne_zero HZ8.out HR9.out
      have hle := HB7.out.size
      exact ⟨rfl, _, A9, c9, rfl, ⟨HC8.out.other8 hne2 _ _ _ _ _ _ _ _, HH8.out.other8 hne1 _ _ _ _ _ _ _ _, HZ8.out.put8 _ _ _ _ _ _ _ _, ((((((((HR9.out.far ⟨W7.heap.size, 0, none⟩ _ hf).far ⟨W7.heap.size, 1, none⟩ _ hf).far ⟨W7.heap.size, 2, none⟩ _ hf).far ⟨W7.heap.size, 3, none⟩ _ hf).far ⟨W7.heap.size, 4, none⟩ _ hf).far ⟨W7.heap.size, 5, none⟩ _ hf).far ⟨W7.heap.size, 6, none⟩ _ hf).far ⟨W7.heap.size, 7, none⟩ _ hf), ((((((((hb8.setCell (p := ⟨W7.heap.size, 0, none⟩) hle _).setCell (p := ⟨W7.heap.size, 1, none⟩) hle _).setCell (p := ⟨W7.heap.size, 2, none⟩) hle _).setCell (p := ⟨W7.heap.size, 3, none⟩) hle _).setCell (p := ⟨W7.heap.size, 4, none⟩) hle _).setCell (p := ⟨W7.heap.size, 5, none⟩) hle _).setCell (p := ⟨W7.heap.size, 6, none⟩) hle _).setCell (p := ⟨W7.heap.size, 7, none⟩) hle _)⟩⟩
  case rest =>
    obtain ⟨rfl, R2, A9, c9, rfl, ws⟩ := hcut
    have WS9 := Lib.hid ws
    have m0 := ws.m.cell 0 _ rfl
    have m1 := ws.m.cell 1 _ rfl
    have m2 := ws.m.cell 2 _ rfl
    have m3 := ws.m.cell 3 _ rfl
    have m4 := ws.m.cell 4 _ rfl
    have m5 := ws.m.cell 5 _ rfl
    have m6 := ws.m.cell 6 _ rfl
    have m7 := ws.m.cell 7 _ rfl
    have v0 := ws.c.cell 0 _ rfl
    have v1 := ws.c.cell 1 _ rfl
    have v2 := ws.c.cell 2 _ rfl
    have v3 := ws.c.cell 3 _ rfl
    have v4 := ws.c.cell 4 _ rfl
    have v5 := ws.c.cell 5 _ rfl
    have v6 := ws.c.cell 6 _ rfl
    have v7 := ws.c.cell 7 _ rfl
    have h6 := ws.h.cell 6 _ rfl
    clear ws HFR HH7 HC7 HB7 HX7 HY7 HG7 c7 x0 x1 x2 x3 x4 x5 x6 x7 x8 hne1 hne2
    go_wp2_with fail
    go_region_held3 (fun w' => w'.cell? ⟨R2, 0, none⟩ = some (.string (st p)) ∧ w'.cell? ⟨R2, 1, none⟩ = some (.int .i64 k) ∧ w'.cell? ⟨R2, 2, none⟩ = some (.int .i64 mo) ∧ w'.cell? ⟨R2, 3, none⟩ = some (.int .i64 u) ∧ w'.cell? ⟨R2, 4, none⟩ = some (.int .i64 g) ∧ w'.cell? ⟨R2, 5, none⟩ = some (.int .i64 t) ∧ w'.cell? ⟨R2, 6, none⟩ = some (.string (st ln)) ∧ w'.cell? ⟨R2, 7, none⟩ = some (.slice A9 d.length c9) ∧ w'.cell? ⟨w.heap.size, 0, none⟩ = some (.string (st p)) ∧ w'.cell? ⟨w.heap.size, 1, none⟩ = some (.int .i64 k) ∧ w'.cell? ⟨w.heap.size, 2, none⟩ = some (.int .i64 mo) ∧ w'.cell? ⟨w.heap.size, 3, none⟩ = some (.int .i64 u) ∧ w'.cell? ⟨w.heap.size, 4, none⟩ = some (.int .i64 g) ∧ w'.cell? ⟨w.heap.size, 5, none⟩ = some (.int .i64 t) ∧ w'.cell? ⟨w.heap.size, 6, none⟩ = some (.string (st ln)) ∧ w'.cell? ⟨w.heap.size, 7, none⟩ = some (.slice A d.length c) ∧ w'.cell? ⟨R1, 6, none⟩ = some (.int .i64 (d.length : Int))) (first | (go_keep; done) | (go_split_ands; refine ⟨?_, ?_, ?_, ?_, ?_, ?_, ?_, ?_, ?_, ?_, ?_, ?_, ?_, ?_, ?_, ?_, ?_⟩ <;> exact keep_cell hb (by assumption)))
      (first | (go_at_call 18; refine (HT.out _).mono ?_; rintro e w9 ⟨rfl, hb⟩; have HBZ := Lib.hid ((Below.refl wc.heap.size wc).drew.trans hb); have HB9 := Lib.hid (WS9.out.b.trans (HBZ.out.mono WS9.out.b.size))) | (go_at_call 19; refine (HS.out A9 c9 _ (WS9.out.r.below HBZ.out) (HRD.out.below HB9.out)).mono ?_; rintro e w10 ⟨rfl, hb⟩; have HB10 := Lib.hid (HB9.out.trans (hb.mono HB9.out.size))) | (go_at_call 15; refine (HA.out _ (HG.out.below HB10.out)).mono ?_; rintro e w11 ⟨rfl, hb⟩; have HB11 := Lib.hid (HB10.out.trans (hb.mono HB10.out.size))))
    all_goals
      go_wp2
      go_ret
      exact ⟨rfl, HB11.out⟩
end Go.Proofs.YtckgjbpgdpcnnaaGreatDoor
namespace Go.Proofs.YtckgjbpgdpcnnaaGreatDoor
set_option linter.all false
set_option linter.unusedVariables false
set_option linter.unusedSimpArgs false
open Go.RowKit Pl
attribute [local go_sem] st_toList st_size

set_option maxRecDepth 100000 in
set_option maxHeartbeats 4000000 in
theorem law_MembWhole_far (m : Member) (A : Option Addr) (c : Nat) (w : World) (hg : Glob w) (hfar : 600 < m.path.length ∨ 600 < m.link.length ∨ 5000 < m.data.length) :
    Calls Tryz.prog 5 #[mbV m A c] w fun e w' => e = .returned (.bool true) ∧ Below w.heap.size w w' := by
  have hF := fun W => far08 m A c W
  rw [decide_eq_true hfar] at hF
  have hA := fun W h => alive08 W h
  obtain ⟨p, k, ⟨mo, u, g, t⟩, ln, d⟩ := m
  unfold mbV at hF ⊢
  simp only [] at hF ⊢
  have hb0 := (Below.refl w.heap.size w).alloc (Nat.le_refl _) (.cells #[.string (st p), .int .i64 k, .int .i64 mo, .int .i64 u, .int .i64 g, .int .i64 t, .string (st ln), .slice A d.length c] 45)
  have HF := Lib.hid hF
  have HA := Lib.hid hA
  have HG := Lib.hid hg
  have HB0 := Lib.hid hb0
  clear hF hA hg hb0 hfar
  go_enter Tryz.func5, Tryz.ntmps5
  go_wp2_with (first | (go_at_call 20; refine (HF.out _).mono ?_; rintro e w1 ⟨rfl, hb⟩; have HB1 := Lib.hid (HB0.out.trans (hb.mono HB0.out.size)); clear hb) | (go_at_call 15; refine (HA.out _ (HG.out.below HB1.out)).mono ?_; rintro e w2 ⟨rfl, hb⟩; have HB2 := Lib.hid (HB1.out.trans (hb.mono HB1.out.size)); clear hb))
  go_ret
  exact ⟨rfl, HB2.out⟩
set_option maxRecDepth 100000 in
set_option maxHeartbeats 4000000 in
theorem law_MembWhole_err (m : Member) (A : Option Addr) (c : Nat) (w : World) (ok : MbOk m) (hr : Rd w A m.data) (hg : Glob w) (hfar : ¬ (600 < m.path.length ∨ 600 < m.link.length ∨ 5000 < m.data.length)) (h0 : mMay m ≠ 0) :
    Calls Tryz.prog 5 #[mbV m A c] w fun e w' => e = .returned (.bool true) ∧ Below w.heap.size w w' := by
  have hF := fun W => far08 m A c W
  rw [decide_eq_false hfar] at hF
  have hT := fun W => theirs08 m A c W
  have hA := fun W h => alive08 W h
  have hL := fun W h1 h2 => memb_Lay m A c W ok h1 h2
  rw [mLay_err m h0] at hL
  have hne : (mMay m != 0) = true := by rw [bne_iff_ne]; exact h0
  obtain ⟨E, hE⟩ : ∃ E, mMay m = E := ⟨_, rfl⟩
  rw [hE] at hL hne
  obtain ⟨p, k, ⟨mo, u, g, t⟩, ln, d⟩ := m
  unfold mbV at hF hT hL ⊢
  simp only [] at hF hT hL hr ⊢
  have hb0 := (Below.refl w.heap.size w).alloc (Nat.le_refl _) (.cells #[.string (st p), .int .i64 k, .int .i64 mo, .int .i64 u, .int .i64 g, .int .i64 t, .string (st ln), .slice A d.length c] 45)
  have hc0 := Cel.new w #[.string (st p), .int .i64 k, .int .i64 mo, .int .i64 u, .int .i64 g, .int .i64 t, .string (st ln), .slice A d.length c] 45
  have HF := Lib.hid hF
  have HT := Lib.hid hT
  have HL := Lib.hid hL
  have HA := Lib.hid hA
  have HG := Lib.hid hg
  have HR := Lib.hid hr
  have HB0 := Lib.hid hb0
  have HC0 := Lib.hid hc0
  clear hF hT hL hA hg hr hb0 hc0 hfar h0 hE ok
  go_enter Tryz.func5, Tryz.ntmps5
  go_wp2_with (first | (go_at_call 20; refine (HF.out _).mono ?_; rintro e w1 ⟨rfl, hb⟩; have HB1 := Lib.hid (HB0.out.trans (hb.mono HB0.out.size)); have HC1 := Lib.hid (HC0.out.below hb); have c0 := HC1.out.cell 0 _ rfl; have c1 := HC1.out.cell 1 _ rfl; have c2 := HC1.out.cell 2 _ rfl; have c3 := HC1.out.cell 3 _ rfl; have c4 := HC1.out.cell 4 _ rfl; have c5 := HC1.out.cell 5 _ rfl; have c6 := HC1.out.cell 6 _ rfl; have c7 := HC1.out.cell 7 _ rfl; clear hb) | (go_at_call 18; refine (HT.out _).mono ?_; rintro e w2 ⟨rfl, hb⟩; have HB2 := Lib.hid (HB1.out.trans (hb.mono HB1.out.size)); clear hb) | (go_at_call 21; refine (HL.out _ (HR.out.below HB2.out) (HG.out.below HB2.out)).mono ?_; rintro e w3 ⟨v, rfl, ho, hb⟩; have HB3 := Lib.hid (HB2.out.trans (hb.mono HB2.out.size)); obtain ⟨A4, c4, rfl, _, _⟩ := Rd.of_own ho; clear ho hb) | (go_at_call 15; refine (HA.out _ (HG.out.below HB3.out)).mono ?_; rintro e w4 ⟨rfl, hb⟩; have HB4 := Lib.hid (HB3.out.trans (hb.mono HB3.out.size)); clear hb))
  go_ret
  exact ⟨rfl, HB4.out⟩
theorem law_MembWhole (m : Member) (A : Option Addr) (c : Nat) (w : World) (hk : i64 m.kind) (h1 : i64 m.meta_.mode) (h2 : i64 m.meta_.uid) (h3 : i64 m.meta_.gid) (h4 : i64 m.meta_.mtime) (hr : Rd w A m.data) (hg : Glob w) :
    Calls Tryz.prog 5 #[mbV m A c] w fun e w' => e = .returned (.bool true) ∧ Below w.heap.size w w' := by
  by_cases hfar : 600 < m.path.length ∨ 600 < m.link.length ∨ 5000 < m.data.length
  · exact law_MembWhole_far m A c w hg hfar
  · have ok : MbOk m := ⟨by omega, by omega, by omega, hk, h1, h2, h3, h4⟩
    by_cases h0 : mMay m = 0
    · exact law_MembWhole_ok m A c w ok hr hg hfar h0
    · exact law_MembWhole_err m A c w ok hr hg hfar h0
end Go.Proofs.YtckgjbpgdpcnnaaGreatDoor
