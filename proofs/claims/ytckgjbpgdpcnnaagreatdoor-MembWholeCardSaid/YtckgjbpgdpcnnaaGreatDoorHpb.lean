/-
  THE CONTRACT of head.Parse, on: behind a header's sum and its magic.
-/
import Derived.Test.YtckgjbpgdpcnnaaGreatDoorHpas
import Derived.Deep.DeepCutAuto
namespace Go.Proofs.YtckgjbpgdpcnnaaGreatDoor
set_option linter.all false
set_option linter.unusedVariables false
set_option linter.unusedSimpArgs false
open Go.RowKit Pl
attribute [local go_sem] st_toList st_size

/-- What Parse says, its fields read. -/
def hdFin (f : Fs) (ty : UInt8) : Header × Int :=
  if lastE f ≠ 0 then (noHeader, lastE f)
  else if isType (if ty = 0 then 48 else ty) = false then (noHeader, 11)
  else if hdBelow (hdOf f (if ty = 0 then 48 else ty)) = true then (noHeader, 10)
  else (hdOf f (if ty = 0 then 48 else ty), 0)
set_option maxRecDepth 100000 in
set_option maxHeartbeats 4000000 in
theorem hpar_fin (A : Option Addr) (c : Nat) (l : Bs) (w : World) (hl : l.length = 512) (hc : 512 ≤ c) (hbig : c ≤ 9223372036854775807) (hr : Rd w A l) (hg : Glob w) (he : hCheck l = 0) (hm : fieldB l 257 8 = ustar) (H : Header) (E : Int) (hres : hdFin (fieldsOf l) (l.getD 156 0) = (H, E)) :
    Calls Tryz.prog 23 #[.slice A 512 c] w fun en w' => en = .returned (.tuple #[hdV H, .int .i64 E]) ∧ Below w.heap.size w w' := by
  have hC := fun W h => hsum_Check A c l W hl hc hbig h
  rw [he] at hC
  obtain ⟨ab, ao, rfl, hcell⟩ := hr (by omega)
  obtain ⟨ty, hty⟩ : ∃ ty, l.getD 156 0 = ty := ⟨_, rfl⟩
  have c156 : w.cell? ⟨ab, ao + 156, none⟩ = some (.int .u8 (ty.toNat : Int)) := by
    rw [← hty]
    exact hcell 156 _ (by simp [List.getD, List.getElem?_eq_getElem (show 156 < l.length by omega)])
  have C156 := Lib.hid c156
  have HTY := Lib.hid hty
  rw [hty] at hres
  clear hty
  clear hcell c156
  have HC := Lib.hid hC
  have HG := Lib.hid hg
  have hb0 := (Below.refl w.heap.size w).alloc (Nat.le_refl _) (.cells zeroHd 43)
  have HR := Lib.hid (hr.below hb0)
  have HR0 := Lib.hid hr
  have HB := Lib.hid hb0
  have HZ := Lib.hid (Cel.new w zeroHd 43)
  obtain ⟨A', hcut0, hrd, _⟩ := cut_from .i64 (some ⟨ab, ao, none⟩) 512 c 257 (by omega)
  have hcut : ∀ W : World, (Instr.slice 31 (.slice (some ⟨ab, ao, none⟩) 512 c) (some (.int .i64 257)) none none).run Tryz.prog W = .ok (.slice A' 255 (c - 257)) W := hcut0
  have hrd2 := fun W h => hrd W l hl hc h
  have HRD := Lib.hid hrd2
  have kc := fun W : World => kc_bytes W #[.int .u8 117, .int .u8 115, .int .u8 116, .int .u8 97, .int .u8 114, .int .u8 0, .int .u8 48, .int .u8 48] 8 8
  have HHP := Lib.hid (hp_iff l hl)
  have HL := Lib.hid hl
  have hpt : decide (fieldB l 257 8 = ustar) = true := by simpa using hm
  have HPT := Lib.hid hpt
  obtain ⟨fs, hfs⟩ : ∃ fs, fieldsOf l = fs := ⟨_, rfl⟩
  rw [hfs] at hres
  obtain ⟨⟨p1, p2⟩, ⟨n1, n2⟩, ⟨k1, k2⟩, ⟨m1, m2⟩, ⟨u1, u2⟩, ⟨g1, g2⟩, ⟨z1, z2⟩, ⟨t1, t2⟩⟩ := fs
  have HFp : Hid (sGet (fieldB l 345 155) = (p1, p2)) := Lib.hid (congrArg Fs.p hfs)
  have HFn : Hid (sGet (fieldB l 0 100) = (n1, n2)) := Lib.hid (congrArg Fs.n hfs)
  have HFk : Hid (sGet (fieldB l 157 100) = (k1, k2)) := Lib.hid (congrArg Fs.k hfs)
  have HFm : Hid (nGet (fieldB l 100 8) = (m1, m2)) := Lib.hid (congrArg Fs.m hfs)
  have HFu : Hid (nGet (fieldB l 108 8) = (u1, u2)) := Lib.hid (congrArg Fs.u hfs)
  have HFg : Hid (nGet (fieldB l 116 8) = (g1, g2)) := Lib.hid (congrArg Fs.g hfs)
  have HFz : Hid (nGet (fieldB l 124 12) = (z1, z2)) := Lib.hid (congrArg Fs.z hfs)
  have HFt : Hid (nGet (fieldB l 136 12) = (t1, t2)) := Lib.hid (congrArg Fs.t hfs)
  unfold hdFin lastE hdOf at hres
  simp only [] at hres
  obtain ⟨e1, he1⟩ : ∃ e, readE 0 p2 = e := ⟨_, rfl⟩
  have HE1 : Hid (readE 0 (p1, p2).2 = e1) := Lib.hid he1
  rw [he1] at hres
  obtain ⟨e2, he2⟩ : ∃ e, readE e1 n2 = e := ⟨_, rfl⟩
  have HE2 : Hid (readE e1 (n1, n2).2 = e2) := Lib.hid he2
  rw [he2] at hres
  obtain ⟨e3, he3⟩ : ∃ e, readE e2 k2 = e := ⟨_, rfl⟩
  have HE3 : Hid (readE e2 (k1, k2).2 = e3) := Lib.hid he3
  rw [he3] at hres
  obtain ⟨e4, he4⟩ : ∃ e, readE e3 m2 = e := ⟨_, rfl⟩
  have HE4 : Hid (readE e3 (m1, m2).2 = e4) := Lib.hid he4
  rw [he4] at hres
  obtain ⟨e5, he5⟩ : ∃ e, readE e4 u2 = e := ⟨_, rfl⟩
  have HE5 : Hid (readE e4 (u1, u2).2 = e5) := Lib.hid he5
  rw [he5] at hres
  obtain ⟨e6, he6⟩ : ∃ e, readE e5 g2 = e := ⟨_, rfl⟩
  have HE6 : Hid (readE e5 (g1, g2).2 = e6) := Lib.hid he6
  rw [he6] at hres
  obtain ⟨e7, he7⟩ : ∃ e, readE e6 z2 = e := ⟨_, rfl⟩
  have HE7 : Hid (readE e6 (z1, z2).2 = e7) := Lib.hid he7
  rw [he7] at hres
  obtain ⟨e8, he8⟩ : ∃ e, readE e7 t2 = e := ⟨_, rfl⟩
  have HE8 : Hid (readE e7 (t1, t2).2 = e8) := Lib.hid he8
  rw [he8] at hres
  clear hfs he1 he2 he3 he4 he5 he6 he7 he8
  have HRES := Lib.hid hres
  clear hres
  clear hC he hr hb0 hrd hrd2 hl hm hpt hg hcut0
  go_enter Tryz.func23, Tryz.ntmps23
  go_upto_if 57 with (first | (go_at_call 64; go_must (refine (HC.out _ HR.out).mono ?_); rintro e w2 ⟨rfl, hb⟩; have HB2 := Lib.hid (HB.out.trans (hb.mono (by simp))); have HZ2 := Lib.hid (HZ.out.below hb); clear hb) | (go_at_call 65; go_must (refine (lib_HasPrefix A' (some ⟨w2.heap.size, 0, none⟩) 255 (c - 257) 8 8 (l.drop 257) ustar _ (by rw [List.length_drop, HL.out]) rfl (by omega) (HRD.out _ (HR0.out.below (HB2.out.alloc HB2.out.size _))) (rd_const w2 ustar (8, 9))).mono ?_); rw [HHP.out, HPT.out]; rintro e w3 ⟨rfl, hw3⟩; have HB3 : Hid (Below w.heap.size w w3) := Lib.hid (hw3 ▸ HB2.out.alloc HB2.out.size _); have hz3 : Cel w3 w.heap.size zeroHd 43 := hw3 ▸ (HZ2.out.below ((Below.refl _ _).alloc (Nat.le_refl _) _)); have HZ3 := Lib.hid hz3; have d156 := fun o => ((HB3.out.alloc HB3.out.size o).cell (p := ⟨ab, ao + 156, none⟩) (World.block_lt_of_cell? w _ C156.out)).trans C156.out;  clear hz3 hw3) | (go_at_call 67; have hx := HS7; clear hx; go_must (refine (rs_number HS7.out l HL.out hc hbig HR0.out 136 12 (by omega) (by omega) (t1, t2) HFt.out e8 HE8.out).mono ?_); rintro en w12 ⟨rfl, hs⟩; have f8 := hs.h.frozen 5; have c8 := hs.h.cell 5 (.int .i64 0) rfl; have HS8 : Hid (RS w (w12.setCell ⟨w3.heap.size + 1, 5, none⟩ (.int .i64 t1)) (some ⟨ab, ao, none⟩) c w3.heap.size e8 #[.string (st p1), .string (st n1), .int .i64 m1, .int .i64 u1, .int .i64 g1, .int .i64 t1, .int .i64 z1, .int .u8 (ty.toNat : Int), .string (st k1)]) := Lib.hid (hs.put 5 (.int .i64 t1)); clear hs; have y7 := HS8.out.h.cell 7 _ rfl; have g7 := HS8.out.h.frozen 7) | (go_at_call 67; have hx := HS6; clear hx; go_must (refine (rs_number HS6.out l HL.out hc hbig HR0.out 124 12 (by omega) (by omega) (z1, z2) HFz.out e7 HE7.out).mono ?_); rintro en w11 ⟨rfl, hs⟩; have f7 := hs.h.frozen 6; have c7 := hs.h.cell 6 (.int .i64 0) rfl; have HS7 : Hid (RS w (w11.setCell ⟨w3.heap.size + 1, 6, none⟩ (.int .i64 z1)) (some ⟨ab, ao, none⟩) c w3.heap.size e7 #[.string (st p1), .string (st n1), .int .i64 m1, .int .i64 u1, .int .i64 g1, .int .i64 0, .int .i64 z1, .int .u8 (ty.toNat : Int), .string (st k1)]) := Lib.hid (hs.put 6 (.int .i64 z1)); clear hs) | (go_at_call 67; have hx := HS5; clear hx; go_must (refine (rs_number HS5.out l HL.out hc hbig HR0.out 116 8 (by omega) (by omega) (g1, g2) HFg.out e6 HE6.out).mono ?_); rintro en w10 ⟨rfl, hs⟩; have f6 := hs.h.frozen 4; have c6 := hs.h.cell 4 (.int .i64 0) rfl; have HS6 : Hid (RS w (w10.setCell ⟨w3.heap.size + 1, 4, none⟩ (.int .i64 g1)) (some ⟨ab, ao, none⟩) c w3.heap.size e6 #[.string (st p1), .string (st n1), .int .i64 m1, .int .i64 u1, .int .i64 g1, .int .i64 0, .int .i64 0, .int .u8 (ty.toNat : Int), .string (st k1)]) := Lib.hid (hs.put 4 (.int .i64 g1)); clear hs) | (go_at_call 67; have hx := HS4; clear hx; go_must (refine (rs_number HS4.out l HL.out hc hbig HR0.out 108 8 (by omega) (by omega) (u1, u2) HFu.out e5 HE5.out).mono ?_); rintro en w9 ⟨rfl, hs⟩; have f5 := hs.h.frozen 3; have c5 := hs.h.cell 3 (.int .i64 0) rfl; have HS5 : Hid (RS w (w9.setCell ⟨w3.heap.size + 1, 3, none⟩ (.int .i64 u1)) (some ⟨ab, ao, none⟩) c w3.heap.size e5 #[.string (st p1), .string (st n1), .int .i64 m1, .int .i64 u1, .int .i64 0, .int .i64 0, .int .i64 0, .int .u8 (ty.toNat : Int), .string (st k1)]) := Lib.hid (hs.put 3 (.int .i64 u1)); clear hs) | (go_at_call 67; have hx := HS3; clear hx; go_must (refine (rs_number HS3.out l HL.out hc hbig HR0.out 100 8 (by omega) (by omega) (m1, m2) HFm.out e4 HE4.out).mono ?_); rintro en w8 ⟨rfl, hs⟩; have f4 := hs.h.frozen 2; have c4 := hs.h.cell 2 (.int .i64 0) rfl; have HS4 : Hid (RS w (w8.setCell ⟨w3.heap.size + 1, 2, none⟩ (.int .i64 m1)) (some ⟨ab, ao, none⟩) c w3.heap.size e4 #[.string (st p1), .string (st n1), .int .i64 m1, .int .i64 0, .int .i64 0, .int .i64 0, .int .i64 0, .int .u8 (ty.toNat : Int), .string (st k1)]) := Lib.hid (hs.put 2 (.int .i64 m1)); clear hs) | (go_at_call 66; have hx := HS2; clear hx; go_must (refine (rs_text HS2.out l HL.out hc hbig HR0.out HG.out 157 100 (by omega) (by omega) (k1, k2) HFk.out e3 HE3.out).mono ?_); rintro en w7 ⟨rfl, hs⟩; have f3 := hs.h.frozen 8; have c3 := hs.h.cell 8 (.string { data := #[] }) rfl; have HS3 : Hid (RS w (w7.setCell ⟨w3.heap.size + 1, 8, none⟩ (.string (st k1))) (some ⟨ab, ao, none⟩) c w3.heap.size e3 #[.string (st p1), .string (st n1), .int .i64 0, .int .i64 0, .int .i64 0, .int .i64 0, .int .i64 0, .int .u8 (ty.toNat : Int), .string (st k1)]) := Lib.hid (hs.put 8 (.string (st k1))); clear hs) | (go_at_call 66; have hx := HS1; clear hx; go_must (refine (rs_text HS1.out l HL.out hc hbig HR0.out HG.out 0 100 (by omega) (by omega) (n1, n2) HFn.out e2 HE2.out).mono ?_); rintro en w6 ⟨rfl, hs⟩; have f2 := hs.h.frozen 1; have c2 := hs.h.cell 1 (.string { data := #[] }) rfl; have HS2 : Hid (RS w (w6.setCell ⟨w3.heap.size + 1, 1, none⟩ (.string (st n1))) (some ⟨ab, ao, none⟩) c w3.heap.size e2 #[.string (st p1), .string (st n1), .int .i64 0, .int .i64 0, .int .i64 0, .int .i64 0, .int .i64 0, .int .u8 (ty.toNat : Int), .string { data := #[] }]) := Lib.hid (hs.put 1 (.string (st n1))); clear hs) | (go_at_call 66; have hx := HB3; clear hx; obtain ⟨w4, hw4⟩ : ∃ W, ((w3.alloc (.cells #[.slice (some ⟨ab, ao, none⟩) 512 c, .int .i64 0] 111)).alloc (.cells #[.string { data := #[] }, .string { data := #[] }, .int .i64 0, .int .i64 0, .int .i64 0, .int .i64 0, .int .i64 0, .int .u8 (ty.toNat : Int), .string { data := #[] }] 43)) = W := ⟨_, rfl⟩; rw [hw4]; have HS0 : Hid (RS w w4 (some ⟨ab, ao, none⟩) c w3.heap.size 0 #[.string { data := #[] }, .string { data := #[] }, .int .i64 0, .int .i64 0, .int .i64 0, .int .i64 0, .int .i64 0, .int .u8 (ty.toNat : Int), .string { data := #[] }]) := Lib.hid (hw4 ▸ rs_start HB3.out HZ3.out _ _); clear hw4; go_must (refine (rs_text HS0.out l HL.out hc hbig HR0.out HG.out 345 155 (by omega) (by omega) (p1, p2) HFp.out e1 HE1.out).mono ?_); rintro en w5 ⟨rfl, hs⟩; have f1 := hs.h.frozen 0; have c1 := hs.h.cell 0 (.string { data := #[] }) rfl; have HS1 : Hid (RS w (w5.setCell ⟨w3.heap.size + 1, 0, none⟩ (.string (st p1))) (some ⟨ab, ao, none⟩) c w3.heap.size e1 #[.string (st p1), .string { data := #[] }, .int .i64 0, .int .i64 0, .int .i64 0, .int .i64 0, .int .i64 0, .int .u8 (ty.toNat : Int), .string { data := #[] }]) := Lib.hid (hs.put 0 (.string (st p1))); clear hs))
  obtain ⟨w13, hw13⟩ : ∃ W, (w12.setCell ⟨w3.heap.size + 1, 5, none⟩ (.int .i64 t1)) = W := ⟨_, rfl⟩
  have HSX : Hid (RS w w13 (some ⟨ab, ao, none⟩) c w3.heap.size e8 #[.string (st p1), .string (st n1), .int .i64 m1, .int .i64 u1, .int .i64 g1, .int .i64 t1, .int .i64 z1, .int .u8 (ty.toNat : Int), .string (st k1)]) := Lib.hid (hw13 ▸ HS8.out)
  try rw [hw13]
  clear hw13
  obtain ⟨R, hR⟩ : ∃ R, w3.heap.size = R := ⟨_, rfl⟩
  rw [hR] at HSX ⊢
  clear hR HS8 HS7 HS6 HS5 HS4 HS3 HS2 HS1 HS0
  obtain ⟨t2, ht2⟩ : ∃ t2, (if ty = 0 then 48 else ty) = t2 := ⟨_, rfl⟩
  have hres := HRES.out
  rw [ht2] at hres
  have HT2 := Lib.hid ht2
  have HRES2 := Lib.hid hres
  clear ht2 hres HRES
  have HLT : Hid (w.heap.size < R) := Lib.hid HSX.out.lt
  go_cut [58] (fun _ wx => RS w wx (some ⟨ab, ao, none⟩) c R e8 #[.string (st p1), .string (st n1), .int .i64 m1, .int .i64 u1, .int .i64 g1, .int .i64 t1, .int .i64 z1, .int .u8 (t2.toNat : Int), .string (st k1)])
  case first =>
    have f7 := HSX.out.h.frozen 7
    have c7 := HSX.out.h.cell 7 (.int .u8 (ty.toNat : Int)) rfl
    by_cases h0 : ty = 0
    · have ht0 : ((ty.toNat : Int) == 0) = true := by rw [h0]; rfl
      have HH := HT2.out
      rw [if_pos h0] at HH
      have H2 := Lib.hid HH
      clear h0 HH
      go_wp2_with fail
      go_meet
      have := HSX.out.put 7 (.int .u8 48)
      have e : ((t2.toNat : Nat) : Int) = 48 := by rw [← H2.out]; rfl
      rw [e]
      exact this
    · have ht0 : ((ty.toNat : Int) == 0) = false := byte_ne ty 0 h0
      have HH := HT2.out
      rw [if_neg h0] at HH
      have H2 := Lib.hid HH
      clear h0 HH
      go_wp2_with fail
      go_meet
      have := HSX.out
      rw [← H2.out]
      exact this
  case rest =>
    clear f1 c1 f2 c2 f3 c3 f4 c4 f5 c5 f6 c6 f7 c7 f8 c8 y7 g7 kc d156 HFp HFn HFk HFm HFu HFg HFz HFt HE1 HE2 HE3 HE4 HE5 HE6 HE7 HE8 HB2 HZ2 HB3 HZ3 HC HR HR0 HB HZ HRD HHP HL HPT HSX
    have HS := Lib.hid hcut
    have x1 := hcut.r.cell 1 _ rfl
    have x0 := hcut.h.cell 0 _ rfl
    have x10 := hcut.h.cell 1 _ rfl
    have x2 := hcut.h.cell 2 _ rfl
    have x3 := hcut.h.cell 3 _ rfl
    have x4 := hcut.h.cell 4 _ rfl
    have x5 := hcut.h.cell 5 _ rfl
    have x6 := hcut.h.cell 6 _ rfl
    have x7 := hcut.h.cell 7 _ rfl
    have x8 := hcut.h.cell 8 _ rfl
    have fz := hcut.z.frozen
    have zz0 := hcut.z.cell 0 _ rfl
    have zz1 := hcut.z.cell 1 _ rfl
    have zz2 := hcut.z.cell 2 _ rfl
    have zz3 := hcut.z.cell 3 _ rfl
    have zz4 := hcut.z.cell 4 _ rfl
    have zz5 := hcut.z.cell 5 _ rfl
    have zz6 := hcut.z.cell 6 _ rfl
    have zz7 := hcut.z.cell 7 _ rfl
    have zz8 := hcut.z.cell 8 _ rfl
    clear hcut
    by_cases h8 : e8 = 0
    · have h80 : (e8 != 0) = false := by rw [h8]; rfl
      have hres := HRES2.out
      rw [if_neg (by simpa using h8)] at hres
      clear h8
      cases hty : isType t2 with
      | false =>
        rw [if_pos hty] at hres
        obtain ⟨rfl, rfl⟩ := Prod.mk.inj hres
        have hI := fun W => head_IsType t2 W
        rw [hty] at hI
        have HI := Lib.hid hI
        clear hI hty hres HRES2
        go_wp2_with (go_at_call 68; refine (HI.out _).mono ?_; rintro e w' ⟨rfl, rfl⟩)
        refine bodyPost_ret (hpar_results _ _ w.heap.size _ _ _ _ _ _ _ _ _ (by rfl) (Cel.put9 HS.out.z _ _ _ _ _ _ _ _ _)) rfl ?_
        have hb9 := HS.out.b
        exact ⟨rfl, by go_grown⟩
      | true =>
        rw [if_neg (by rw [hty]; simp)] at hres
        have hI := fun W => head_IsType t2 W
        rw [hty] at hI
        have HI := Lib.hid hI
        have hBL := fun W => head_below ⟨p1, n1, ⟨m1, u1, g1, t1⟩, z1, t2, k1⟩ W
        cases hbl : hdBelow ⟨p1, n1, ⟨m1, u1, g1, t1⟩, z1, t2, k1⟩ with
        | true =>
          rw [if_pos hbl] at hres
          obtain ⟨rfl, rfl⟩ := Prod.mk.inj hres
          rw [hbl] at hBL
          unfold hdV at hBL
          simp only [] at hBL
          have HBL := Lib.hid hBL
          clear hI hty hres HRES2 hBL hbl
          go_wp2_with (first | (go_at_call 68; refine (HI.out _).mono ?_; rintro e w' ⟨rfl, rfl⟩) | (go_at_call 69; refine (HBL.out _).mono ?_; rintro e wd ⟨rfl, hbd⟩; have hsd := HS.out.later hbd; have HSD := Lib.hid hsd; clear hbd fz zz0 zz1 zz2 zz3 zz4 zz5 zz6 zz7 zz8; have fz := hsd.z.frozen; have zz0 := hsd.z.cell 0 _ rfl; have zz1 := hsd.z.cell 1 _ rfl; have zz2 := hsd.z.cell 2 _ rfl; have zz3 := hsd.z.cell 3 _ rfl; have zz4 := hsd.z.cell 4 _ rfl; have zz5 := hsd.z.cell 5 _ rfl; have zz6 := hsd.z.cell 6 _ rfl; have zz7 := hsd.z.cell 7 _ rfl; have zz8 := hsd.z.cell 8 _ rfl; clear hsd))
          refine bodyPost_ret (hpar_results _ _ w.heap.size _ _ _ _ _ _ _ _ _ (by rfl) (Cel.put9 HSD.out.z _ _ _ _ _ _ _ _ _)) rfl ?_
          have hb9 := HSD.out.b
          exact ⟨rfl, by go_grown⟩
        | false =>
          rw [if_neg (by rw [hbl]; simp)] at hres
          obtain ⟨rfl, rfl⟩ := Prod.mk.inj hres
          rw [hbl] at hBL
          unfold hdV at hBL
          simp only [] at hBL
          have HBL := Lib.hid hBL
          clear hI hty hres HRES2 hBL hbl
          go_wp2_with (first | (go_at_call 68; refine (HI.out _).mono ?_; rintro e w' ⟨rfl, rfl⟩) | (go_at_call 69; refine (HBL.out _).mono ?_; rintro e wd ⟨rfl, hbd⟩; have hsd := HS.out.later hbd; have HSD := Lib.hid hsd; clear hbd fz zz0 zz1 zz2 zz3 zz4 zz5 zz6 zz7 zz8; have fz := hsd.z.frozen; have zz0 := hsd.z.cell 0 _ rfl; have zz1 := hsd.z.cell 1 _ rfl; have zz2 := hsd.z.cell 2 _ rfl; have zz3 := hsd.z.cell 3 _ rfl; have zz4 := hsd.z.cell 4 _ rfl; have zz5 := hsd.z.cell 5 _ rfl; have zz6 := hsd.z.cell 6 _ rfl; have zz7 := hsd.z.cell 7 _ rfl; have zz8 := hsd.z.cell 8 _ rfl; have yy0 := hsd.h.cell 0 _ rfl; have yy1 := hsd.h.cell 1 _ rfl; have yy2 := hsd.h.cell 2 _ rfl; have yy3 := hsd.h.cell 3 _ rfl; have yy4 := hsd.h.cell 4 _ rfl; have yy5 := hsd.h.cell 5 _ rfl; have yy6 := hsd.h.cell 6 _ rfl; have yy7 := hsd.h.cell 7 _ rfl; have yy8 := hsd.h.cell 8 _ rfl; clear hsd))
          refine bodyPost_ret (hpar_results _ _ w.heap.size _ _ _ _ _ _ _ _ _ (by rfl) (Cel.put9 HSD.out.z _ _ _ _ _ _ _ _ _)) rfl ?_
          have hb9 := HSD.out.b
          exact ⟨rfl, by go_grown⟩
    · have hne : (e8 != 0) = true := by rw [bne_iff_ne]; exact h8
      have hres := HRES2.out
      rw [if_pos h8] at hres
      obtain ⟨rfl, rfl⟩ := Prod.mk.inj hres
      clear h8 hres HRES2 x0 x10 x2 x3 x4 x5 x6 x8
      have hne2 : ∀ {i : Nat}, (⟨w.heap.size, i, none⟩ : Addr).block ≠ R := by intro i; have := HS.out.lt; show w.heap.size ≠ _; omega
      have xN : (((((((((wc.setCell ⟨w.heap.size, 0, none⟩ (.string { data := #[] })).setCell ⟨w.heap.size, 1, none⟩ (.string { data := #[] })).setCell ⟨w.heap.size, 2, none⟩ (.int .i64 0)).setCell ⟨w.heap.size, 3, none⟩ (.int .i64 0)).setCell ⟨w.heap.size, 4, none⟩ (.int .i64 0)).setCell ⟨w.heap.size, 5, none⟩ (.int .i64 0)).setCell ⟨w.heap.size, 6, none⟩ (.int .i64 0)).setCell ⟨w.heap.size, 7, none⟩ (.int .u8 0)).setCell ⟨w.heap.size, 8, none⟩ (.string { data := #[] })).cell? ⟨R, 1, none⟩ = some (.int .i64 e8) := (((((((((HS.out.r.other hne2 _).other hne2 _).other hne2 _).other hne2 _).other hne2 _).other hne2 _).other hne2 _).other hne2 _).other hne2 _).cell 1 _ rfl
      clear hne2
      go_wp2
      go_region
      obtain ⟨U, hU, hUz, hUb⟩ : ∃ U, (((((((((wc.setCell ⟨w.heap.size, 0, none⟩ (.string { data := #[] })).setCell ⟨w.heap.size, 1, none⟩ (.string { data := #[] })).setCell ⟨w.heap.size, 2, none⟩ (.int .i64 0)).setCell ⟨w.heap.size, 3, none⟩ (.int .i64 0)).setCell ⟨w.heap.size, 4, none⟩ (.int .i64 0)).setCell ⟨w.heap.size, 5, none⟩ (.int .i64 0)).setCell ⟨w.heap.size, 6, none⟩ (.int .i64 0)).setCell ⟨w.heap.size, 7, none⟩ (.int .u8 0)).setCell ⟨w.heap.size, 8, none⟩ (.string { data := #[] })).drew = U ∧ Cel U w.heap.size #[.string { data := #[] }, .string { data := #[] }, .int .i64 0, .int .i64 0, .int .i64 0, .int .i64 0, .int .i64 0, .int .u8 0, .string { data := #[] }] 43 ∧ Below w.heap.size w U :=
        ⟨_, rfl, Cel.drew (Cel.put9 HS.out.z _ _ _ _ _ _ _ _ _), by have hb9 := HS.out.b; go_grown⟩
      rw [hU]
      clear hU xN
      have HUZ := Lib.hid hUz
      have HUB := Lib.hid hUb
      clear hUz hUb
      go_wp2
      refine bodyPost_ret (hpar_results _ U w.heap.size _ _ _ _ _ _ _ _ _ (by rfl) HUZ.out) rfl ?_
      exact ⟨rfl, HUB.out⟩
end Go.Proofs.YtckgjbpgdpcnnaaGreatDoor
