/-
  THE CONTRACT of memb.From.
-/
import Derived.Test.YtckgjbpgdpcnnaaGreatDoorMbg
namespace Go.Proofs.YtckgjbpgdpcnnaaGreatDoor
set_option linter.all false
set_option linter.unusedVariables false
set_option linter.unusedSimpArgs false
open Go.RowKit Pl
attribute [local go_sem] st_toList st_size

def zeroMb : Array Value := #[.string { data := #[] }, .int .i64 0, .int .i64 0, .int .i64 0, .int .i64 0, .int .i64 0, .string { data := #[] }, .slice none 0 0]
def hdArr (h : Header) : Array Value := #[.string (st h.pre), .string (st h.name), .int .i64 h.meta_.mode, .int .i64 h.meta_.uid, .int .i64 h.meta_.gid, .int .i64 h.meta_.mtime, .int .i64 h.size, .int .u8 (h.type.toNat : Int), .string (st h.link)]
theorem Cel.put8 {w : World} {b : Nat} {t : TypeId} {b0 b1 b2 b3 b4 b5 b6 b7 : Value} (h : Cel w b #[b0, b1, b2, b3, b4, b5, b6, b7] t) (a0 a1 a2 a3 a4 a5 a6 a7 : Value) : Cel ((((((((w.setCell ⟨b, 0, none⟩ a0).setCell ⟨b, 1, none⟩ a1).setCell ⟨b, 2, none⟩ a2).setCell ⟨b, 3, none⟩ a3).setCell ⟨b, 4, none⟩ a4).setCell ⟨b, 5, none⟩ a5).setCell ⟨b, 6, none⟩ a6).setCell ⟨b, 7, none⟩ a7) b #[a0, a1, a2, a3, a4, a5, a6, a7] t := by
  have h0 : Cel (_) b #[a0, b1, b2, b3, b4, b5, b6, b7] t := h.put 0 a0
  have h1 : Cel (_) b #[a0, a1, b2, b3, b4, b5, b6, b7] t := h0.put 1 a1
  have h2 : Cel (_) b #[a0, a1, a2, b3, b4, b5, b6, b7] t := h1.put 2 a2
  have h3 : Cel (_) b #[a0, a1, a2, a3, b4, b5, b6, b7] t := h2.put 3 a3
  have h4 : Cel (_) b #[a0, a1, a2, a3, a4, b5, b6, b7] t := h3.put 4 a4
  have h5 : Cel (_) b #[a0, a1, a2, a3, a4, a5, b6, b7] t := h4.put 5 a5
  have h6 : Cel (_) b #[a0, a1, a2, a3, a4, a5, a6, b7] t := h5.put 6 a6
  exact h6.put 7 a7
theorem Cel.other8 {w : World} {b b' : Nat} {t : TypeId} {vs : Array Value} (h : Cel w b vs t) (hne : b' ≠ b) (a0 a1 a2 a3 a4 a5 a6 a7 : Value) : Cel ((((((((w.setCell ⟨b', 0, none⟩ a0).setCell ⟨b', 1, none⟩ a1).setCell ⟨b', 2, none⟩ a2).setCell ⟨b', 3, none⟩ a3).setCell ⟨b', 4, none⟩ a4).setCell ⟨b', 5, none⟩ a5).setCell ⟨b', 6, none⟩ a6).setCell ⟨b', 7, none⟩ a7) b vs t :=
  (((((((h.other (p := ⟨b', 0, none⟩) hne a0).other (p := ⟨b', 1, none⟩) hne a1).other (p := ⟨b', 2, none⟩) hne a2).other (p := ⟨b', 3, none⟩) hne a3).other (p := ⟨b', 4, none⟩) hne a4).other (p := ⟨b', 5, none⟩) hne a5).other (p := ⟨b', 6, none⟩) hne a6).other (p := ⟨b', 7, none⟩) hne a7
/-- From on its way: the member at R. -/
structure FS (w0 w : World) (R : Nat) (vs : Array Value) : Prop where
  m : Cel w R vs 38
  z : Cel w (w0.heap.size + 1) zeroMb 38
  b : Below w0.heap.size w0 w
  lt : w0.heap.size + 1 < R
theorem FS.put {w0 w : World} {R : Nat} {vs : Array Value} (h : FS w0 w R vs) (i : Nat) (v : Value) : FS w0 (w.setCell ⟨R, i, none⟩ v) R (vs.setIfInBounds i v) :=
  ⟨h.m.put i v, h.z.other (by show R ≠ _; have := h.lt; omega) v, h.b.setCell (by show _ ≤ R; have := h.lt; omega) v, h.lt⟩
theorem FS.later {w0 w w' : World} {R : Nat} {vs : Array Value} (h : FS w0 w R vs) (hb : Below w.heap.size w w') : FS w0 w' R vs :=
  ⟨h.m.below hb, h.z.below hb, h.b.trans (hb.mono h.b.size), h.lt⟩
theorem FS.new {w0 w : World} {R : Nat} (hz : Cel w (w0.heap.size + 1) zeroMb 38) (hm : Cel w R zeroMb 38) (hb : Below w0.heap.size w0 w) (hlt : w0.heap.size + 1 < R) (a0 a1 a2 a3 a4 a5 a6 a7 : Value) : FS w0 ((((((((w.setCell ⟨R, 0, none⟩ a0).setCell ⟨R, 1, none⟩ a1).setCell ⟨R, 2, none⟩ a2).setCell ⟨R, 3, none⟩ a3).setCell ⟨R, 4, none⟩ a4).setCell ⟨R, 5, none⟩ a5).setCell ⟨R, 6, none⟩ a6).setCell ⟨R, 7, none⟩ a7) R #[a0, a1, a2, a3, a4, a5, a6, a7] :=
  ⟨hm.put8 _ _ _ _ _ _ _ _, hz.other8 (by omega) _ _ _ _ _ _ _ _, by
    have h : w0.heap.size ≤ R := by omega
    exact (((((((hb.setCell (p := ⟨R, 0, none⟩) h a0).setCell (p := ⟨R, 1, none⟩) h a1).setCell (p := ⟨R, 2, none⟩) h a2).setCell (p := ⟨R, 3, none⟩) h a3).setCell (p := ⟨R, 4, none⟩) h a4).setCell (p := ⟨R, 5, none⟩) h a5).setCell (p := ⟨R, 6, none⟩) h a6).setCell (p := ⟨R, 7, none⟩) h a7, hlt⟩
theorem FS.a {w0 w : World} (hz : Cel w (w0.heap.size + 1) zeroMb 38) (hb : Below w0.heap.size w0 w) (hs : w0.heap.size + 2 ≤ w.heap.size) (o : Obj) (vs : Array Value) : FS w0 ((w.alloc o).alloc (.cells vs 38)).drew (w.heap.size + 1) vs :=
  ⟨by have := Cel.new (w.alloc o) vs 38; rw [World.size_alloc] at this; exact this.drew, ((hz.below ((Below.refl _ _).alloc (Nat.le_refl _) o)).below ((Below.refl _ _).alloc (Nat.le_refl _) _)).drew, ((hb.alloc hb.size o).alloc (by rw [World.size_alloc]; omega) _).drew, by omega⟩
theorem FS.c {w0 w : World} (hz : Cel w (w0.heap.size + 1) zeroMb 38) (hb : Below w0.heap.size w0 w) (hs : w0.heap.size + 2 ≤ w.heap.size) (o : Obj) (vs : Array Value) : FS w0 ((w.alloc (.cells vs 38)).alloc o).drew w.heap.size vs :=
  ⟨((Cel.new w vs 38).below ((Below.refl _ _).alloc (Nat.le_refl _) _)).drew, ((hz.below ((Below.refl _ _).alloc (Nat.le_refl _) _)).below ((Below.refl _ _).alloc (Nat.le_refl _) _)).drew, ((hb.alloc hb.size _).alloc (by rw [World.size_alloc]; omega) _).drew, by omega⟩
theorem from_results (tmps : Array Value) (w : World) (b : Nat) (a0 a1 a2 a3 a4 a5 a6 a7 : Value) (h2 : tmps.getD 6 undef = .pointer (some ⟨b, 0, none⟩)) (h : Cel w b #[a0, a1, a2, a3, a4, a5, a6, a7] 38) :
    (results Tryz.f16 tmps).run Tryz.prog w = .ok (.tuple #[.agg #[a0, a1, a2, a3, a4, a5, a6, a7], tmps.getD 7 undef]) w := by
  have d0 := h.cell 0 a0 rfl
  have d1 := h.cell 1 a1 rfl
  have d2 := h.cell 2 a2 rfl
  have d3 := h.cell 3 a3 rfl
  have d4 := h.cell 4 a4 rfl
  have d5 := h.cell 5 a5 rfl
  have d6 := h.cell 6 a6 rfl
  have d7 := h.cell 7 a7 rfl
  have h3 : tmps[6]?.getD undef = .pointer (some ⟨b, 0, none⟩) := by rw [← h2]; simp
  simp [results, Tryz.results16, h3, d0, d1, d2, d3, d4, d5, d6, d7, go_sem]
set_option maxRecDepth 100000 in
theorem head_Path_x (h : Header) (hh : HdOk h) (w : World) :
    Calls Tryz.prog 51 #[hdV h] w fun e w' => e = .returned (.string (st (sJoin h.pre h.name))) ∧ w.alloc (.cells (hdArr h) 43) = w' := by
  have hJ := fun W => strf_Join h.pre h.name W (by have := hh.pre; have := hh.name; omega)
  obtain ⟨p, n, ⟨m, u, g, t⟩, z, ty, k⟩ := h
  simp only [] at hJ
  unfold hdV hdArr
  simp only []
  have HJ := Lib.hid hJ
  clear hJ hh
  go_enter Tryz.func51, Tryz.ntmps51
  go_wp2_with (go_at_call 84; go_must (refine (HJ.out _).mono ?_); rintro en w1 ⟨rfl, rfl⟩)
  go_ret
  exact ⟨rfl, rfl⟩
theorem rd_own2 {w : World} {base : Nat} {v : Value} {l : Bs} (h : w.ownsRow base 5 1 v l.length (bcs l)) : ∃ A c, v = .slice A l.length c ∧ Rd w A l ∧ (0 < l.length → ∀ b o, A = some ⟨b, o, none⟩ → base ≤ b) := by
  obtain ⟨A, c, rfl, _, hr⟩ := Rd.of_own h
  refine ⟨A, c, rfl, hr, fun h0 b o e => ?_⟩
  obtain ⟨g, cap, hv, hb, _⟩ := own_form h h0
  injection hv with h1 h2 h3
  subst e
  injection h1 with h1
  injection h1 with h1 h2 h3
  omega
theorem Rd.far {w : World} {A : Option Addr} {l : Bs} (h : Rd w A l) (p : Addr) (v : Value) (hp : 0 < l.length → ∀ b o, A = some ⟨b, o, none⟩ → p.block ≠ b) : Rd (w.setCell p v) A l := fun h0 => by
  obtain ⟨b, o, rfl, hc⟩ := h h0
  exact ⟨b, o, rfl, fun j x hx => (World.cell?_setCell_far w p _ v (hp h0 b o rfl)).trans (hc j x hx)⟩
/-- What From gives back. -/
def FromPost (MF : Member × Int) (w : World) (en : Ending) (w' : World) : Prop := ∃ A' c', en = .returned (.tuple #[mbV MF.1 A' c', .int .i64 MF.2]) ∧ Rd w' A' MF.1.data ∧ Below w.heap.size w w'
theorem FromPost.mk {m : Member} {E : Int} {w : World} {en : Ending} {w' : World} (A' : Option Addr) (c' : Nat) (h1 : en = .returned (.tuple #[mbV m A' c', .int .i64 E])) (h2 : Rd w' A' m.data) (h3 : Below w.heap.size w w') : FromPost (m, E) w en w' := ⟨A', c', h1, h2, h3⟩
/-- What the kind makes of link and data. -/
def fLink (k : Int) (ln : Bs) : Bs := if k = 1 ∨ k = 4 then [] else ln
def fData (k : Int) (d : Bs) : Bs := if k = 1 then d else []
set_option maxRecDepth 100000 in
set_option maxHeartbeats 4000000 in
theorem memb_From (h : Header) (l : List Rec) (d : Bs) (A B : Option Addr) (c e : Nat) (w : World) (hh : HdOk h) (hl : l.length ≤ 4611686018427387904) (hv : ∀ r ∈ l, r.val.length < 1073741824) (hd : d.length ≤ 140737488355328) (hr : RdV w A (rcs l)) (hrd : Rd w B d) (hg : Glob w) :
    Calls Tryz.prog 16 #[hdV h, .slice A l.length c, .slice B d.length e] w (FromPost (mFrom h l d) w) := by
  have hP := fun W => head_Path_x h hh W
  have hK := fun W => memb_Kind h.type W
  have hF := fun key W hr => recs_Find A c l key W hl hr
  have hC := fun W hr => lib_Clone B d.length e d W rfl hd hr
  obtain ⟨F1, hF1⟩ : ∃ F, rFind l kPath = F := ⟨_, rfl⟩
  obtain ⟨F2, hF2⟩ : ∃ F, rFind l kLink = F := ⟨_, rfl⟩
  have hfp := fun W hr => hF kPath W hr
  have hfl := fun W hr => hF kLink W hr
  rw [hF1] at hfp
  rw [hF2] at hfl
  obtain ⟨JP, hJP⟩ : ∃ J, sJoin h.pre h.name = J := ⟨_, rfl⟩
  obtain ⟨kd, hkd⟩ : ∃ k, mKind h.type = k := ⟨_, rfl⟩
  have hw1 : ∃ W, (w.alloc (.cells (hdArr h) 43)).alloc (.cells zeroMb 38) = W := ⟨_, rfl⟩
  have hm : mFrom h l d = (if kd = 0 then (noMember, 11) else if mMay ⟨F1.getD JP, kd, h.meta_, fLink kd (F2.getD h.link), fData kd d⟩ ≠ 0 then (noMember, mMay ⟨F1.getD JP, kd, h.meta_, fLink kd (F2.getD h.link), fData kd d⟩) else (⟨F1.getD JP, kd, h.meta_, fLink kd (F2.getD h.link), fData kd d⟩, 0)) := by
    subst hF1 hF2 hJP hkd
    rfl
  obtain ⟨MF, hMF⟩ : ∃ MF, mFrom h l d = MF := ⟨_, rfl⟩
  rw [hMF] at hm ⊢
  rw [hJP] at hP
  rw [hkd] at hK
  have hbH := (Below.refl w.heap.size w).alloc (Nat.le_refl _) (.cells (hdArr h) 43)
  have hbM := hbH.alloc hbH.size (.cells zeroMb 38)
  have hcH : Cel ((w.alloc (.cells (hdArr h) 43)).alloc (.cells zeroMb 38)) w.heap.size (hdArr h) 43 := (Cel.new w (hdArr h) 43).below ((Below.refl _ _).alloc (Nat.le_refl _) _)
  have hcM := Cel.new (w.alloc (.cells (hdArr h) 43)) zeroMb 38
  rw [World.size_alloc] at hcM
  obtain ⟨p, n, ⟨mo, u, g, t⟩, z, ty, k⟩ := h
  simp only [hdArr] at hP hK hbM hcH hcM hm hfp hfl ⊢
  unfold hdV at hP ⊢
  simp only [] at hP ⊢
  have HP := Lib.hid hP
  have HK := Lib.hid hK
  have HC := Lib.hid hC
  have HG := Lib.hid hg
  have HR := Lib.hid hr
  have HRD := Lib.hid hrd
  have HBM := Lib.hid hbM
  have HCH := Lib.hid hcH
  have HCM := Lib.hid hcM
  obtain ⟨W, hW⟩ : ∃ W, ((w.alloc (.cells #[.string (st p), .string (st n), .int .i64 mo, .int .i64 u, .int .i64 g, .int .i64 t, .int .i64 z, .int .u8 (ty.toNat : Int), .string (st k)] 43)).alloc (.cells #[.string { data := #[] }, .int .i64 0, .int .i64 0, .int .i64 0, .int .i64 0, .int .i64 0, .string { data := #[] }, .slice none 0 0] 38)) = W := ⟨_, rfl⟩
  unfold zeroMb at HBM HCH HCM
  rw [hW] at HBM HCH HCM
  have HS0 : Hid (w.heap.size + 2 ≤ W.heap.size) := Lib.hid (by rw [← hW]; simp)
  obtain ⟨b1, hb1⟩ : ∃ b, F1.isSome = b := ⟨_, rfl⟩
  obtain ⟨s1, hs1⟩ : ∃ s, F1.getD [] = s := ⟨_, rfl⟩
  obtain ⟨P1, hP1⟩ : ∃ s, F1.getD JP = s := ⟨_, rfl⟩
  have hE1 : (b1 = false → JP = P1) ∧ (b1 = true → s1 = P1) := by
    subst hb1 hs1 hP1
    cases F1 <;> simp
  obtain ⟨b2, hb2⟩ : ∃ b, F2.isSome = b := ⟨_, rfl⟩
  obtain ⟨s2, hs2⟩ : ∃ s, F2.getD [] = s := ⟨_, rfl⟩
  obtain ⟨P2, hP2⟩ : ∃ s, F2.getD k = s := ⟨_, rfl⟩
  have hE2 : (b2 = false → k = P2) ∧ (b2 = true → s2 = P2) := by
    subst hb2 hs2 hP2
    cases F2 <;> simp
  have hmem : ∀ (key : Bs) (x : Bs), rFind l key = some x → x.length < 1073741824 := by
    intro key x hx
    unfold rFind at hx
    obtain ⟨r, h1, rfl⟩ := Option.map_eq_some_iff.1 hx
    exact hv r (List.mem_reverse.1 (List.mem_of_find?_eq_some h1))
  have hL1 : P1.length < 4294967281 := by
    rw [← hP1]
    cases h1 : F1 with
    | none =>
      rw [← hJP]
      have a1 := hh.pre
      have a2 := hh.name
      simp only [] at a1 a2
      simp only [Option.getD_none]
      unfold sJoin
      split
      · omega
      · simp only [List.length_append, List.length_cons, List.length_nil]; omega
    | some x => have := hmem kPath x (by rw [hF1, h1]); simp only [Option.getD_some]; omega
  have hL2 : P2.length < 4294967281 := by
    rw [← hP2]
    cases h1 : F2 with
    | none =>
      have a2 := hh.link
      simp only [] at a2
      simp only [Option.getD_none]
      omega
    | some x => have := hmem kLink x (by rw [hF2, h1]); simp only [Option.getD_some]; omega
  have HL1 := Lib.hid hL1
  have HL2 := Lib.hid hL2
  have HE1 := Lib.hid hE1
  have HE2 := Lib.hid hE2
  have HI : Hid (i64 mo ∧ i64 u ∧ i64 g ∧ i64 t) := Lib.hid ⟨hh.mode, hh.uid, hh.gid, hh.mtime⟩
  rw [hs1, hb1] at hfp
  rw [hs2, hb2] at hfl
  rw [hP1, hP2] at hm
  have HFP := Lib.hid hfp
  have HFL := Lib.hid hfl
  have HMF := Lib.hid hm
  have HKD : Hid (kd = 0 ∨ kd = 1 ∨ kd = 2 ∨ kd = 3 ∨ kd = 4) := Lib.hid (by rw [← hkd]; unfold mKind; (repeat' split) <;> simp)
  clear hkd
  clear hs1 hs2 hb1 hb2 hP1 hP2 hE1 hE2 hL1 hL2 hmem hF1 hF2 hJP
  clear hP hK hfp hfl hF hC hg hr hrd hbM hcH hcM hv hh hbH hw1 hm hMF
  go_enter Tryz.func16, Tryz.ntmps16
  go_wp2
  try rw [hW]
  have c0 := HCH.out.cell 0 _ rfl
  have c1 := HCH.out.cell 1 _ rfl
  have c2 := HCH.out.cell 2 _ rfl
  have c3 := HCH.out.cell 3 _ rfl
  have c4 := HCH.out.cell 4 _ rfl
  have c5 := HCH.out.cell 5 _ rfl
  have c6 := HCH.out.cell 6 _ rfl
  have c7 := HCH.out.cell 7 _ rfl
  have c8 := HCH.out.cell 8 _ rfl
  clear hW
  go_cut [8] (fun s8 wx => ∃ R, s8 = .pointer (some ⟨R, 0, none⟩) ∧ FS w wx R #[.string (st JP), .int .i64 kd, .int .i64 mo, .int .i64 u, .int .i64 g, .int .i64 t, .string (st k), .slice none 0 0])
  case first =>
    go_region_held3 (fun w' => w'.cell? ⟨w.heap.size, 0, none⟩ = some (.string (st p)) ∧ w'.cell? ⟨w.heap.size, 1, none⟩ = some (.string (st n)) ∧ w'.cell? ⟨w.heap.size, 2, none⟩ = some (.int .i64 mo) ∧ w'.cell? ⟨w.heap.size, 3, none⟩ = some (.int .i64 u) ∧ w'.cell? ⟨w.heap.size, 4, none⟩ = some (.int .i64 g) ∧ w'.cell? ⟨w.heap.size, 5, none⟩ = some (.int .i64 t) ∧ w'.cell? ⟨w.heap.size, 6, none⟩ = some (.int .i64 z) ∧ w'.cell? ⟨w.heap.size, 7, none⟩ = some (.int .u8 (ty.toNat : Int)) ∧ w'.cell? ⟨w.heap.size, 8, none⟩ = some (.string (st k))) (go_keep)
      (first | (go_at_call 51; refine (HP.out _).mono ?_; rintro e w' ⟨rfl, rfl⟩) | (go_at_call 12; refine (HK.out _).mono ?_; rintro e w' ⟨rfl, rfl⟩))
    all_goals
      go_wp2_with fail
      go_meet
    all_goals first | exact ⟨_, rfl, FS.a HCM.out HBM.out HS0.out _ _⟩ | exact ⟨_, rfl, FS.c HCM.out HBM.out HS0.out _ _⟩
  case rest =>
    obtain ⟨R, rfl, hs⟩ := hcut
    have HS1 := Lib.hid hs
    clear hs HCM HBM HS0 HCH c0 c1 c2 c3 c4 c5 c6 c7 c8 HP HK
    go_upto_if 29 with (go_at_call 52; refine (HFP.out _ (HR.out.below HS1.out.b)).mono ?_; rintro e w' ⟨rfl, hb⟩; have HS2 := Lib.hid (HS1.out.later hb); clear hb)
    go_cut [9, 10] (fun _ _ wx => FS w wx R #[.string (st P1), .int .i64 kd, .int .i64 mo, .int .i64 u, .int .i64 g, .int .i64 t, .string (st k), .slice none 0 0])
    case first =>
      have f0 := HS2.out.m.frozen 0
      have c0 := HS2.out.m.cell 0 _ rfl
      cases b1 with
      | false =>
        go_wp2_with fail
        go_meet
        have := HS2.out
        rw [HE1.out.1 trivial] at this
        exact this
      | true =>
        go_wp2_with fail
        go_meet
        have := HS2.out.put 0 (.string (st s1))
        rw [HE1.out.2 trivial] at this
        rw [HE1.out.2 trivial]
        exact this
    case rest =>
      have HS3 := Lib.hid hcut
      clear hcut HS2 HS1 HE1 HFP
      go_upto_if 37 with (go_at_call 52; refine (HFL.out _ (HR.out.below HS3.out.b)).mono ?_; rintro e w' ⟨rfl, hb⟩; have HS4 := Lib.hid (HS3.out.later hb); clear hb)
      go_cut [11, 12] (fun _ _ wx => FS w wx R #[.string (st P1), .int .i64 kd, .int .i64 mo, .int .i64 u, .int .i64 g, .int .i64 t, .string (st P2), .slice none 0 0])
      case first =>
        have f0 := HS4.out.m.frozen 6
        have c0 := HS4.out.m.cell 6 _ rfl
        cases b2 with
        | false =>
          go_wp2_with fail
          go_meet
          have := HS4.out
          rw [HE2.out.1 trivial] at this
          exact this
        | true =>
          go_wp2_with fail
          go_meet
          have := HS4.out.put 6 (.string (st s2))
          rw [HE2.out.2 trivial] at this
          rw [HE2.out.2 trivial]
          exact this
      case rest =>
        have HS5 := Lib.hid hcut
        clear hcut HS3 HS4 HE2 HFL HR
        have m1 := HS5.out.m.cell 1 _ rfl
        go_step
        go_step
        go_cut [] (fun wx => kd ≠ 0 ∧ ∃ A7 c7, FS w wx R #[.string (st P1), .int .i64 kd, .int .i64 mo, .int .i64 u, .int .i64 g, .int .i64 t, .string (st (fLink kd P2)), .slice A7 (fData kd d).length c7] ∧ Rd wx A7 (fData kd d) ∧ (0 < (fData kd d).length → ∀ b o, A7 = some ⟨b, o, none⟩ → w.heap.size + 1 ≠ b))
        case first =>
          have f4 := HS5.out.m.frozen 7
          have f3 := HS5.out.m.frozen 6
          have c3 := HS5.out.m.cell 6 _ rfl
          have c4 := HS5.out.m.cell 7 _ rfl
          have hK5 : kd = 0 ∨ kd = 1 ∨ kd = 2 ∨ kd = 3 ∨ kd = 4 := HKD.out
          obtain hk0 | hk1 | hk2 | hk3 | hk4 := hK5
          · have fz := HS5.out.z.frozen
            have z0 := HS5.out.z.cell 0 _ rfl
            have z1 := HS5.out.z.cell 1 _ rfl
            have z2 := HS5.out.z.cell 2 _ rfl
            have z3 := HS5.out.z.cell 3 _ rfl
            have z4 := HS5.out.z.cell 4 _ rfl
            have z5 := HS5.out.z.cell 5 _ rfl
            have z6 := HS5.out.z.cell 6 _ rfl
            have z7 := HS5.out.z.cell 7 _ rfl
            subst hk0
            have hm0 := HMF.out
            rw [if_pos rfl] at hm0
            have HM0 := Lib.hid hm0
            clear hm0
            go_wp2_with fail
            refine bodyPost_ret (from_results _ _ (w.heap.size + 1) _ _ _ _ _ _ _ _ (by rfl) (Cel.put8 HS5.out.z _ _ _ _ _ _ _ _)) rfl ?_
            rw [HM0.out]
            have hb9 := HS5.out.b
            exact FromPost.mk none 0 rfl (Rd.nil _ _) (by go_grown)
          · subst hk1
            go_wp2_with (go_at_call 53; refine (HC.out _ (HRD.out.below HS5.out.b)).mono ?_; rintro e w' ⟨v, rfl, ho, hb⟩; obtain ⟨A7, c7, rfl, hrd, hfar⟩ := rd_own2 ho; have HFAR := Lib.hid hfar; have HS6 := Lib.hid (HS5.out.later hb); have HR7 := Lib.hid hrd; have f3 := HS6.out.m.frozen 6; have c3 := HS6.out.m.cell 6 _ rfl; have f4 := HS6.out.m.frozen 7; have c4 := HS6.out.m.cell 7 _ rfl; clear hb ho hrd hfar)
            go_meet
            have hlt := HS5.out.m.lt
            have hff : 0 < d.length → ∀ b o, A7 = some ⟨b, o, none⟩ → R ≠ b := fun h0 b o e => by have := HFAR.out h0 b o e; omega
            exact ⟨by decide, A7, c7, (HS6.out.put 7 (.slice A7 d.length c7)).put 6 (.string { data := #[] }), (HR7.out.far ⟨R, 7, none⟩ _ hff).far ⟨R, 6, none⟩ _ hff, fun h0 b o e => by have := HFAR.out h0 b o e; have := HS5.out.lt; omega⟩
          · subst hk2
            go_wp2_with fail
            go_meet
            exact ⟨by decide, none, 0, HS5.out, Rd.nil _ _, fun _ _ _ e => by cases e⟩
          · subst hk3
            go_wp2_with fail
            go_meet
            exact ⟨by decide, none, 0, HS5.out, Rd.nil _ _, fun _ _ _ e => by cases e⟩
          · subst hk4
            go_wp2_with fail
            go_meet
            exact ⟨by decide, none, 0, HS5.out.put 6 (.string { data := #[] }), Rd.nil _ _, fun _ _ _ e => by cases e⟩
        case rest =>
          obtain ⟨hne, A7, c7, hs, hrd, hfar⟩ := hcut
          have hm0 := HMF.out
          rw [if_neg hne] at hm0
          have hok : MbOk ⟨P1, kd, ⟨mo, u, g, t⟩, fLink kd P2, fData kd d⟩ := by
            have h5 := HKD.out
            refine ⟨HL1.out, ?_, ?_, ?_, HI.out.1, HI.out.2.1, HI.out.2.2.1, HI.out.2.2.2⟩
            · have := HL2.out
              unfold fLink
              split
              · simp
              · exact this
            · unfold fData
              split
              · exact hd
              · simp
            · constructor <;> (show _ ≤ _) <;> (simp only []) <;> omega
          have hM := fun W hg => memb_May ⟨P1, kd, ⟨mo, u, g, t⟩, fLink kd P2, fData kd d⟩ A7 c7 W hok hg
          obtain ⟨E, hE⟩ : ∃ E, mMay ⟨P1, kd, ⟨mo, u, g, t⟩, fLink kd P2, fData kd d⟩ = E := ⟨_, rfl⟩
          obtain ⟨LK, hLK⟩ : ∃ E, fLink kd P2 = E := ⟨_, rfl⟩
          obtain ⟨DT, hDT⟩ : ∃ E, fData kd d = E := ⟨_, rfl⟩
          rw [hE] at hM hm0
          rw [hLK, hDT] at hM hm0
          rw [hLK, hDT] at hs
          rw [hDT] at hrd hfar
          have HFAR := Lib.hid hfar
          clear hfar
          unfold mbV at hM
          simp only [] at hM
          have HM := Lib.hid hM
          have HS6 := Lib.hid hs
          have HRX := Lib.hid hrd
          have m0 := hs.m.cell 0 _ rfl
          have m1 := hs.m.cell 1 _ rfl
          have m2 := hs.m.cell 2 _ rfl
          have m3 := hs.m.cell 3 _ rfl
          have m4 := hs.m.cell 4 _ rfl
          have m5 := hs.m.cell 5 _ rfl
          have m6 := hs.m.cell 6 _ rfl
          have m7 := hs.m.cell 7 _ rfl
          clear hM hs hrd hok hE hLK hDT hne HKD HI HL1 HL2 HMF HS5 HC HRD
          by_cases hE0 : E = 0
          · subst hE0
            rw [if_neg (by simp)] at hm0
            have HM0 := Lib.hid hm0
            clear hm0
            go_wp2_with (go_at_call 54; refine (HM.out _ (HG.out.below HS6.out.b)).mono ?_; rintro e w' ⟨rfl, hb⟩; have HS7 := Lib.hid (HS6.out.later hb); have HR7 := Lib.hid (HRX.out.below hb); have m0 := HS7.out.m.cell 0 _ rfl; have m1 := HS7.out.m.cell 1 _ rfl; have m2 := HS7.out.m.cell 2 _ rfl; have m3 := HS7.out.m.cell 3 _ rfl; have m4 := HS7.out.m.cell 4 _ rfl; have m5 := HS7.out.m.cell 5 _ rfl; have m6 := HS7.out.m.cell 6 _ rfl; have m7 := HS7.out.m.cell 7 _ rfl; have fz := HS7.out.z.frozen; have z0 := HS7.out.z.cell 0 _ rfl; have z1 := HS7.out.z.cell 1 _ rfl; have z2 := HS7.out.z.cell 2 _ rfl; have z3 := HS7.out.z.cell 3 _ rfl; have z4 := HS7.out.z.cell 4 _ rfl; have z5 := HS7.out.z.cell 5 _ rfl; have z6 := HS7.out.z.cell 6 _ rfl; have z7 := HS7.out.z.cell 7 _ rfl; clear hb)
            refine bodyPost_ret (from_results _ _ (w.heap.size + 1) _ _ _ _ _ _ _ _ (by rfl) (Cel.put8 HS7.out.z _ _ _ _ _ _ _ _)) rfl ?_
            rw [HM0.out]
            have hb9 := HS7.out.b
            refine FromPost.mk A7 c7 rfl ?_ (by go_grown)
            have hf := HFAR.out
            exact (((((((HR7.out.far ⟨w.heap.size + 1, 0, none⟩ _ hf).far ⟨w.heap.size + 1, 1, none⟩ _ hf).far ⟨w.heap.size + 1, 2, none⟩ _ hf).far ⟨w.heap.size + 1, 3, none⟩ _ hf).far ⟨w.heap.size + 1, 4, none⟩ _ hf).far ⟨w.heap.size + 1, 5, none⟩ _ hf).far ⟨w.heap.size + 1, 6, none⟩ _ hf).far ⟨w.heap.size + 1, 7, none⟩ _ hf
          · rw [if_pos hE0] at hm0
            have HM0 := Lib.hid hm0
            have hEb : (E != 0) = true := by rw [bne_iff_ne]; exact hE0
            clear hm0 hE0
            go_wp2_with (go_at_call 54; refine (HM.out _ (HG.out.below HS6.out.b)).mono ?_; rintro e w' ⟨rfl, hb⟩; have HS7 := Lib.hid (HS6.out.later hb); have fz := HS7.out.z.frozen; have z0 := HS7.out.z.cell 0 _ rfl; have z1 := HS7.out.z.cell 1 _ rfl; have z2 := HS7.out.z.cell 2 _ rfl; have z3 := HS7.out.z.cell 3 _ rfl; have z4 := HS7.out.z.cell 4 _ rfl; have z5 := HS7.out.z.cell 5 _ rfl; have z6 := HS7.out.z.cell 6 _ rfl; have z7 := HS7.out.z.cell 7 _ rfl; clear hb)
            refine bodyPost_ret (from_results _ _ (w.heap.size + 1) _ _ _ _ _ _ _ _ (by rfl) (Cel.put8 HS7.out.z _ _ _ _ _ _ _ _)) rfl ?_
            rw [HM0.out]
            have hb9 := HS7.out.b
            exact FromPost.mk none 0 rfl (Rd.nil _ _) (by go_grown)
end Go.Proofs.YtckgjbpgdpcnnaaGreatDoor
