/-
  THE CONTRACT of head.Parse.
-/
import Derived.Test.YtckgjbpgdpcnnaaGreatDoorHpar
namespace Go.Proofs.YtckgjbpgdpcnnaaGreatDoor
set_option linter.all false
set_option linter.unusedVariables false
set_option linter.unusedSimpArgs false
open Go.RowKit Pl
attribute [local go_sem] st_toList st_size

def zeroHd : Array Value := #[.string { data := #[] }, .string { data := #[] }, .int .i64 0, .int .i64 0, .int .i64 0, .int .i64 0, .int .i64 0, .int .u8 0, .string { data := #[] }]
theorem Cel.row {w : World} {b : Nat} {vs : Array Value} {t : TypeId} (h : Cel w b vs t) (vs' : Array Value) : Cel (w.setRow b vs') b vs' t := setRow_heap w b vs vs' t (0, 0) h
theorem info43 : (Tryz.prog.info? 43).map (·.size) = some 9 := by kernel_rfl
theorem hpar_results (tmps : Array Value) (w : World) (b : Nat) (a0 a1 a2 a3 a4 a5 a6 a7 a8 : Value) (h2 : tmps.getD 2 undef = .pointer (some ⟨b, 0, none⟩)) (h : Cel w b #[a0, a1, a2, a3, a4, a5, a6, a7, a8] 43) :
    (results Tryz.f23 tmps).run Tryz.prog w = .ok (.tuple #[.agg #[a0, a1, a2, a3, a4, a5, a6, a7, a8], tmps.getD 3 undef]) w := by
  have d0 := h.cell 0 a0 rfl
  have d1 := h.cell 1 a1 rfl
  have d2 := h.cell 2 a2 rfl
  have d3 := h.cell 3 a3 rfl
  have d4 := h.cell 4 a4 rfl
  have d5 := h.cell 5 a5 rfl
  have d6 := h.cell 6 a6 rfl
  have d7 := h.cell 7 a7 rfl
  have d8 := h.cell 8 a8 rfl
  have h3 : tmps[2]?.getD undef = .pointer (some ⟨b, 0, none⟩) := by rw [← h2]; simp
  simp [results, Tryz.results23, h3, d0, d1, d2, d3, d4, d5, d6, d7, d8, go_sem]
set_option maxRecDepth 100000 in
set_option maxHeartbeats 1000000 in
theorem hpar_sum (A : Option Addr) (c : Nat) (l : Bs) (w : World) (hl : l.length = 512) (hc : 512 ≤ c) (hbig : c ≤ 9223372036854775807) (hr : Rd w A l) (he : hCheck l ≠ 0) :
    Calls Tryz.prog 23 #[.slice A 512 c] w fun en w' => en = .returned (.tuple #[hdV noHeader, .int .i64 (hCheck l)]) ∧ Below w.heap.size w w' := by
  have hC := fun W h => hsum_Check A c l W hl hc hbig h
  obtain ⟨E, hE⟩ : ∃ E, hCheck l = E := ⟨_, rfl⟩
  rw [hE] at he hC ⊢
  have hne : (E != 0) = true := by rw [bne_iff_ne]; exact he
  have HC := Lib.hid hC
  have hb0 := (Below.refl w.heap.size w).alloc (Nat.le_refl _) (.cells zeroHd 43)
  have HR := Lib.hid (hr.below hb0)
  have HB := Lib.hid hb0
  have HZ := Lib.hid (Cel.new w zeroHd 43)
  clear hC hE he hr hb0
  go_enter Tryz.func23, Tryz.ntmps23
  go_wp2_with (first | (go_at_call 64; go_must (refine (HC.out _ HR.out).mono ?_); rintro e w1 ⟨rfl, hb⟩; have HB1 := Lib.hid (HB.out.trans (hb.mono (by simp))); have HZ1 := Lib.hid (HZ.out.below hb); clear hb; have fz := HZ1.out.frozen; have d0 := HZ1.out.cell 0 _ rfl; have d1 := HZ1.out.cell 1 _ rfl; have d2 := HZ1.out.cell 2 _ rfl; have d3 := HZ1.out.cell 3 _ rfl; have d4 := HZ1.out.cell 4 _ rfl; have d5 := HZ1.out.cell 5 _ rfl; have d6 := HZ1.out.cell 6 _ rfl; have d7 := HZ1.out.cell 7 _ rfl; have d8 := HZ1.out.cell 8 _ rfl))
  have hz2 := ((((((((HZ1.out.put 0 (.string { data := #[] })).put 1 (.string { data := #[] })).put 2 (.int .i64 0)).put 3 (.int .i64 0)).put 4 (.int .i64 0)).put 5 (.int .i64 0)).put 6 (.int .i64 0)).put 7 (.int .u8 0)).put 8 (.string { data := #[] })
  have hb1 := HB1.out
  refine bodyPost_ret (hpar_results _ _ w.heap.size _ _ _ _ _ _ _ _ _ (by rfl) hz2) rfl ?_
  exact ⟨rfl, by go_grown⟩
theorem rd_const (w : World) (r : Bs) (fr : Nat × Nat) : Rd (w.alloc (.cells (bcs r).toArray 5 fr)) (some ⟨w.heap.size, 0, none⟩) r := fun _ => ⟨_, _, rfl, fun j x hx => by
  have h1 : (w.alloc (.cells (bcs r).toArray 5 fr)).heap[w.heap.size]? = some (.cells (bcs r).toArray 5 fr) := heap_alloc_new w _
  unfold World.cell?
  rw [h1]
  simp [bcs, hx]⟩
theorem hp_iff (l : Bs) (h : l.length = 512) : Lib.hasPrefix (l.drop 257) ustar = decide (fieldB l 257 8 = ustar) := by
  unfold Lib.hasPrefix fieldB
  rw [Bool.eq_iff_iff, decide_eq_true_eq]
  constructor
  · intro h
    have := List.isPrefixOf_iff_prefix.1 h
    exact (List.prefix_iff_eq_take.1 this).symm
  · intro h
    apply List.isPrefixOf_iff_prefix.2
    rw [← h]
    exact List.take_prefix _ _
-- GEN (wip/gen_hpas.py)
/-- All nine cells of the result written. -/
def put9 (w : World) (b : Nat) (a0 a1 a2 a3 a4 a5 a6 a7 a8 : Value) : World := ((((((((w.setCell ⟨b, 0, none⟩ a0).setCell ⟨b, 1, none⟩ a1).setCell ⟨b, 2, none⟩ a2).setCell ⟨b, 3, none⟩ a3).setCell ⟨b, 4, none⟩ a4).setCell ⟨b, 5, none⟩ a5).setCell ⟨b, 6, none⟩ a6).setCell ⟨b, 7, none⟩ a7).setCell ⟨b, 8, none⟩ a8
theorem Cel.put9 {w : World} {b : Nat} {t : TypeId} (h : Cel w b zeroHd t) (a0 a1 a2 a3 a4 a5 a6 a7 a8 : Value) : Cel (((((((((w.setCell ⟨b, 0, none⟩ a0).setCell ⟨b, 1, none⟩ a1).setCell ⟨b, 2, none⟩ a2).setCell ⟨b, 3, none⟩ a3).setCell ⟨b, 4, none⟩ a4).setCell ⟨b, 5, none⟩ a5).setCell ⟨b, 6, none⟩ a6).setCell ⟨b, 7, none⟩ a7).setCell ⟨b, 8, none⟩ a8) b #[a0, a1, a2, a3, a4, a5, a6, a7, a8] t := by
  have h0 : Cel (_) b #[a0, .string { data := #[] }, .int .i64 0, .int .i64 0, .int .i64 0, .int .i64 0, .int .i64 0, .int .u8 0, .string { data := #[] }] t := h.put 0 a0
  have h1 : Cel (_) b #[a0, a1, .int .i64 0, .int .i64 0, .int .i64 0, .int .i64 0, .int .i64 0, .int .u8 0, .string { data := #[] }] t := h0.put 1 a1
  have h2 : Cel (_) b #[a0, a1, a2, .int .i64 0, .int .i64 0, .int .i64 0, .int .i64 0, .int .u8 0, .string { data := #[] }] t := h1.put 2 a2
  have h3 : Cel (_) b #[a0, a1, a2, a3, .int .i64 0, .int .i64 0, .int .i64 0, .int .u8 0, .string { data := #[] }] t := h2.put 3 a3
  have h4 : Cel (_) b #[a0, a1, a2, a3, a4, .int .i64 0, .int .i64 0, .int .u8 0, .string { data := #[] }] t := h3.put 4 a4
  have h5 : Cel (_) b #[a0, a1, a2, a3, a4, a5, .int .i64 0, .int .u8 0, .string { data := #[] }] t := h4.put 5 a5
  have h6 : Cel (_) b #[a0, a1, a2, a3, a4, a5, a6, .int .u8 0, .string { data := #[] }] t := h5.put 6 a6
  have h7 : Cel (_) b #[a0, a1, a2, a3, a4, a5, a6, a7, .string { data := #[] }] t := h6.put 7 a7
  have h8 : Cel (_) b #[a0, a1, a2, a3, a4, a5, a6, a7, a8] t := h7.put 8 a8
  exact h8
theorem Cel.drew {w : World} {b : Nat} {vs : Array Value} {t : TypeId} (h : Cel w b vs t) : Cel w.drew b vs t := h
/-- How it stands within Parse: the reader at R, the header at R + 1, the result's cell. -/
structure RS (w0 w : World) (A : Option Addr) (c R : Nat) (e : Int) (vs : Array Value) : Prop where
  r : Cel w R #[.slice A 512 c, .int .i64 e] 111
  h : Cel w (R + 1) vs 43
  z : Cel w w0.heap.size zeroHd 43
  b : Below w0.heap.size w0 w
  lt : w0.heap.size < R
theorem RS.call {w0 w w' : World} {A : Option Addr} {c R : Nat} {e e' : Int} {vs : Array Value} (h : RS w0 w A c R e vs) (hr : Cel w' R #[.slice A 512 c, .int .i64 e'] 111) (hb : Below w0.heap.size w w') (hk : ∀ k, k < w.heap.size → k ≠ R → w'.heap[k]? = w.heap[k]?) : RS w0 w' A c R e' vs :=
  ⟨hr, (hk _ h.h.lt (by omega)).trans h.h, (hk _ h.z.lt (by have := h.lt; omega)).trans h.z, h.b.trans hb, h.lt⟩
theorem RS.put {w0 w : World} {A : Option Addr} {c R : Nat} {e : Int} {vs : Array Value} (h : RS w0 w A c R e vs) (i : Nat) (v : Value) : RS w0 (w.setCell ⟨R + 1, i, none⟩ v) A c R e (vs.setIfInBounds i v) :=
  ⟨h.r.other (by show R + 1 ≠ R; omega) v, h.h.put i v, h.z.other (by show R + 1 ≠ _; have := h.lt; omega) v, h.b.setCell (by show _ ≤ R + 1; have := h.lt; omega) v, h.lt⟩
theorem RS.later {w0 w w' : World} {A : Option Addr} {c R : Nat} {e : Int} {vs : Array Value} (h : RS w0 w A c R e vs) (hb : Below w.heap.size w w') : RS w0 w' A c R e vs :=
  ⟨h.r.below hb, h.h.below hb, h.z.below hb, h.b.trans (hb.mono h.b.size), h.lt⟩
theorem rs_text {w0 w : World} {A : Option Addr} {c R : Nat} {e : Int} {vs : Array Value} (h : RS w0 w A c R e vs) (l : Bs) (hl : l.length = 512) (hc : 512 ≤ c) (hbig : c ≤ 9223372036854775807) (hr : Rd w0 A l) (hg : Glob w0) (at_ d : Nat) (hd : 1 ≤ d) (hfit : at_ + d ≤ 512) (r : Bs × Int) (hs : sGet (fieldB l at_ d) = r) (e2 : Int) (he : readE e r.2 = e2) :
    Calls Tryz.prog 66 #[.pointer (some ⟨R, 0, none⟩), .int .i64 at_, .int .i64 d] w fun en w' => en = .returned (.string (st r.1)) ∧ RS w0 w' A c R e2 vs := by
  subst hs he
  exact (reader_text R w0.heap.size at_ d A c e l w h.r (by have := h.lt; omega) hl hc hbig (hr.below h.b) hd hfit (hg.below h.b)).mono fun en w' ⟨h1, h2, h3, h4⟩ => ⟨h1, h.call h2 h3 h4⟩
theorem rs_number {w0 w : World} {A : Option Addr} {c R : Nat} {e : Int} {vs : Array Value} (h : RS w0 w A c R e vs) (l : Bs) (hl : l.length = 512) (hc : 512 ≤ c) (hbig : c ≤ 9223372036854775807) (hr : Rd w0 A l) (at_ d : Nat) (hd : d = 8 ∨ d = 12) (hfit : at_ + d ≤ 512) (r : Int × Int) (hs : nGet (fieldB l at_ d) = r) (e2 : Int) (he : readE e r.2 = e2) :
    Calls Tryz.prog 67 #[.pointer (some ⟨R, 0, none⟩), .int .i64 at_, .int .i64 d] w fun en w' => en = .returned (.int .i64 r.1) ∧ RS w0 w' A c R e2 vs := by
  subst hs he
  exact (reader_number R w0.heap.size at_ d A c e l w h.r (by have := h.lt; omega) hl hc hbig (hr.below h.b) hd hfit).mono fun en w' ⟨h1, h2, h3, h4⟩ => ⟨h1, h.call h2 h3 h4⟩
/-- The eight fields as read. -/
structure Fs where
  p : Bs × Int
  n : Bs × Int
  k : Bs × Int
  m : Int × Int
  u : Int × Int
  g : Int × Int
  z : Int × Int
  t : Int × Int
def fieldsOf (l : Bs) : Fs := ⟨sGet (fieldB l 345 155), sGet (fieldB l 0 100), sGet (fieldB l 157 100), nGet (fieldB l 100 8), nGet (fieldB l 108 8), nGet (fieldB l 116 8), nGet (fieldB l 124 12), nGet (fieldB l 136 12)⟩
def lastE (f : Fs) : Int := readE (readE (readE (readE (readE (readE (readE (readE 0 f.p.2) f.n.2) f.k.2) f.m.2) f.u.2) f.g.2) f.z.2) f.t.2
def hdOf (f : Fs) (ty : UInt8) : Header := ⟨f.p.1, f.n.1, ⟨f.m.1, f.u.1, f.g.1, f.t.1⟩, f.z.1, ty, f.k.1⟩
set_option maxRecDepth 100000 in
set_option maxHeartbeats 4000000 in
theorem hpar_magic (A : Option Addr) (c : Nat) (l : Bs) (w : World) (hl : l.length = 512) (hc : 512 ≤ c) (hbig : c ≤ 9223372036854775807) (hr : Rd w A l) (hg : Glob w) (he : hCheck l = 0) (hm : fieldB l 257 8 ≠ ustar) :
    Calls Tryz.prog 23 #[.slice A 512 c] w fun en w' => en = .returned (.tuple #[hdV noHeader, .int .i64 3]) ∧ Below w.heap.size w w' := by
  have hC := fun W h => hsum_Check A c l W hl hc hbig h
  rw [he] at hC
  obtain ⟨ab, ao, rfl, hcell⟩ := hr (by omega)
  obtain ⟨ty, hty⟩ : ∃ ty, l.getD 156 0 = ty := ⟨_, rfl⟩
  have c156 : w.cell? ⟨ab, ao + 156, none⟩ = some (.int .u8 (ty.toNat : Int)) := by
    rw [← hty]
    exact hcell 156 _ (by simp [List.getD, List.getElem?_eq_getElem (show 156 < l.length by omega)])
  have C156 := Lib.hid c156
  clear hty
  clear hcell c156
  have HC := Lib.hid hC
  have HG := Lib.hid hg
  have hb0 := (Below.refl w.heap.size w).alloc (Nat.le_refl _) (.cells zeroHd 43)
  have HR := Lib.hid (hr.below hb0)
  have HR0 := Lib.hid hr
  have HB := Lib.hid hb0
  have HZ := Lib.hid (Cel.new w zeroHd 43)
  obtain ⟨A', hcut0, hrd, _⟩ := cut_from .i64 (some ⟨ab, ao, none⟩) 512 c 257 (by omega)
  have hcut : ∀ W : World, (Instr.slice 31 (.slice (some ⟨ab, ao, none⟩) 512 c) (some (.int .i64 257)) none none).run Tryz.prog W = .ok (.slice A' 255 (c - 257)) W := hcut0
  have hrd2 := fun W h => hrd W l hl hc h
  have HRD := Lib.hid hrd2
  have kc := fun W : World => kc_bytes W #[.int .u8 117, .int .u8 115, .int .u8 116, .int .u8 97, .int .u8 114, .int .u8 0, .int .u8 48, .int .u8 48] 8 8
  have HHP := Lib.hid (hp_iff l hl)
  have HL := Lib.hid hl
  have hpt : decide (fieldB l 257 8 = ustar) = false := by simpa using hm
  have HPT := Lib.hid hpt
  clear hC he hr hb0 hrd hrd2 hl hm hpt hg hcut0
  go_enter Tryz.func23, Tryz.ntmps23
  go_wp2_with (first | (go_at_call 64; go_must (refine (HC.out _ HR.out).mono ?_); rintro e w2 ⟨rfl, hb⟩; have HB2 := Lib.hid (HB.out.trans (hb.mono (by simp))); have HZ2 := Lib.hid (HZ.out.below hb); clear hb) | (go_at_call 65; go_must (refine (lib_HasPrefix A' (some ⟨w2.heap.size, 0, none⟩) 255 (c - 257) 8 8 (l.drop 257) ustar _ (by rw [List.length_drop, HL.out]) rfl (by omega) (HRD.out _ (HR0.out.below (HB2.out.alloc HB2.out.size _))) (rd_const w2 ustar (8, 9))).mono ?_); rw [HHP.out, HPT.out]; rintro e w3 ⟨rfl, hw3⟩; have HB3 : Hid (Below w.heap.size w w3) := Lib.hid (hw3 ▸ HB2.out.alloc HB2.out.size _); have hz3 : Cel w3 w.heap.size zeroHd 43 := hw3 ▸ (HZ2.out.below ((Below.refl _ _).alloc (Nat.le_refl _) _)); have HZ3 := Lib.hid hz3; have d156 := fun o => ((HB3.out.alloc HB3.out.size o).cell (p := ⟨ab, ao + 156, none⟩) (World.block_lt_of_cell? w _ C156.out)).trans C156.out; have fz := HZ3.out.frozen; have zz0 := HZ3.out.cell 0 _ rfl; have zz1 := HZ3.out.cell 1 _ rfl; have zz2 := HZ3.out.cell 2 _ rfl; have zz3 := HZ3.out.cell 3 _ rfl; have zz4 := HZ3.out.cell 4 _ rfl; have zz5 := HZ3.out.cell 5 _ rfl; have zz6 := HZ3.out.cell 6 _ rfl; have zz7 := HZ3.out.cell 7 _ rfl; have zz8 := HZ3.out.cell 8 _ rfl; clear hz3 hw3))
  have hz9 := HZ3.out
  have hb9 := HB3.out
  refine bodyPost_ret (hpar_results _ _ w.heap.size _ _ _ _ _ _ _ _ _ (by rfl) (Cel.put9 hz9 _ _ _ _ _ _ _ _ _)) rfl ?_
  exact ⟨rfl, by go_grown⟩
theorem rs_start {w w3 : World} {A : Option Addr} {c : Nat} (hb : Below w.heap.size w w3) (hz : Cel w3 w.heap.size zeroHd 43) (vs : Array Value) (e : Int) :
    RS w ((w3.alloc (.cells #[.slice A 512 c, .int .i64 e] 111)).alloc (.cells vs 43)) A c w3.heap.size e vs := by
  have h1 := (Below.refl w3.heap.size w3).alloc (Nat.le_refl _) (.cells #[.slice A 512 c, .int .i64 e] 111)
  have h2 := (Below.refl _ (w3.alloc (.cells #[.slice A 512 c, .int .i64 e] 111))).alloc (Nat.le_refl _) (.cells vs 43)
  refine ⟨(Cel.new w3 _ _).below h2, ?_, (hz.below h1).below h2, (hb.trans (h1.mono hb.size)).trans (h2.mono (Nat.le_trans hb.size (by simp))), hz.lt⟩
  have := Cel.new (w3.alloc (.cells #[.slice A 512 c, .int .i64 e] 111)) vs 43
  rwa [World.size_alloc] at this
end Go.Proofs.YtckgjbpgdpcnnaaGreatDoor
