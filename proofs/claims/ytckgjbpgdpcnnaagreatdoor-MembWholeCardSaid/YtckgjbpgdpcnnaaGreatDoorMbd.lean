/-
  THE CONTRACTS of package memb, on: what is laid of a member: Fits, first, header.
-/
import Derived.Test.YtckgjbpgdpcnnaaGreatDoorMbc
import Derived.Test.YtckgjbpgdpcnnaaGreatDoorBlk
import Derived.Test.YtckgjbpgdpcnnaaGreatDoorRee
import Derived.Test.YtckgjbpgdpcnnaaGreatDoorHpc
import Derived.Deep.RegionHeld3
namespace Go.Proofs.YtckgjbpgdpcnnaaGreatDoor
set_option linter.all false
set_option linter.unusedVariables false
set_option linter.unusedSimpArgs false
open Go.RowKit Pl
attribute [local go_sem] st_toList st_size

theorem strf_Fits (l : Bs) (w : World) (hn : l.length < 4294967281) (hg : Glob w) : Calls Tryz.prog 63 #[.string (st l)] w fun e w' => e = .returned (.bool (split l).isSome) ∧ Below w.heap.size w w' := by
  have hS := strf_Split l w hn hg
  cases hs : split l with
  | none =>
    rw [hs] at hS
    unfold splitE at hS
    simp only [] at hS
    have HS := Lib.hid hS
    clear hS hs hg hn
    go_enter Tryz.func63, Tryz.ntmps63
    go_wp2_with (go_at_call 96; refine HS.out.mono ?_; rintro e w' ⟨rfl, hb⟩; have HB := Lib.hid hb; clear hb)
    go_ret
    exact ⟨rfl, HB.out⟩
  | some pn =>
    obtain ⟨p, n⟩ := pn
    rw [hs] at hS
    unfold splitE at hS
    simp only [] at hS
    have HS := Lib.hid hS
    clear hS hs hg hn
    go_enter Tryz.func63, Tryz.ntmps63
    go_wp2_with (go_at_call 96; refine HS.out.mono ?_; rintro e w' ⟨rfl, hb⟩; have HB := Lib.hid hb; clear hb)
    go_ret
    exact ⟨rfl, HB.out⟩
theorem memb_first (l : Bs) (w : World) (hn : l.length < 4294967281) : Calls Tryz.prog 97 #[.string (st l)] w fun e w' => e = .returned (.string (st (l.take 100))) ∧ w = w' := by
  by_cases h : l.length ≤ 100
  · rw [List.take_of_length_le h]
    have hm : min (l.length : Int) 100 = (l.length : Int) := by omega
    have hcut := fun W => scut_to .i64 l l.length (Nat.le_refl _) W
    rw [List.take_length] at hcut
    clear h
    go_enter Tryz.func97, Tryz.ntmps97
    go_wp2
    go_ret
    exact ⟨rfl, rfl⟩
  · have hm : min (l.length : Int) 100 = 100 := by omega
    have hcut0 := fun W => scut_to .i64 l 100 (by omega) W
    have hcut : ∀ W : World, (Instr.slice 9 (.string (st l)) none (some (.int .i64 100)) none).run Tryz.prog W = .ok (.string (st (l.take 100))) W := hcut0
    clear h hcut0
    go_enter Tryz.func97, Tryz.ntmps97
    go_wp2
    go_ret
    exact ⟨rfl, rfl⟩
theorem mhead_results (tmps : Array Value) (w : World) (b : Nat) (a0 a1 a2 a3 a4 a5 a6 a7 a8 : Value) (h2 : tmps.getD 2 undef = .pointer (some ⟨b, 0, none⟩)) (h : Cel w b #[a0, a1, a2, a3, a4, a5, a6, a7, a8] 43) :
    (results Tryz.f61 tmps).run Tryz.prog w = .ok (.agg #[a0, a1, a2, a3, a4, a5, a6, a7, a8]) w := by
  have d0 := h.cell 0 a0 rfl
  have d1 := h.cell 1 a1 rfl
  have d2 := h.cell 2 a2 rfl
  have d3 := h.cell 3 a3 rfl
  have d4 := h.cell 4 a4 rfl
  have d5 := h.cell 5 a5 rfl
  have d6 := h.cell 6 a6 rfl
  have d7 := h.cell 7 a7 rfl
  have d8 := h.cell 8 a8 rfl
  have h3 : tmps[2]?.getD undef = .pointer (some ⟨b, 0, none⟩) := by rw [← h2]; simp
  simp [results, Tryz.results61, h3, d0, d1, d2, d3, d4, d5, d6, d7, d8, go_sem]
set_option maxRecDepth 100000 in
set_option maxHeartbeats 4000000 in
theorem memb_header (m : Member) (A : Option Addr) (c : Nat) (w : World) (ok : MbOk m) (hg : Glob w) : Calls Tryz.prog 61 #[mbV m A c] w fun e w' => e = .returned (hdV (mHeader m)) ∧ Below w.heap.size w w' := by
  have hS := fun W h => strf_Split m.path W ok.path h
  have hF := fun W => memb_first m.path W ok.path
  have hK := fun W => memb_first m.link W ok.link
  have hT := fun W => memb_Type m.kind W ok.kind.1 ok.kind.2
  obtain ⟨p, k, ⟨a, b, g, t⟩, ln, d⟩ := m
  obtain ⟨T, hTT⟩ : ∃ T, mType k = T := ⟨_, rfl⟩
  obtain ⟨K, hKK⟩ : ∃ K, ln.take 100 = K := ⟨_, rfl⟩
  unfold mbV mHeader
  simp only [] at hS hF hK hT ⊢
  rw [hTT] at hT ⊢
  rw [hKK] at hK ⊢
  have HG := Lib.hid hg
  have HT := Lib.hid hT
  have HK := Lib.hid hK
  have hdl := ok.data
  simp only [] at hdl
  clear hg hT hK hTT hKK ok
  have hbA := ((Below.refl w.heap.size w).alloc (Nat.le_refl _) (.cells #[.string (st p), .int .i64 k, .int .i64 a, .int .i64 b, .int .i64 g, .int .i64 t, .string (st ln), .slice A d.length c] 38)).alloc (by simp) (.cells zeroHd 43)
  have HBA := Lib.hid hbA
  have hz := Cel.new (w.alloc (.cells #[.string (st p), .int .i64 k, .int .i64 a, .int .i64 b, .int .i64 g, .int .i64 t, .string (st ln), .slice A d.length c] 38)) zeroHd 43
  rw [World.size_alloc] at hz
  have HZ := Lib.hid hz
  have hm := (Cel.new w #[.string (st p), .int .i64 k, .int .i64 a, .int .i64 b, .int .i64 g, .int .i64 t, .string (st ln), .slice A d.length c] 38)
  have hm2 : Cel ((w.alloc (.cells #[.string (st p), .int .i64 k, .int .i64 a, .int .i64 b, .int .i64 g, .int .i64 t, .string (st ln), .slice A d.length c] 38)).alloc (.cells zeroHd 43)) w.heap.size #[.string (st p), .int .i64 k, .int .i64 a, .int .i64 b, .int .i64 g, .int .i64 t, .string (st ln), .slice A d.length c] 38 := hm.below ((Below.refl _ _).alloc (Nat.le_refl _) _)
  have HM := Lib.hid hm2
  clear hbA hz hm hm2
  cases hs : split p with
  | none =>
    rw [hs] at hS
    unfold splitE at hS
    simp only [] at hS ⊢
    have HS := Lib.hid hS
    have HF := Lib.hid hF
    clear hS hs hF
    go_enter Tryz.func61, Tryz.ntmps61
    go_wp2_with (first | (go_at_call 96; refine (HS.out _ (HG.out.below HBA.out)).mono ?_; rintro e w1 ⟨rfl, hb⟩; have HB : Hid (Below w.heap.size w w1) := Lib.hid (HBA.out.trans (hb.mono HBA.out.size)); have HZ1 := Lib.hid (HZ.out.below hb); have HM1 := Lib.hid (HM.out.below hb); have m0 := HM1.out.cell 0 _ rfl; have m1 := HM1.out.cell 1 _ rfl; have m2 := HM1.out.cell 2 _ rfl; have m3 := HM1.out.cell 3 _ rfl; have m4 := HM1.out.cell 4 _ rfl; have m5 := HM1.out.cell 5 _ rfl; have m6 := HM1.out.cell 6 _ rfl; have m7 := HM1.out.cell 7 _ rfl; have fz := HZ1.out.frozen; have zz0 := HZ1.out.cell 0 _ rfl; have zz1 := HZ1.out.cell 1 _ rfl; have zz2 := HZ1.out.cell 2 _ rfl; have zz3 := HZ1.out.cell 3 _ rfl; have zz4 := HZ1.out.cell 4 _ rfl; have zz5 := HZ1.out.cell 5 _ rfl; have zz6 := HZ1.out.cell 6 _ rfl; have zz7 := HZ1.out.cell 7 _ rfl; have zz8 := HZ1.out.cell 8 _ rfl; clear hb) | (go_at_call 97; refine (HF.out _).mono ?_; rintro e w' ⟨rfl, rfl⟩))
    go_region_held3 (fun w' => w'.cell? ⟨w.heap.size, 1, none⟩ = some (.int .i64 k) ∧ w'.cell? ⟨w.heap.size, 2, none⟩ = some (.int .i64 a) ∧ w'.cell? ⟨w.heap.size, 3, none⟩ = some (.int .i64 b) ∧ w'.cell? ⟨w.heap.size, 4, none⟩ = some (.int .i64 g) ∧ w'.cell? ⟨w.heap.size, 5, none⟩ = some (.int .i64 t) ∧ w'.cell? ⟨w.heap.size, 6, none⟩ = some (.string (st ln)) ∧ w'.cell? ⟨w.heap.size, 7, none⟩ = some (.slice A d.length c)) (go_keep)
      (first | (go_at_call 97; refine (HK.out _).mono ?_; rintro e w' ⟨rfl, rfl⟩) | (go_at_call 11; refine (HT.out _).mono ?_; rintro e w' ⟨rfl, rfl⟩))
    go_wp2
    refine bodyPost_ret (mhead_results _ _ (w.heap.size + 1) _ _ _ _ _ _ _ _ _ (by rfl) (Cel.drew (Cel.put9 HZ1.out _ _ _ _ _ _ _ _ _))) rfl ?_
    have hb9 := HB.out
    exact ⟨rfl, by go_grown⟩
  | some pn =>
    obtain ⟨q, n⟩ := pn
    rw [hs] at hS
    unfold splitE at hS
    simp only [] at hS ⊢
    have HS := Lib.hid hS
    clear hS hs hF
    go_enter Tryz.func61, Tryz.ntmps61
    go_wp2_with (first | (go_at_call 96; refine (HS.out _ (HG.out.below HBA.out)).mono ?_; rintro e w1 ⟨rfl, hb⟩; have HB : Hid (Below w.heap.size w w1) := Lib.hid (HBA.out.trans (hb.mono HBA.out.size)); have HZ1 := Lib.hid (HZ.out.below hb); have HM1 := Lib.hid (HM.out.below hb); have m0 := HM1.out.cell 0 _ rfl; have m1 := HM1.out.cell 1 _ rfl; have m2 := HM1.out.cell 2 _ rfl; have m3 := HM1.out.cell 3 _ rfl; have m4 := HM1.out.cell 4 _ rfl; have m5 := HM1.out.cell 5 _ rfl; have m6 := HM1.out.cell 6 _ rfl; have m7 := HM1.out.cell 7 _ rfl; have fz := HZ1.out.frozen; have zz0 := HZ1.out.cell 0 _ rfl; have zz1 := HZ1.out.cell 1 _ rfl; have zz2 := HZ1.out.cell 2 _ rfl; have zz3 := HZ1.out.cell 3 _ rfl; have zz4 := HZ1.out.cell 4 _ rfl; have zz5 := HZ1.out.cell 5 _ rfl; have zz6 := HZ1.out.cell 6 _ rfl; have zz7 := HZ1.out.cell 7 _ rfl; have zz8 := HZ1.out.cell 8 _ rfl; clear hb) | (go_at_call 97; refine (HF.out _).mono ?_; rintro e w' ⟨rfl, rfl⟩))
    go_region_held3 (fun w' => w'.cell? ⟨w.heap.size, 1, none⟩ = some (.int .i64 k) ∧ w'.cell? ⟨w.heap.size, 2, none⟩ = some (.int .i64 a) ∧ w'.cell? ⟨w.heap.size, 3, none⟩ = some (.int .i64 b) ∧ w'.cell? ⟨w.heap.size, 4, none⟩ = some (.int .i64 g) ∧ w'.cell? ⟨w.heap.size, 5, none⟩ = some (.int .i64 t) ∧ w'.cell? ⟨w.heap.size, 6, none⟩ = some (.string (st ln)) ∧ w'.cell? ⟨w.heap.size, 7, none⟩ = some (.slice A d.length c)) (go_keep)
      (first | (go_at_call 97; refine (HK.out _).mono ?_; rintro e w' ⟨rfl, rfl⟩) | (go_at_call 11; refine (HT.out _).mono ?_; rintro e w' ⟨rfl, rfl⟩))
    go_wp2
    refine bodyPost_ret (mhead_results _ _ (w.heap.size + 1) _ _ _ _ _ _ _ _ _ (by rfl) (Cel.drew (Cel.put9 HZ1.out _ _ _ _ _ _ _ _ _))) rfl ?_
    have hb9 := HB.out
    exact ⟨rfl, by go_grown⟩
end Go.Proofs.YtckgjbpgdpcnnaaGreatDoor
