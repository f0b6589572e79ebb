/-
  THE CONTRACTS of package hsum, on: Zero, Put.
-/
import Derived.Test.YtckgjbpgdpcnnaaGreatDoorHsum
import Derived.Deep.RegionLaw
namespace Go.Proofs.YtckgjbpgdpcnnaaGreatDoor
set_option linter.all false
set_option linter.unusedVariables false
set_option linter.unusedSimpArgs false
open Go.RowKit Pl

theorem count_all (l : Bs) : ((l.count 0 : Nat) : Int) = l.length ↔ l.all (· == 0) = true := by
  rw [List.all_eq_true]
  constructor
  · intro h x hx
    have h2 : l.count 0 = l.length := by omega
    rw [List.count_eq_length] at h2
    simpa using (h2 x hx).symm
  · intro h
    have h2 : l.count 0 = l.length := by
      rw [List.count_eq_length]
      intro x hx
      simpa using (by simpa using h x hx : x = 0).symm
    omega

set_option maxRecDepth 100000 in
set_option maxHeartbeats 1000000 in
theorem hsum_Zero (A : Option Addr) (c : Nat) (l : Bs) (w : World) (hl : l.length = 512) (hc : 512 ≤ c) (h : Rd w A l) :
    Calls Tryz.prog 71 #[.slice A 512 c] w fun e w' => e = .returned (.bool (hZero l)) ∧ Below w.heap.size w w' := by
  have hb0 := (Below.refl w.heap.size w).alloc (Nat.le_refl _) (.cells #[.int .u8 0] 5)
  have hC := lib_Count A 512 c w.heap.size 0 1 l 0 (w.alloc (.cells #[.int .u8 0] 5)) hl (by omega) (h.below hb0) (by rw [World.cell?_alloc_mark]; rfl)
  have hz : (((l.count 0 : Nat) : Int) == 512) = hZero l := by
    have := count_all l
    rw [hl] at this
    unfold hZero
    rw [hl]
    rw [Bool.eq_iff_iff]
    simp only [beq_iff_eq, BEq.rfl, Bool.true_and]
    exact this
  have HC := Lib.hid hC
  have HB := Lib.hid hb0
  have HZ := Lib.hid hz
  obtain ⟨k, hk⟩ : ∃ k : Nat, l.count 0 = k := ⟨_, rfl⟩
  have HK := Lib.hid hk
  clear hC hb0 hz hk h hl
  go_enter Tryz.func71, Tryz.ntmps71
  go_wp2_with (go_at_call 103; go_must (refine HC.out.mono ?_); rw [HK.out]; rintro e w1 ⟨rfl, rfl⟩)
  go_ret
  exact ⟨by rw [← HZ.out, HK.out]; rfl, HB.out⟩

theorem hPut_eq (l : Bs) (h : l.length = 512) : splice l 148 (octs (hsum l) 6 ++ [0, 32]) = hPut l := by
  have h1 : (octs (hsum l) 6 ++ [0, 32] : Bs).length = 8 := by simp [octs]
  unfold splice hPut
  rw [h1]
  simp

theorem two_get {a b z : UInt8} {j : Nat} (h : [a, b][j]? = some z) : (j = 0 ∧ z = a) ∨ (j = 1 ∧ z = b) := by
  rcases j with _ | _ | j
  · simp at h; exact .inl ⟨rfl, h.symm⟩
  · simp at h; exact .inr ⟨rfl, h.symm⟩
  · simp at h
set_option maxRecDepth 100000 in
set_option maxHeartbeats 2000000 in
theorem hsum_Put (A : Option Addr) (c : Nat) (l : Bs) (w : World) (hl : l.length = 512) (hc : 512 ≤ c) (h : Rd w A l) :
    Calls Tryz.prog 95 #[.slice A 512 c] w fun e w' => ∃ v, e = .returned (.tuple #[v, .int .i64 0]) ∧ w'.ownsRow w.heap.size 5 1 v 512 (bcs (hPut l)) ∧ Below w.heap.size w w' := by
  have hS := hsum_Sum A c l w hl hc h
  have hle := hsum_le l hl
  have heq := hPut_eq l hl
  have hO := fun W => numf_Octal (hsum l) 6 (by omega) (by omega) (by have : most 6 = 262143 := by decide +kernel
                                                                      omega) (by omega) W
  obtain ⟨s, hs⟩ : ∃ s, hsum l = s := ⟨_, rfl⟩
  rw [hs] at hS hle hO heq
  have HS := Lib.hid hS
  have HEQ := Lib.hid heq
  have HO := Lib.hid hO
  have HH := Lib.hid h
  have HL := Lib.hid hl
  clear hS heq hO h hs hl
  go_enter Tryz.func95, Tryz.ntmps95
  go_wp2_with (first | (go_at_call 100; go_must (refine HS.out.mono ?_); rintro e w1 ⟨rfl, rfl⟩) | (go_at_call 127; go_must (refine (HO.out _).mono ?_); rintro e w1 ⟨v1, rfl, ho1, hb1⟩; have HO1 := Lib.hid ho1; have HB1 := Lib.hid hb1; clear ho1 hb1) | (go_at_call 53; go_must (refine (lib_Clone A 512 c l _ HL.out (by omega) (HH.out.below HB1.out)).mono ?_); rintro e w2 ⟨v2, rfl, ho2, hb2⟩; obtain ⟨g, cap, rfl, hg1, hg2, hg3, hg4⟩ := own_form ho2 (by omega); have HO2 := Lib.hid ho2; have HB2 := Lib.hid hb2; clear ho2 hb2))
  have hcut : ∀ W : World, (Instr.slice 31 (.slice (some ⟨g, 0, none⟩) 512 cap) (some (.int .i64 148)) none none).run Tryz.prog W = .ok (.slice (some ⟨g, 148, none⟩) 364 (cap - 148)) W := cut_blk .i64 g 0 512 cap 148 (by omega) (by omega)
  have HB0 := Lib.hid ((HB1.out.trans (HB2.out.mono HB1.out.size)))
  have HA1 := Lib.hid (own_below HO1.out HB2.out)
  have hR3 : Rd (w2.alloc (.cells #[.int .u8 0, .int .u8 32] 5)).drew (some ⟨w2.heap.size, 0, none⟩) [0, 32] := fun _ => ⟨_, _, rfl, fun j z hz => by
    obtain ⟨rfl, rfl⟩ | ⟨rfl, rfl⟩ := two_get hz
    all_goals simp⟩
  have hA3 := ((HA1.out.alloc (.cells #[.int .u8 0, .int .u8 32] 5))).drew
  have hG3 := ((HO2.out.alloc (.cells #[.int .u8 0, .int .u8 32] 5))).drew
  have hB3 : Below w.heap.size w (w2.alloc (.cells #[.int .u8 0, .int .u8 32] 5)).drew := (HB0.out.alloc HB0.out.size (.cells #[.int .u8 0, .int .u8 32] 5)).drew
  have hs3 : w.heap.size ≤ (w2.alloc (.cells #[.int .u8 0, .int .u8 32] 5)).drew.heap.size := hB3.size
  have hs1 := HB1.out.size
  have HR3 := Lib.hid hR3
  have HA3 := Lib.hid hA3
  have HG3 := Lib.hid hG3
  have HB3 := Lib.hid hB3
  have HS3 := Lib.hid hs3
  have hne : v1.ownBlock ≠ some g := by
    intro h
    have := (HO1.out.lt g h).2
    omega
  have HNE := Lib.hid hne
  clear hR3 hA3 hG3 hB3 hs3 hne
  go_region_law (first | (refine step_app (w0 := w) w.heap.size rfl (.tmp 28) (.tmp 29) rfl v1 6 (octs s 6) [0, 32] (some ⟨w2.heap.size, 0, none⟩) 2 2 (by rfl) (by rfl) rfl HA3.out HR3.out HB3.out HS3.out (by omega) ?_; intro v4 w4 ho4 hb4 hgr hat; have hg4 := HG3.out.kept hgr (.inr (by intro h; exact HNE.out h.symm)); obtain ⟨A4, c4, rfl, hc4, hr4⟩ := Rd.of_own (l := octs s 6 ++ [0, 32]) ho4; have HR4 := Lib.hid hr4; have HG4 := Lib.hid hg4; have HB4 := Lib.hid hb4; clear ho4 hb4 hgr hat hr4 hg4) | (refine step_cp_own rfl (.tmp 27) (.tmp 30) rfl (some ⟨g, 148, none⟩) A4 364 (cap - 148) 8 c4 (by rfl) (by rfl) w1.heap.size g 512 cap 148 l (octs s 6 ++ [0, 32]) HG4.out HR4.out rfl (by omega) (fun _ => rfl) (by omega) ?_; intro w5 ho5 hgr5; have HO5 := Lib.hid ho5; have HB5 := Lib.hid (HB4.out.grown hgr5 HB4.out.size (fun k hk => by injection hk with hk; omega)); clear ho5 hgr5))
  go_wp2
  go_ret2
  refine ⟨_, rfl, ?_, HB5.out⟩
  have h5 := HO5.out
  rw [HEQ.out] at h5
  exact own_more h5 (by omega)
end Go.Proofs.YtckgjbpgdpcnnaaGreatDoor
