/-
  THE CONTRACT of head.Lay.
-/
import Derived.Test.YtckgjbpgdpcnnaaGreatDoorHeae
namespace Go.Proofs.YtckgjbpgdpcnnaaGreatDoor
set_option linter.all false
set_option linter.unusedVariables false
set_option linter.unusedSimpArgs false
open Go.RowKit Pl
attribute [local go_sem] st_toList st_size

/-- What the ten fields lay. -/
def chain (h : Header) : Int × Bs :=
  let s := stepF (0, noughts 512) 345 (sPut h.pre 155).1 (sPut h.pre 155).2
  let s := stepF s 0 (sPut h.name 100).1 (sPut h.name 100).2
  let s := stepF s 157 (sPut h.link 100).1 (sPut h.link 100).2
  let s := stepF s 100 (nPut h.meta_.mode 8).1 (nPut h.meta_.mode 8).2
  let s := stepF s 108 (nPut h.meta_.uid 8).1 (nPut h.meta_.uid 8).2
  let s := stepF s 116 (nPut h.meta_.gid 8).1 (nPut h.meta_.gid 8).2
  let s := stepF s 124 (nPut h.size 12).1 (nPut h.size 12).2
  let s := stepF s 136 (nPut h.meta_.mtime 12).1 (nPut h.meta_.mtime 12).2
  let s := stepF s 329 (nPut 0 8).1 (nPut 0 8).2
  stepF s 337 (nPut 0 8).1 (nPut 0 8).2

def hdVs (h : Header) : List Value := [.string (st h.pre), .string (st h.name), .int .i64 h.meta_.mode, .int .i64 h.meta_.uid, .int .i64 h.meta_.gid, .int .i64 h.meta_.mtime, .int .i64 h.size, .int .u8 (h.type.toNat : Int), .string (st h.link)]
theorem lyr0 (w : World) (X : Array Value) (t : TypeId) : Lyr (((w.alloc (.cells X t)).alloc (.cells (madeCells #[.int .u8 0] 512) 5)).alloc (.cells #[.slice (some ⟨w.heap.size + 1, 0, none⟩) 512 512, .int .i64 0] 140)) (w.heap.size + 2) (w.heap.size + 1) 0 (noughts 512) := by
  have h1 := Blk.new (w.alloc (.cells X t)) 512
  have e1 : (w.alloc (.cells X t)).heap.size = w.heap.size + 1 := by simp
  rw [e1] at h1
  obtain ⟨W, hW⟩ : ∃ W, (w.alloc (.cells X t)).alloc (.cells (madeCells #[.int .u8 0] 512) 5) = W := ⟨_, rfl⟩
  have e2 : W.heap.size = w.heap.size + 2 := by rw [← hW, World.size_alloc, e1]
  rw [hW] at h1 ⊢
  refine ⟨?_, h1.below ((Below.refl _ _).alloc (Nat.le_refl _) _), by omega, List.length_replicate⟩
  rw [← e2]
  exact heap_alloc_new _ _
/-- A header lies at block b. -/
def HdAt (w : World) (b : Nat) (h : Header) : Prop := ∀ i v, (hdVs h)[i]? = some v → w.cell? ⟨b, i, none⟩ = some v
theorem HdAt.below {w w1 : World} {b B : Nat} {h : Header} (H : HdAt w b h) (hb : Below B w w1) (hB : b < B) : HdAt w1 b h := fun i v hv => (hb.cell (p := ⟨b, i, none⟩) hB).trans (H i v hv)
theorem HdAt.new (w : World) (h : Header) (t : TypeId) : HdAt (w.alloc (.cells (hdVs h).toArray t)) w.heap.size h := fun i v hv => by
  have h1 : (w.alloc (.cells (hdVs h).toArray t)).heap[w.heap.size]? = some (.cells (hdVs h).toArray t) := heap_alloc_new w _
  unfold World.cell?
  rw [h1]
  simpa using hv
theorem HdAt.alloc {w : World} {b : Nat} {h : Header} (H : HdAt w b h) (hb : b < w.heap.size) (o : Obj) : HdAt (w.alloc o) b h := H.below ((Below.refl _ _).alloc (Nat.le_refl _) o) hb
set_option maxRecDepth 100000 in
set_option maxHeartbeats 4000000 in
theorem hlay_err (h : Header) (hh : HdOk h) (w : World) (hg : Glob w) (ht : isType h.type = true) (he : (chain h).1 ≠ 0) :
    Calls Tryz.prog 60 #[hdV h] w fun e w' => e = .returned (.tuple #[.slice none 0 0, .int .i64 (chain h).1]) ∧ Below w.heap.size w w' := by
  have hT := fun W => head_IsType h.type W
  have hB := fun W => head_below h W
  obtain ⟨sF, hsF⟩ : ∃ s, chain h = s := ⟨_, rfl⟩
  have HSF := Lib.hid hsF
  rw [ht] at hT
  have HT := Lib.hid hT
  have mk : ∀ W : World, (Instr.makeSlice 31 (.int .i64 512) (.int .i64 512)).run Tryz.prog W = .ok (.slice (some ⟨W.heap.size, 0, none⟩) 512 512) (W.alloc (.cells (madeCells #[.int .u8 0] 512) 5)) := mk_bytes 512 (by omega)
  have HA0 : Hid (HdAt (((w.alloc (.cells #[.string (st h.pre), .string (st h.name), .int .i64 h.meta_.mode, .int .i64 h.meta_.uid, .int .i64 h.meta_.gid, .int .i64 h.meta_.mtime, .int .i64 h.size, .int .u8 (h.type.toNat : Int), .string (st h.link)] 43)).alloc (.cells (madeCells #[.int .u8 0] 512) 5)).alloc (.cells #[.slice (some ⟨w.heap.size + 1, 0, none⟩) 512 512, .int .i64 0] 140)) w.heap.size h) := Lib.hid (((HdAt.new w h 43).alloc (by simp) _).alloc (by simp; omega) _)
  have h00 : I64 0 := by constructor <;> decide
  obtain ⟨s0, hs0⟩ : ∃ s0 : Int × Bs, s0 = (0, noughts 512) := ⟨_, rfl⟩
  have HS0 := Lib.hid hs0
  have HL0 : Hid (Lyr (((w.alloc (.cells #[.string (st h.pre), .string (st h.name), .int .i64 h.meta_.mode, .int .i64 h.meta_.uid, .int .i64 h.meta_.gid, .int .i64 h.meta_.mtime, .int .i64 h.size, .int .u8 (h.type.toNat : Int), .string (st h.link)] 43)).alloc (.cells (madeCells #[.int .u8 0] 512) 5)).alloc (.cells #[.slice (some ⟨w.heap.size + 1, 0, none⟩) 512 512, .int .i64 0] 140)) (w.heap.size + 2) (w.heap.size + 1) s0.1 s0.2) := by
    refine Lib.hid ?_
    rw [hs0]
    exact lyr0 w _ _
  have HBW : Hid (Below w.heap.size w (((w.alloc (.cells #[.string (st h.pre), .string (st h.name), .int .i64 h.meta_.mode, .int .i64 h.meta_.uid, .int .i64 h.meta_.gid, .int .i64 h.meta_.mtime, .int .i64 h.size, .int .u8 (h.type.toNat : Int), .string (st h.link)] 43)).alloc (.cells (madeCells #[.int .u8 0] 512) 5)).alloc (.cells #[.slice (some ⟨w.heap.size + 1, 0, none⟩) 512 512, .int .i64 0] 140))) := Lib.hid ((((Below.refl _ w).alloc (Nat.le_refl _) _).alloc (by simp) _).alloc (by simp; omega) _)
  have HG0 : Hid (Glob (((w.alloc (.cells #[.string (st h.pre), .string (st h.name), .int .i64 h.meta_.mode, .int .i64 h.meta_.uid, .int .i64 h.meta_.gid, .int .i64 h.meta_.mtime, .int .i64 h.size, .int .u8 (h.type.toNat : Int), .string (st h.link)] 43)).alloc (.cells (madeCells #[.int .u8 0] 512) 5)).alloc (.cells #[.slice (some ⟨w.heap.size + 1, 0, none⟩) 512 512, .int .i64 0] 140))) := Lib.hid (hg.below HBW.out)
  have HB0 : Hid (Below (w.heap.size + 1) (((w.alloc (.cells #[.string (st h.pre), .string (st h.name), .int .i64 h.meta_.mode, .int .i64 h.meta_.uid, .int .i64 h.meta_.gid, .int .i64 h.meta_.mtime, .int .i64 h.size, .int .u8 (h.type.toNat : Int), .string (st h.link)] 43)).alloc (.cells (madeCells #[.int .u8 0] 512) 5)).alloc (.cells #[.slice (some ⟨w.heap.size + 1, 0, none⟩) 512 512, .int .i64 0] 140)) (((w.alloc (.cells #[.string (st h.pre), .string (st h.name), .int .i64 h.meta_.mode, .int .i64 h.meta_.uid, .int .i64 h.meta_.gid, .int .i64 h.meta_.mtime, .int .i64 h.size, .int .u8 (h.type.toNat : Int), .string (st h.link)] 43)).alloc (.cells (madeCells #[.int .u8 0] 512) 5)).alloc (.cells #[.slice (some ⟨w.heap.size + 1, 0, none⟩) 512 512, .int .i64 0] 140))) := Lib.hid (Below.refl _ _)
  have HW : Hid (w.heap.size + 3 = (((w.alloc (.cells #[.string (st h.pre), .string (st h.name), .int .i64 h.meta_.mode, .int .i64 h.meta_.uid, .int .i64 h.meta_.gid, .int .i64 h.meta_.mtime, .int .i64 h.size, .int .u8 (h.type.toNat : Int), .string (st h.link)] 43)).alloc (.cells (madeCells #[.int .u8 0] 512) 5)).alloc (.cells #[.slice (some ⟨w.heap.size + 1, 0, none⟩) 512 512, .int .i64 0] 140)).heap.size) := Lib.hid (by simp)
  obtain ⟨W0, hW0⟩ : ∃ W, (((w.alloc (.cells #[.string (st h.pre), .string (st h.name), .int .i64 h.meta_.mode, .int .i64 h.meta_.uid, .int .i64 h.meta_.gid, .int .i64 h.meta_.mtime, .int .i64 h.size, .int .u8 (h.type.toNat : Int), .string (st h.link)] 43)).alloc (.cells (madeCells #[.int .u8 0] 512) 5)).alloc (.cells #[.slice (some ⟨w.heap.size + 1, 0, none⟩) 512 512, .int .i64 0] 140)) = W := ⟨_, rfl⟩
  rw [hW0] at HA0 HL0 HBW HG0 HB0 HW
  have HW0 := Lib.hid hW0
  clear hW0
  rw [hsF] at he ⊢
  obtain ⟨p, n, ⟨m, u, g, t⟩, z, ty, k⟩ := h
  obtain ⟨hpl, hnl, hkl, hm, hu, hgi, htm, hz⟩ := hh
  simp only [] at hpl hnl hkl hm hu hgi htm hz hB hT
  have HBL := Lib.hid hB
  obtain ⟨E, l⟩ := sF
  simp only [] at he ⊢
  have hne : (E != 0) = true := by rw [bne_iff_ne]; exact he
  clear he
  have HGW := Lib.hid hg
  clear hT hsF ht hB hs0 hg
  unfold hdV at HBL ⊢
  simp only [] at HBL ⊢
  go_enter Tryz.func60, Tryz.ntmps60
  go_wp2_with (first | (go_at_call 68; go_must (refine (HT.out _).mono ?_); rintro e w1 ⟨rfl, rfl⟩) | (go_at_call 94; have hx := HL9; clear hx; go_must (refine (layer_number (w.heap.size + 2) (w.heap.size + 1) (w.heap.size + 1) 337 8 s9 0 _ HL9.out (by omega) (by omega) (by omega) (by omega) h00.1 h00.2).mono ?_); rintro en w10 ⟨rfl, hl, hb⟩; obtain ⟨s10, hs⟩ : ∃ s, stepF s9 337 (nPut 0 8).1 (nPut 0 8).2 = s := ⟨_, rfl⟩; rw [hs] at hl; have HS10 := Lib.hid hs; have HL10 := Lib.hid hl; have HB10 := Lib.hid (HB9.out.trans hb); have HG10 := Lib.hid (HGW.out.below (HBW.out.trans (HB10.out.mono (by omega)))); have HA10 := Lib.hid (HA9.out.below hb (by omega)); clear hs hl hb; have hEq : s10 = (E, l) := (by rw [← HSF.out, ← HS10.out, ← HS9.out, ← HS8.out, ← HS7.out, ← HS6.out, ← HS5.out, ← HS4.out, ← HS3.out, ← HS2.out, ← HS1.out, HS0.out]; rfl); have HLF : Hid (Lyr w10 (w.heap.size + 2) (w.heap.size + 1) (E, l).1 (E, l).2) := Lib.hid (hEq ▸ HL10.out); clear hEq; have d1 := HLF.out.cell1; have c10_0 := HA10.out 0 _ rfl; have c10_1 := HA10.out 1 _ rfl; have c10_2 := HA10.out 2 _ rfl; have c10_3 := HA10.out 3 _ rfl; have c10_4 := HA10.out 4 _ rfl; have c10_5 := HA10.out 5 _ rfl; have c10_6 := HA10.out 6 _ rfl; have c10_7 := HA10.out 7 _ rfl; have c10_8 := HA10.out 8 _ rfl) | (go_at_call 94; have hx := HL8; clear hx; go_must (refine (layer_number (w.heap.size + 2) (w.heap.size + 1) (w.heap.size + 1) 329 8 s8 0 _ HL8.out (by omega) (by omega) (by omega) (by omega) h00.1 h00.2).mono ?_); rintro en w9 ⟨rfl, hl, hb⟩; obtain ⟨s9, hs⟩ : ∃ s, stepF s8 329 (nPut 0 8).1 (nPut 0 8).2 = s := ⟨_, rfl⟩; rw [hs] at hl; have HS9 := Lib.hid hs; have HL9 := Lib.hid hl; have HB9 := Lib.hid (HB8.out.trans hb); have HG9 := Lib.hid (HGW.out.below (HBW.out.trans (HB9.out.mono (by omega)))); have HA9 := Lib.hid (HA8.out.below hb (by omega)); clear hs hl hb) | (go_at_call 94; have hx := HL7; clear hx; go_must (refine (layer_number (w.heap.size + 2) (w.heap.size + 1) (w.heap.size + 1) 136 12 s7 t _ HL7.out (by omega) (by omega) (by omega) (by omega) htm.1 htm.2).mono ?_); rintro en w8 ⟨rfl, hl, hb⟩; obtain ⟨s8, hs⟩ : ∃ s, stepF s7 136 (nPut t 12).1 (nPut t 12).2 = s := ⟨_, rfl⟩; rw [hs] at hl; have HS8 := Lib.hid hs; have HL8 := Lib.hid hl; have HB8 := Lib.hid (HB7.out.trans hb); have HG8 := Lib.hid (HGW.out.below (HBW.out.trans (HB8.out.mono (by omega)))); have HA8 := Lib.hid (HA7.out.below hb (by omega)); clear hs hl hb) | (go_at_call 94; have hx := HL6; clear hx; go_must (refine (layer_number (w.heap.size + 2) (w.heap.size + 1) (w.heap.size + 1) 124 12 s6 z _ HL6.out (by omega) (by omega) (by omega) (by omega) hz.1 hz.2).mono ?_); rintro en w7 ⟨rfl, hl, hb⟩; obtain ⟨s7, hs⟩ : ∃ s, stepF s6 124 (nPut z 12).1 (nPut z 12).2 = s := ⟨_, rfl⟩; rw [hs] at hl; have HS7 := Lib.hid hs; have HL7 := Lib.hid hl; have HB7 := Lib.hid (HB6.out.trans hb); have HG7 := Lib.hid (HGW.out.below (HBW.out.trans (HB7.out.mono (by omega)))); have HA7 := Lib.hid (HA6.out.below hb (by omega)); clear hs hl hb; have c7_5 := HA7.out 5 _ rfl) | (go_at_call 94; have hx := HL5; clear hx; go_must (refine (layer_number (w.heap.size + 2) (w.heap.size + 1) (w.heap.size + 1) 116 8 s5 g _ HL5.out (by omega) (by omega) (by omega) (by omega) hgi.1 hgi.2).mono ?_); rintro en w6 ⟨rfl, hl, hb⟩; obtain ⟨s6, hs⟩ : ∃ s, stepF s5 116 (nPut g 8).1 (nPut g 8).2 = s := ⟨_, rfl⟩; rw [hs] at hl; have HS6 := Lib.hid hs; have HL6 := Lib.hid hl; have HB6 := Lib.hid (HB5.out.trans hb); have HG6 := Lib.hid (HGW.out.below (HBW.out.trans (HB6.out.mono (by omega)))); have HA6 := Lib.hid (HA5.out.below hb (by omega)); clear hs hl hb; have c6_6 := HA6.out 6 _ rfl) | (go_at_call 94; have hx := HL4; clear hx; go_must (refine (layer_number (w.heap.size + 2) (w.heap.size + 1) (w.heap.size + 1) 108 8 s4 u _ HL4.out (by omega) (by omega) (by omega) (by omega) hu.1 hu.2).mono ?_); rintro en w5 ⟨rfl, hl, hb⟩; obtain ⟨s5, hs⟩ : ∃ s, stepF s4 108 (nPut u 8).1 (nPut u 8).2 = s := ⟨_, rfl⟩; rw [hs] at hl; have HS5 := Lib.hid hs; have HL5 := Lib.hid hl; have HB5 := Lib.hid (HB4.out.trans hb); have HG5 := Lib.hid (HGW.out.below (HBW.out.trans (HB5.out.mono (by omega)))); have HA5 := Lib.hid (HA4.out.below hb (by omega)); clear hs hl hb; have c5_4 := HA5.out 4 _ rfl) | (go_at_call 94; have hx := HL3; clear hx; go_must (refine (layer_number (w.heap.size + 2) (w.heap.size + 1) (w.heap.size + 1) 100 8 s3 m _ HL3.out (by omega) (by omega) (by omega) (by omega) hm.1 hm.2).mono ?_); rintro en w4 ⟨rfl, hl, hb⟩; obtain ⟨s4, hs⟩ : ∃ s, stepF s3 100 (nPut m 8).1 (nPut m 8).2 = s := ⟨_, rfl⟩; rw [hs] at hl; have HS4 := Lib.hid hs; have HL4 := Lib.hid hl; have HB4 := Lib.hid (HB3.out.trans hb); have HG4 := Lib.hid (HGW.out.below (HBW.out.trans (HB4.out.mono (by omega)))); have HA4 := Lib.hid (HA3.out.below hb (by omega)); clear hs hl hb; have c4_3 := HA4.out 3 _ rfl) | (go_at_call 93; have hx := HL2; clear hx; go_must (refine (layer_text (w.heap.size + 2) (w.heap.size + 1) (w.heap.size + 1) 157 100 s2 k _ HL2.out (by omega) (by omega) (by omega) (by omega) (by omega) (by omega) HG2.out).mono ?_); rintro en w3 ⟨rfl, hl, hb⟩; obtain ⟨s3, hs⟩ : ∃ s, stepF s2 157 (sPut k 100).1 (sPut k 100).2 = s := ⟨_, rfl⟩; rw [hs] at hl; have HS3 := Lib.hid hs; have HL3 := Lib.hid hl; have HB3 := Lib.hid (HB2.out.trans hb); have HG3 := Lib.hid (HGW.out.below (HBW.out.trans (HB3.out.mono (by omega)))); have HA3 := Lib.hid (HA2.out.below hb (by omega)); clear hs hl hb; have c3_2 := HA3.out 2 _ rfl) | (go_at_call 93; have hx := HL1; clear hx; go_must (refine (layer_text (w.heap.size + 2) (w.heap.size + 1) (w.heap.size + 1) 0 100 s1 n _ HL1.out (by omega) (by omega) (by omega) (by omega) (by omega) (by omega) HG1.out).mono ?_); rintro en w2 ⟨rfl, hl, hb⟩; obtain ⟨s2, hs⟩ : ∃ s, stepF s1 0 (sPut n 100).1 (sPut n 100).2 = s := ⟨_, rfl⟩; rw [hs] at hl; have HS2 := Lib.hid hs; have HL2 := Lib.hid hl; have HB2 := Lib.hid (HB1.out.trans hb); have HG2 := Lib.hid (HGW.out.below (HBW.out.trans (HB2.out.mono (by omega)))); have HA2 := Lib.hid (HA1.out.below hb (by omega)); clear hs hl hb; have c2_8 := HA2.out 8 _ rfl) | (go_at_call 93; have hx := HL0; clear hx; rw [HW0.out]; go_must (refine (layer_text (w.heap.size + 2) (w.heap.size + 1) (w.heap.size + 1) 345 155 s0 p _ HL0.out (by omega) (by omega) (by omega) (by omega) (by omega) (by omega) HG0.out).mono ?_); rintro en w1 ⟨rfl, hl, hb⟩; obtain ⟨s1, hs⟩ : ∃ s, stepF s0 345 (sPut p 155).1 (sPut p 155).2 = s := ⟨_, rfl⟩; rw [hs] at hl; have HS1 := Lib.hid hs; have HL1 := Lib.hid hl; have HB1 := Lib.hid (HB0.out.trans hb); have HG1 := Lib.hid (HGW.out.below (HBW.out.trans (HB1.out.mono (by omega)))); have HA1 := Lib.hid (HA0.out.below hb (by omega)); clear hs hl hb; have c1_1 := HA1.out 1 _ rfl))
  go_region
  go_wp2
  go_ret2
  exact ⟨rfl, (HBW.out.trans (HB10.out.mono (by omega))).drew⟩
set_option maxRecDepth 100000 in
set_option maxHeartbeats 4000000 in
theorem hlay_big (h : Header) (hh : HdOk h) (w : World) (hg : Glob w) (ht : isType h.type = true) (he : (chain h).1 = 0) (hb : hdBelow h = true) :
    Calls Tryz.prog 60 #[hdV h] w fun e w' => e = .returned (.tuple #[.slice none 0 0, .int .i64 10]) ∧ Below w.heap.size w w' := by
  have hT := fun W => head_IsType h.type W
  have hB := fun W => head_below h W
  obtain ⟨sF, hsF⟩ : ∃ s, chain h = s := ⟨_, rfl⟩
  have HSF := Lib.hid hsF
  rw [ht] at hT
  have HT := Lib.hid hT
  have mk : ∀ W : World, (Instr.makeSlice 31 (.int .i64 512) (.int .i64 512)).run Tryz.prog W = .ok (.slice (some ⟨W.heap.size, 0, none⟩) 512 512) (W.alloc (.cells (madeCells #[.int .u8 0] 512) 5)) := mk_bytes 512 (by omega)
  have HA0 : Hid (HdAt (((w.alloc (.cells #[.string (st h.pre), .string (st h.name), .int .i64 h.meta_.mode, .int .i64 h.meta_.uid, .int .i64 h.meta_.gid, .int .i64 h.meta_.mtime, .int .i64 h.size, .int .u8 (h.type.toNat : Int), .string (st h.link)] 43)).alloc (.cells (madeCells #[.int .u8 0] 512) 5)).alloc (.cells #[.slice (some ⟨w.heap.size + 1, 0, none⟩) 512 512, .int .i64 0] 140)) w.heap.size h) := Lib.hid (((HdAt.new w h 43).alloc (by simp) _).alloc (by simp; omega) _)
  have h00 : I64 0 := by constructor <;> decide
  obtain ⟨s0, hs0⟩ : ∃ s0 : Int × Bs, s0 = (0, noughts 512) := ⟨_, rfl⟩
  have HS0 := Lib.hid hs0
  have HL0 : Hid (Lyr (((w.alloc (.cells #[.string (st h.pre), .string (st h.name), .int .i64 h.meta_.mode, .int .i64 h.meta_.uid, .int .i64 h.meta_.gid, .int .i64 h.meta_.mtime, .int .i64 h.size, .int .u8 (h.type.toNat : Int), .string (st h.link)] 43)).alloc (.cells (madeCells #[.int .u8 0] 512) 5)).alloc (.cells #[.slice (some ⟨w.heap.size + 1, 0, none⟩) 512 512, .int .i64 0] 140)) (w.heap.size + 2) (w.heap.size + 1) s0.1 s0.2) := by
    refine Lib.hid ?_
    rw [hs0]
    exact lyr0 w _ _
  have HBW : Hid (Below w.heap.size w (((w.alloc (.cells #[.string (st h.pre), .string (st h.name), .int .i64 h.meta_.mode, .int .i64 h.meta_.uid, .int .i64 h.meta_.gid, .int .i64 h.meta_.mtime, .int .i64 h.size, .int .u8 (h.type.toNat : Int), .string (st h.link)] 43)).alloc (.cells (madeCells #[.int .u8 0] 512) 5)).alloc (.cells #[.slice (some ⟨w.heap.size + 1, 0, none⟩) 512 512, .int .i64 0] 140))) := Lib.hid ((((Below.refl _ w).alloc (Nat.le_refl _) _).alloc (by simp) _).alloc (by simp; omega) _)
  have HG0 : Hid (Glob (((w.alloc (.cells #[.string (st h.pre), .string (st h.name), .int .i64 h.meta_.mode, .int .i64 h.meta_.uid, .int .i64 h.meta_.gid, .int .i64 h.meta_.mtime, .int .i64 h.size, .int .u8 (h.type.toNat : Int), .string (st h.link)] 43)).alloc (.cells (madeCells #[.int .u8 0] 512) 5)).alloc (.cells #[.slice (some ⟨w.heap.size + 1, 0, none⟩) 512 512, .int .i64 0] 140))) := Lib.hid (hg.below HBW.out)
  have HB0 : Hid (Below (w.heap.size + 1) (((w.alloc (.cells #[.string (st h.pre), .string (st h.name), .int .i64 h.meta_.mode, .int .i64 h.meta_.uid, .int .i64 h.meta_.gid, .int .i64 h.meta_.mtime, .int .i64 h.size, .int .u8 (h.type.toNat : Int), .string (st h.link)] 43)).alloc (.cells (madeCells #[.int .u8 0] 512) 5)).alloc (.cells #[.slice (some ⟨w.heap.size + 1, 0, none⟩) 512 512, .int .i64 0] 140)) (((w.alloc (.cells #[.string (st h.pre), .string (st h.name), .int .i64 h.meta_.mode, .int .i64 h.meta_.uid, .int .i64 h.meta_.gid, .int .i64 h.meta_.mtime, .int .i64 h.size, .int .u8 (h.type.toNat : Int), .string (st h.link)] 43)).alloc (.cells (madeCells #[.int .u8 0] 512) 5)).alloc (.cells #[.slice (some ⟨w.heap.size + 1, 0, none⟩) 512 512, .int .i64 0] 140))) := Lib.hid (Below.refl _ _)
  have HW : Hid (w.heap.size + 3 = (((w.alloc (.cells #[.string (st h.pre), .string (st h.name), .int .i64 h.meta_.mode, .int .i64 h.meta_.uid, .int .i64 h.meta_.gid, .int .i64 h.meta_.mtime, .int .i64 h.size, .int .u8 (h.type.toNat : Int), .string (st h.link)] 43)).alloc (.cells (madeCells #[.int .u8 0] 512) 5)).alloc (.cells #[.slice (some ⟨w.heap.size + 1, 0, none⟩) 512 512, .int .i64 0] 140)).heap.size) := Lib.hid (by simp)
  obtain ⟨W0, hW0⟩ : ∃ W, (((w.alloc (.cells #[.string (st h.pre), .string (st h.name), .int .i64 h.meta_.mode, .int .i64 h.meta_.uid, .int .i64 h.meta_.gid, .int .i64 h.meta_.mtime, .int .i64 h.size, .int .u8 (h.type.toNat : Int), .string (st h.link)] 43)).alloc (.cells (madeCells #[.int .u8 0] 512) 5)).alloc (.cells #[.slice (some ⟨w.heap.size + 1, 0, none⟩) 512 512, .int .i64 0] 140)) = W := ⟨_, rfl⟩
  rw [hW0] at HA0 HL0 HBW HG0 HB0 HW
  have HW0 := Lib.hid hW0
  clear hW0
  rw [hsF] at he
  have HBF := Lib.hid hb
  clear hb
  obtain ⟨p, n, ⟨m, u, g, t⟩, z, ty, k⟩ := h
  obtain ⟨hpl, hnl, hkl, hm, hu, hgi, htm, hz⟩ := hh
  simp only [] at hpl hnl hkl hm hu hgi htm hz hB hT
  have HBL := Lib.hid hB
  obtain ⟨E, l⟩ := sF
  simp only [] at he
  subst he
  have HGW := Lib.hid hg
  clear hT hsF ht hB hs0 hg
  unfold hdV at HBL ⊢
  simp only [] at HBL ⊢
  go_enter Tryz.func60, Tryz.ntmps60
  go_wp2_with (first | (go_at_call 68; go_must (refine (HT.out _).mono ?_); rintro e w1 ⟨rfl, rfl⟩) | (go_at_call 69; go_must (refine (HBL.out _).mono ?_); rintro en w11 ⟨rfl, hb⟩; rw [HBF.out]; have HB11 := Lib.hid hb; have HL11 := Lib.hid (HLF.out.below hb); have HA11 := Lib.hid (HA10.out.below hb (by have := HLF.out.lt; omega)); clear hb; have e0 := HL11.out.cell0; have e7 := HA11.out 7 _ rfl; have eb := HL11.out.blk.cell (i := 156) (by rw [HL11.out.len]; omega); have ef := HL11.out.blk.frozen 156) | (go_at_call 94; have hx := HL9; clear hx; go_must (refine (layer_number (w.heap.size + 2) (w.heap.size + 1) (w.heap.size + 1) 337 8 s9 0 _ HL9.out (by omega) (by omega) (by omega) (by omega) h00.1 h00.2).mono ?_); rintro en w10 ⟨rfl, hl, hb⟩; obtain ⟨s10, hs⟩ : ∃ s, stepF s9 337 (nPut 0 8).1 (nPut 0 8).2 = s := ⟨_, rfl⟩; rw [hs] at hl; have HS10 := Lib.hid hs; have HL10 := Lib.hid hl; have HB10 := Lib.hid (HB9.out.trans hb); have HG10 := Lib.hid (HGW.out.below (HBW.out.trans (HB10.out.mono (by omega)))); have HA10 := Lib.hid (HA9.out.below hb (by omega)); clear hs hl hb; have hEq : s10 = ((0 : Int), l) := (by rw [← HSF.out, ← HS10.out, ← HS9.out, ← HS8.out, ← HS7.out, ← HS6.out, ← HS5.out, ← HS4.out, ← HS3.out, ← HS2.out, ← HS1.out, HS0.out]; rfl); have HLF : Hid (Lyr w10 (w.heap.size + 2) (w.heap.size + 1) ((0 : Int), l).1 ((0 : Int), l).2) := Lib.hid (hEq ▸ HL10.out); clear hEq; have d1 := HLF.out.cell1; have c10_0 := HA10.out 0 _ rfl; have c10_1 := HA10.out 1 _ rfl; have c10_2 := HA10.out 2 _ rfl; have c10_3 := HA10.out 3 _ rfl; have c10_4 := HA10.out 4 _ rfl; have c10_5 := HA10.out 5 _ rfl; have c10_6 := HA10.out 6 _ rfl; have c10_7 := HA10.out 7 _ rfl; have c10_8 := HA10.out 8 _ rfl) | (go_at_call 94; have hx := HL8; clear hx; go_must (refine (layer_number (w.heap.size + 2) (w.heap.size + 1) (w.heap.size + 1) 329 8 s8 0 _ HL8.out (by omega) (by omega) (by omega) (by omega) h00.1 h00.2).mono ?_); rintro en w9 ⟨rfl, hl, hb⟩; obtain ⟨s9, hs⟩ : ∃ s, stepF s8 329 (nPut 0 8).1 (nPut 0 8).2 = s := ⟨_, rfl⟩; rw [hs] at hl; have HS9 := Lib.hid hs; have HL9 := Lib.hid hl; have HB9 := Lib.hid (HB8.out.trans hb); have HG9 := Lib.hid (HGW.out.below (HBW.out.trans (HB9.out.mono (by omega)))); have HA9 := Lib.hid (HA8.out.below hb (by omega)); clear hs hl hb) | (go_at_call 94; have hx := HL7; clear hx; go_must (refine (layer_number (w.heap.size + 2) (w.heap.size + 1) (w.heap.size + 1) 136 12 s7 t _ HL7.out (by omega) (by omega) (by omega) (by omega) htm.1 htm.2).mono ?_); rintro en w8 ⟨rfl, hl, hb⟩; obtain ⟨s8, hs⟩ : ∃ s, stepF s7 136 (nPut t 12).1 (nPut t 12).2 = s := ⟨_, rfl⟩; rw [hs] at hl; have HS8 := Lib.hid hs; have HL8 := Lib.hid hl; have HB8 := Lib.hid (HB7.out.trans hb); have HG8 := Lib.hid (HGW.out.below (HBW.out.trans (HB8.out.mono (by omega)))); have HA8 := Lib.hid (HA7.out.below hb (by omega)); clear hs hl hb) | (go_at_call 94; have hx := HL6; clear hx; go_must (refine (layer_number (w.heap.size + 2) (w.heap.size + 1) (w.heap.size + 1) 124 12 s6 z _ HL6.out (by omega) (by omega) (by omega) (by omega) hz.1 hz.2).mono ?_); rintro en w7 ⟨rfl, hl, hb⟩; obtain ⟨s7, hs⟩ : ∃ s, stepF s6 124 (nPut z 12).1 (nPut z 12).2 = s := ⟨_, rfl⟩; rw [hs] at hl; have HS7 := Lib.hid hs; have HL7 := Lib.hid hl; have HB7 := Lib.hid (HB6.out.trans hb); have HG7 := Lib.hid (HGW.out.below (HBW.out.trans (HB7.out.mono (by omega)))); have HA7 := Lib.hid (HA6.out.below hb (by omega)); clear hs hl hb; have c7_5 := HA7.out 5 _ rfl) | (go_at_call 94; have hx := HL5; clear hx; go_must (refine (layer_number (w.heap.size + 2) (w.heap.size + 1) (w.heap.size + 1) 116 8 s5 g _ HL5.out (by omega) (by omega) (by omega) (by omega) hgi.1 hgi.2).mono ?_); rintro en w6 ⟨rfl, hl, hb⟩; obtain ⟨s6, hs⟩ : ∃ s, stepF s5 116 (nPut g 8).1 (nPut g 8).2 = s := ⟨_, rfl⟩; rw [hs] at hl; have HS6 := Lib.hid hs; have HL6 := Lib.hid hl; have HB6 := Lib.hid (HB5.out.trans hb); have HG6 := Lib.hid (HGW.out.below (HBW.out.trans (HB6.out.mono (by omega)))); have HA6 := Lib.hid (HA5.out.below hb (by omega)); clear hs hl hb; have c6_6 := HA6.out 6 _ rfl) | (go_at_call 94; have hx := HL4; clear hx; go_must (refine (layer_number (w.heap.size + 2) (w.heap.size + 1) (w.heap.size + 1) 108 8 s4 u _ HL4.out (by omega) (by omega) (by omega) (by omega) hu.1 hu.2).mono ?_); rintro en w5 ⟨rfl, hl, hb⟩; obtain ⟨s5, hs⟩ : ∃ s, stepF s4 108 (nPut u 8).1 (nPut u 8).2 = s := ⟨_, rfl⟩; rw [hs] at hl; have HS5 := Lib.hid hs; have HL5 := Lib.hid hl; have HB5 := Lib.hid (HB4.out.trans hb); have HG5 := Lib.hid (HGW.out.below (HBW.out.trans (HB5.out.mono (by omega)))); have HA5 := Lib.hid (HA4.out.below hb (by omega)); clear hs hl hb; have c5_4 := HA5.out 4 _ rfl) | (go_at_call 94; have hx := HL3; clear hx; go_must (refine (layer_number (w.heap.size + 2) (w.heap.size + 1) (w.heap.size + 1) 100 8 s3 m _ HL3.out (by omega) (by omega) (by omega) (by omega) hm.1 hm.2).mono ?_); rintro en w4 ⟨rfl, hl, hb⟩; obtain ⟨s4, hs⟩ : ∃ s, stepF s3 100 (nPut m 8).1 (nPut m 8).2 = s := ⟨_, rfl⟩; rw [hs] at hl; have HS4 := Lib.hid hs; have HL4 := Lib.hid hl; have HB4 := Lib.hid (HB3.out.trans hb); have HG4 := Lib.hid (HGW.out.below (HBW.out.trans (HB4.out.mono (by omega)))); have HA4 := Lib.hid (HA3.out.below hb (by omega)); clear hs hl hb; have c4_3 := HA4.out 3 _ rfl) | (go_at_call 93; have hx := HL2; clear hx; go_must (refine (layer_text (w.heap.size + 2) (w.heap.size + 1) (w.heap.size + 1) 157 100 s2 k _ HL2.out (by omega) (by omega) (by omega) (by omega) (by omega) (by omega) HG2.out).mono ?_); rintro en w3 ⟨rfl, hl, hb⟩; obtain ⟨s3, hs⟩ : ∃ s, stepF s2 157 (sPut k 100).1 (sPut k 100).2 = s := ⟨_, rfl⟩; rw [hs] at hl; have HS3 := Lib.hid hs; have HL3 := Lib.hid hl; have HB3 := Lib.hid (HB2.out.trans hb); have HG3 := Lib.hid (HGW.out.below (HBW.out.trans (HB3.out.mono (by omega)))); have HA3 := Lib.hid (HA2.out.below hb (by omega)); clear hs hl hb; have c3_2 := HA3.out 2 _ rfl) | (go_at_call 93; have hx := HL1; clear hx; go_must (refine (layer_text (w.heap.size + 2) (w.heap.size + 1) (w.heap.size + 1) 0 100 s1 n _ HL1.out (by omega) (by omega) (by omega) (by omega) (by omega) (by omega) HG1.out).mono ?_); rintro en w2 ⟨rfl, hl, hb⟩; obtain ⟨s2, hs⟩ : ∃ s, stepF s1 0 (sPut n 100).1 (sPut n 100).2 = s := ⟨_, rfl⟩; rw [hs] at hl; have HS2 := Lib.hid hs; have HL2 := Lib.hid hl; have HB2 := Lib.hid (HB1.out.trans hb); have HG2 := Lib.hid (HGW.out.below (HBW.out.trans (HB2.out.mono (by omega)))); have HA2 := Lib.hid (HA1.out.below hb (by omega)); clear hs hl hb; have c2_8 := HA2.out 8 _ rfl) | (go_at_call 93; have hx := HL0; clear hx; rw [HW0.out]; go_must (refine (layer_text (w.heap.size + 2) (w.heap.size + 1) (w.heap.size + 1) 345 155 s0 p _ HL0.out (by omega) (by omega) (by omega) (by omega) (by omega) (by omega) HG0.out).mono ?_); rintro en w1 ⟨rfl, hl, hb⟩; obtain ⟨s1, hs⟩ : ∃ s, stepF s0 345 (sPut p 155).1 (sPut p 155).2 = s := ⟨_, rfl⟩; rw [hs] at hl; have HS1 := Lib.hid hs; have HL1 := Lib.hid hl; have HB1 := Lib.hid (HB0.out.trans hb); have HG1 := Lib.hid (HGW.out.below (HBW.out.trans (HB1.out.mono (by omega)))); have HA1 := Lib.hid (HA0.out.below hb (by omega)); clear hs hl hb; have c1_1 := HA1.out 1 _ rfl))
  go_ret2
  exact ⟨rfl, (HBW.out.trans (HB10.out.mono (by omega))).trans (HB11.out.mono (by have := HLF.out.lt; omega))⟩
set_option maxRecDepth 100000 in
set_option maxHeartbeats 4000000 in
theorem hlay_ok (h : Header) (hh : HdOk h) (w : World) (hg : Glob w) (ht : isType h.type = true) (he : (chain h).1 = 0) (hb : hdBelow h = false) :
    Calls Tryz.prog 60 #[hdV h] w fun e w' => ∃ v, e = .returned (.tuple #[v, .int .i64 0]) ∧ w'.ownsRow w.heap.size 5 1 v 512 (bcs (hPut (splice ((chain h).2.set 156 h.type) 257 ustar))) ∧ Below w.heap.size w w' := by
  have hT := fun W => head_IsType h.type W
  have hB := fun W => head_below h W
  obtain ⟨sF, hsF⟩ : ∃ s, chain h = s := ⟨_, rfl⟩
  have HSF := Lib.hid hsF
  rw [ht] at hT
  have HT := Lib.hid hT
  have mk : ∀ W : World, (Instr.makeSlice 31 (.int .i64 512) (.int .i64 512)).run Tryz.prog W = .ok (.slice (some ⟨W.heap.size, 0, none⟩) 512 512) (W.alloc (.cells (madeCells #[.int .u8 0] 512) 5)) := mk_bytes 512 (by omega)
  have HA0 : Hid (HdAt (((w.alloc (.cells #[.string (st h.pre), .string (st h.name), .int .i64 h.meta_.mode, .int .i64 h.meta_.uid, .int .i64 h.meta_.gid, .int .i64 h.meta_.mtime, .int .i64 h.size, .int .u8 (h.type.toNat : Int), .string (st h.link)] 43)).alloc (.cells (madeCells #[.int .u8 0] 512) 5)).alloc (.cells #[.slice (some ⟨w.heap.size + 1, 0, none⟩) 512 512, .int .i64 0] 140)) w.heap.size h) := Lib.hid (((HdAt.new w h 43).alloc (by simp) _).alloc (by simp; omega) _)
  have h00 : I64 0 := by constructor <;> decide
  obtain ⟨s0, hs0⟩ : ∃ s0 : Int × Bs, s0 = (0, noughts 512) := ⟨_, rfl⟩
  have HS0 := Lib.hid hs0
  have HL0 : Hid (Lyr (((w.alloc (.cells #[.string (st h.pre), .string (st h.name), .int .i64 h.meta_.mode, .int .i64 h.meta_.uid, .int .i64 h.meta_.gid, .int .i64 h.meta_.mtime, .int .i64 h.size, .int .u8 (h.type.toNat : Int), .string (st h.link)] 43)).alloc (.cells (madeCells #[.int .u8 0] 512) 5)).alloc (.cells #[.slice (some ⟨w.heap.size + 1, 0, none⟩) 512 512, .int .i64 0] 140)) (w.heap.size + 2) (w.heap.size + 1) s0.1 s0.2) := by
    refine Lib.hid ?_
    rw [hs0]
    exact lyr0 w _ _
  have HBW : Hid (Below w.heap.size w (((w.alloc (.cells #[.string (st h.pre), .string (st h.name), .int .i64 h.meta_.mode, .int .i64 h.meta_.uid, .int .i64 h.meta_.gid, .int .i64 h.meta_.mtime, .int .i64 h.size, .int .u8 (h.type.toNat : Int), .string (st h.link)] 43)).alloc (.cells (madeCells #[.int .u8 0] 512) 5)).alloc (.cells #[.slice (some ⟨w.heap.size + 1, 0, none⟩) 512 512, .int .i64 0] 140))) := Lib.hid ((((Below.refl _ w).alloc (Nat.le_refl _) _).alloc (by simp) _).alloc (by simp; omega) _)
  have HG0 : Hid (Glob (((w.alloc (.cells #[.string (st h.pre), .string (st h.name), .int .i64 h.meta_.mode, .int .i64 h.meta_.uid, .int .i64 h.meta_.gid, .int .i64 h.meta_.mtime, .int .i64 h.size, .int .u8 (h.type.toNat : Int), .string (st h.link)] 43)).alloc (.cells (madeCells #[.int .u8 0] 512) 5)).alloc (.cells #[.slice (some ⟨w.heap.size + 1, 0, none⟩) 512 512, .int .i64 0] 140))) := Lib.hid (hg.below HBW.out)
  have HB0 : Hid (Below (w.heap.size + 1) (((w.alloc (.cells #[.string (st h.pre), .string (st h.name), .int .i64 h.meta_.mode, .int .i64 h.meta_.uid, .int .i64 h.meta_.gid, .int .i64 h.meta_.mtime, .int .i64 h.size, .int .u8 (h.type.toNat : Int), .string (st h.link)] 43)).alloc (.cells (madeCells #[.int .u8 0] 512) 5)).alloc (.cells #[.slice (some ⟨w.heap.size + 1, 0, none⟩) 512 512, .int .i64 0] 140)) (((w.alloc (.cells #[.string (st h.pre), .string (st h.name), .int .i64 h.meta_.mode, .int .i64 h.meta_.uid, .int .i64 h.meta_.gid, .int .i64 h.meta_.mtime, .int .i64 h.size, .int .u8 (h.type.toNat : Int), .string (st h.link)] 43)).alloc (.cells (madeCells #[.int .u8 0] 512) 5)).alloc (.cells #[.slice (some ⟨w.heap.size + 1, 0, none⟩) 512 512, .int .i64 0] 140))) := Lib.hid (Below.refl _ _)
  have HW : Hid (w.heap.size + 3 = (((w.alloc (.cells #[.string (st h.pre), .string (st h.name), .int .i64 h.meta_.mode, .int .i64 h.meta_.uid, .int .i64 h.meta_.gid, .int .i64 h.meta_.mtime, .int .i64 h.size, .int .u8 (h.type.toNat : Int), .string (st h.link)] 43)).alloc (.cells (madeCells #[.int .u8 0] 512) 5)).alloc (.cells #[.slice (some ⟨w.heap.size + 1, 0, none⟩) 512 512, .int .i64 0] 140)).heap.size) := Lib.hid (by simp)
  obtain ⟨W0, hW0⟩ : ∃ W, (((w.alloc (.cells #[.string (st h.pre), .string (st h.name), .int .i64 h.meta_.mode, .int .i64 h.meta_.uid, .int .i64 h.meta_.gid, .int .i64 h.meta_.mtime, .int .i64 h.size, .int .u8 (h.type.toNat : Int), .string (st h.link)] 43)).alloc (.cells (madeCells #[.int .u8 0] 512) 5)).alloc (.cells #[.slice (some ⟨w.heap.size + 1, 0, none⟩) 512 512, .int .i64 0] 140)) = W := ⟨_, rfl⟩
  rw [hW0] at HA0 HL0 HBW HG0 HB0 HW
  have HW0 := Lib.hid hW0
  clear hW0
  rw [hsF] at he ⊢
  have HBF := Lib.hid hb
  clear hb
  obtain ⟨p, n, ⟨m, u, g, t⟩, z, ty, k⟩ := h
  obtain ⟨hpl, hnl, hkl, hm, hu, hgi, htm, hz⟩ := hh
  simp only [] at hpl hnl hkl hm hu hgi htm hz hB hT
  have HBL := Lib.hid hB
  obtain ⟨E, l⟩ := sF
  simp only [] at he ⊢
  subst he
  have HGW := Lib.hid hg
  clear hT hsF ht hB hs0 hg
  unfold hdV at HBL ⊢
  simp only [] at HBL ⊢
  go_enter Tryz.func60, Tryz.ntmps60
  go_wp2_with (first | (go_at_call 68; go_must (refine (HT.out _).mono ?_); rintro e w1 ⟨rfl, rfl⟩) | (go_at_call 69; go_must (refine (HBL.out _).mono ?_); rintro en w11 ⟨rfl, hb⟩; rw [HBF.out]; have HB11 := Lib.hid hb; have HL11 := Lib.hid (HLF.out.below hb); have HA11 := Lib.hid (HA10.out.below hb (by have := HLF.out.lt; omega)); clear hb; have e0 := HL11.out.cell0; have e7 := HA11.out 7 _ rfl; have eb := HL11.out.blk.cell (i := 156) (by rw [HL11.out.len]; omega); have ef := HL11.out.blk.frozen 156) | (go_at_call 94; have hx := HL9; clear hx; go_must (refine (layer_number (w.heap.size + 2) (w.heap.size + 1) (w.heap.size + 1) 337 8 s9 0 _ HL9.out (by omega) (by omega) (by omega) (by omega) h00.1 h00.2).mono ?_); rintro en w10 ⟨rfl, hl, hb⟩; obtain ⟨s10, hs⟩ : ∃ s, stepF s9 337 (nPut 0 8).1 (nPut 0 8).2 = s := ⟨_, rfl⟩; rw [hs] at hl; have HS10 := Lib.hid hs; have HL10 := Lib.hid hl; have HB10 := Lib.hid (HB9.out.trans hb); have HG10 := Lib.hid (HGW.out.below (HBW.out.trans (HB10.out.mono (by omega)))); have HA10 := Lib.hid (HA9.out.below hb (by omega)); clear hs hl hb; have hEq : s10 = ((0 : Int), l) := (by rw [← HSF.out, ← HS10.out, ← HS9.out, ← HS8.out, ← HS7.out, ← HS6.out, ← HS5.out, ← HS4.out, ← HS3.out, ← HS2.out, ← HS1.out, HS0.out]; rfl); have HLF : Hid (Lyr w10 (w.heap.size + 2) (w.heap.size + 1) ((0 : Int), l).1 ((0 : Int), l).2) := Lib.hid (hEq ▸ HL10.out); clear hEq; have d1 := HLF.out.cell1; have c10_0 := HA10.out 0 _ rfl; have c10_1 := HA10.out 1 _ rfl; have c10_2 := HA10.out 2 _ rfl; have c10_3 := HA10.out 3 _ rfl; have c10_4 := HA10.out 4 _ rfl; have c10_5 := HA10.out 5 _ rfl; have c10_6 := HA10.out 6 _ rfl; have c10_7 := HA10.out 7 _ rfl; have c10_8 := HA10.out 8 _ rfl) | (go_at_call 94; have hx := HL8; clear hx; go_must (refine (layer_number (w.heap.size + 2) (w.heap.size + 1) (w.heap.size + 1) 329 8 s8 0 _ HL8.out (by omega) (by omega) (by omega) (by omega) h00.1 h00.2).mono ?_); rintro en w9 ⟨rfl, hl, hb⟩; obtain ⟨s9, hs⟩ : ∃ s, stepF s8 329 (nPut 0 8).1 (nPut 0 8).2 = s := ⟨_, rfl⟩; rw [hs] at hl; have HS9 := Lib.hid hs; have HL9 := Lib.hid hl; have HB9 := Lib.hid (HB8.out.trans hb); have HG9 := Lib.hid (HGW.out.below (HBW.out.trans (HB9.out.mono (by omega)))); have HA9 := Lib.hid (HA8.out.below hb (by omega)); clear hs hl hb) | (go_at_call 94; have hx := HL7; clear hx; go_must (refine (layer_number (w.heap.size + 2) (w.heap.size + 1) (w.heap.size + 1) 136 12 s7 t _ HL7.out (by omega) (by omega) (by omega) (by omega) htm.1 htm.2).mono ?_); rintro en w8 ⟨rfl, hl, hb⟩; obtain ⟨s8, hs⟩ : ∃ s, stepF s7 136 (nPut t 12).1 (nPut t 12).2 = s := ⟨_, rfl⟩; rw [hs] at hl; have HS8 := Lib.hid hs; have HL8 := Lib.hid hl; have HB8 := Lib.hid (HB7.out.trans hb); have HG8 := Lib.hid (HGW.out.below (HBW.out.trans (HB8.out.mono (by omega)))); have HA8 := Lib.hid (HA7.out.below hb (by omega)); clear hs hl hb) | (go_at_call 94; have hx := HL6; clear hx; go_must (refine (layer_number (w.heap.size + 2) (w.heap.size + 1) (w.heap.size + 1) 124 12 s6 z _ HL6.out (by omega) (by omega) (by omega) (by omega) hz.1 hz.2).mono ?_); rintro en w7 ⟨rfl, hl, hb⟩; obtain ⟨s7, hs⟩ : ∃ s, stepF s6 124 (nPut z 12).1 (nPut z 12).2 = s := ⟨_, rfl⟩; rw [hs] at hl; have HS7 := Lib.hid hs; have HL7 := Lib.hid hl; have HB7 := Lib.hid (HB6.out.trans hb); have HG7 := Lib.hid (HGW.out.below (HBW.out.trans (HB7.out.mono (by omega)))); have HA7 := Lib.hid (HA6.out.below hb (by omega)); clear hs hl hb; have c7_5 := HA7.out 5 _ rfl) | (go_at_call 94; have hx := HL5; clear hx; go_must (refine (layer_number (w.heap.size + 2) (w.heap.size + 1) (w.heap.size + 1) 116 8 s5 g _ HL5.out (by omega) (by omega) (by omega) (by omega) hgi.1 hgi.2).mono ?_); rintro en w6 ⟨rfl, hl, hb⟩; obtain ⟨s6, hs⟩ : ∃ s, stepF s5 116 (nPut g 8).1 (nPut g 8).2 = s := ⟨_, rfl⟩; rw [hs] at hl; have HS6 := Lib.hid hs; have HL6 := Lib.hid hl; have HB6 := Lib.hid (HB5.out.trans hb); have HG6 := Lib.hid (HGW.out.below (HBW.out.trans (HB6.out.mono (by omega)))); have HA6 := Lib.hid (HA5.out.below hb (by omega)); clear hs hl hb; have c6_6 := HA6.out 6 _ rfl) | (go_at_call 94; have hx := HL4; clear hx; go_must (refine (layer_number (w.heap.size + 2) (w.heap.size + 1) (w.heap.size + 1) 108 8 s4 u _ HL4.out (by omega) (by omega) (by omega) (by omega) hu.1 hu.2).mono ?_); rintro en w5 ⟨rfl, hl, hb⟩; obtain ⟨s5, hs⟩ : ∃ s, stepF s4 108 (nPut u 8).1 (nPut u 8).2 = s := ⟨_, rfl⟩; rw [hs] at hl; have HS5 := Lib.hid hs; have HL5 := Lib.hid hl; have HB5 := Lib.hid (HB4.out.trans hb); have HG5 := Lib.hid (HGW.out.below (HBW.out.trans (HB5.out.mono (by omega)))); have HA5 := Lib.hid (HA4.out.below hb (by omega)); clear hs hl hb; have c5_4 := HA5.out 4 _ rfl) | (go_at_call 94; have hx := HL3; clear hx; go_must (refine (layer_number (w.heap.size + 2) (w.heap.size + 1) (w.heap.size + 1) 100 8 s3 m _ HL3.out (by omega) (by omega) (by omega) (by omega) hm.1 hm.2).mono ?_); rintro en w4 ⟨rfl, hl, hb⟩; obtain ⟨s4, hs⟩ : ∃ s, stepF s3 100 (nPut m 8).1 (nPut m 8).2 = s := ⟨_, rfl⟩; rw [hs] at hl; have HS4 := Lib.hid hs; have HL4 := Lib.hid hl; have HB4 := Lib.hid (HB3.out.trans hb); have HG4 := Lib.hid (HGW.out.below (HBW.out.trans (HB4.out.mono (by omega)))); have HA4 := Lib.hid (HA3.out.below hb (by omega)); clear hs hl hb; have c4_3 := HA4.out 3 _ rfl) | (go_at_call 93; have hx := HL2; clear hx; go_must (refine (layer_text (w.heap.size + 2) (w.heap.size + 1) (w.heap.size + 1) 157 100 s2 k _ HL2.out (by omega) (by omega) (by omega) (by omega) (by omega) (by omega) HG2.out).mono ?_); rintro en w3 ⟨rfl, hl, hb⟩; obtain ⟨s3, hs⟩ : ∃ s, stepF s2 157 (sPut k 100).1 (sPut k 100).2 = s := ⟨_, rfl⟩; rw [hs] at hl; have HS3 := Lib.hid hs; have HL3 := Lib.hid hl; have HB3 := Lib.hid (HB2.out.trans hb); have HG3 := Lib.hid (HGW.out.below (HBW.out.trans (HB3.out.mono (by omega)))); have HA3 := Lib.hid (HA2.out.below hb (by omega)); clear hs hl hb; have c3_2 := HA3.out 2 _ rfl) | (go_at_call 93; have hx := HL1; clear hx; go_must (refine (layer_text (w.heap.size + 2) (w.heap.size + 1) (w.heap.size + 1) 0 100 s1 n _ HL1.out (by omega) (by omega) (by omega) (by omega) (by omega) (by omega) HG1.out).mono ?_); rintro en w2 ⟨rfl, hl, hb⟩; obtain ⟨s2, hs⟩ : ∃ s, stepF s1 0 (sPut n 100).1 (sPut n 100).2 = s := ⟨_, rfl⟩; rw [hs] at hl; have HS2 := Lib.hid hs; have HL2 := Lib.hid hl; have HB2 := Lib.hid (HB1.out.trans hb); have HG2 := Lib.hid (HGW.out.below (HBW.out.trans (HB2.out.mono (by omega)))); have HA2 := Lib.hid (HA1.out.below hb (by omega)); clear hs hl hb; have c2_8 := HA2.out 8 _ rfl) | (go_at_call 93; have hx := HL0; clear hx; rw [HW0.out]; go_must (refine (layer_text (w.heap.size + 2) (w.heap.size + 1) (w.heap.size + 1) 345 155 s0 p _ HL0.out (by omega) (by omega) (by omega) (by omega) (by omega) (by omega) HG0.out).mono ?_); rintro en w1 ⟨rfl, hl, hb⟩; obtain ⟨s1, hs⟩ : ∃ s, stepF s0 345 (sPut p 155).1 (sPut p 155).2 = s := ⟨_, rfl⟩; rw [hs] at hl; have HS1 := Lib.hid hs; have HL1 := Lib.hid hl; have HB1 := Lib.hid (HB0.out.trans hb); have HG1 := Lib.hid (HGW.out.below (HBW.out.trans (HB1.out.mono (by omega)))); have HA1 := Lib.hid (HA0.out.below hb (by omega)); clear hs hl hb; have c1_1 := HA1.out 1 _ rfl))
  go_region
  have hk0 : Blk (w11.drew.setCell ⟨w.heap.size + 1, 156, none⟩ (.int .u8 (ty.toNat : Int))) (w.heap.size + 1) (l.set 156 ty) := Blk.put (w := w11.drew) HL11.out.blk 156 ty
  have hcut : ∀ W : World, (Instr.slice 31 (.slice (some ⟨w.heap.size + 1, 0, none⟩) 512 512) (some (.int .i64 257)) none none).run Tryz.prog W = .ok (.slice (some ⟨w.heap.size + 1, 257, none⟩) 255 255) W := by
    have := cut_blk .i64 (w.heap.size + 1) 0 512 512 257 (by omega) (by omega)
    rw [Nat.zero_add] at this
    exact this
  have hl0 : (w11.drew.setCell ⟨w.heap.size + 1, 156, none⟩ (.int .u8 (ty.toNat : Int))).cell? ⟨w.heap.size + 2, 0, none⟩ = some (.slice (some ⟨w.heap.size + 1, 0, none⟩) 512 512) := by
    refine (World.cell?_of_block (w := w11) ?_).trans HL11.out.cell0
    show ((w11.drew.heap).modify (w.heap.size + 1) _)[w.heap.size + 2]? = w11.heap[w.heap.size + 2]?
    rw [Array.getElem?_modify, if_neg (by omega)]
    rfl
  have HK0 := Lib.hid hk0
  have HLEN := Lib.hid (show (l.set 156 ty).length = 512 by rw [List.length_set]; exact HL11.out.len)
  have HB12 : Hid (Below w.heap.size w (w11.drew.setCell ⟨w.heap.size + 1, 156, none⟩ (.int .u8 (ty.toNat : Int)))) := Lib.hid (((HBW.out.trans (HB10.out.mono (by omega))).trans (HB11.out.mono (by have := HLF.out.lt; omega))).drew.setCell (by simp) _)
  have HU := Lib.hid (show ustar.length = 8 from rfl)
  clear hk0
  go_wp2_with (first | (refine cp_string2 rfl _ _ rfl (w.heap.size + 1) 257 255 255 (st ustar) (by rfl) (by rfl) (l.set 156 ty) HK0.out (by rw [st_size, HU.out]; omega) (by rw [st_size, HU.out, HLEN.out]; omega) w.heap.size w HB12.out (by omega) ?_; intro w13 hk hb hother; rw [st_data] at hk; have hl1 : w13.cell? ⟨w.heap.size + 2, 0, none⟩ = some (.slice (some ⟨w.heap.size + 1, 0, none⟩) 512 512) := (by rw [World.cell?_of_block (hother _ (by simp))]; exact hl0); have HK := Lib.hid hk; have HB13 := Lib.hid hb; have HL13 := Lib.hid (show (splice (l.set 156 ty) 257 ustar).length = 512 by rw [length_splice _ _ _ (by rw [HLEN.out, HU.out]; omega)]; exact HLEN.out); clear hk hb hother) | (go_at_call 95; go_must (refine (hsum_Put (some ⟨w.heap.size + 1, 0, none⟩) 512 (splice (l.set 156 ty) 257 ustar) _ HL13.out (Nat.le_refl _) HK.out.rd).mono ?_); rintro en w14 ⟨v, rfl, ho, hb⟩; have HO := Lib.hid ho; have HB14 := Lib.hid hb; clear ho hb))
  go_ret2
  exact ⟨v, rfl, own_more HO.out HB13.out.size, HB13.out.trans (HB14.out.mono HB13.out.size)⟩
set_option maxRecDepth 100000 in
theorem hlay_kind (h : Header) (w : World) (ht : isType h.type = false) :
    Calls Tryz.prog 60 #[hdV h] w fun e w' => e = .returned (.tuple #[.slice none 0 0, .int .i64 11]) ∧ Below w.heap.size w w' := by
  have hT := fun W => head_IsType h.type W
  rw [ht] at hT
  have HT := Lib.hid hT
  obtain ⟨p, n, ⟨m, u, g, t⟩, z, ty, k⟩ := h
  clear hT ht
  unfold hdV
  simp only [] at HT ⊢
  go_enter Tryz.func60, Tryz.ntmps60
  go_wp2_with (first | (go_at_call 68; go_must (refine (HT.out _).mono ?_); rintro e w1 ⟨rfl, rfl⟩))
  go_ret2
  exact ⟨rfl, (Below.refl _ w).alloc (Nat.le_refl _) _⟩
end Go.Proofs.YtckgjbpgdpcnnaaGreatDoor
