/-
  THE CONTRACTS of package head: reading.
-/
import Derived.Test.YtckgjbpgdpcnnaaGreatDoorHlap
namespace Go.Proofs.YtckgjbpgdpcnnaaGreatDoor
set_option linter.all false
set_option linter.unusedVariables false
set_option linter.unusedSimpArgs false
open Go.RowKit Pl
attribute [local go_sem] st_toList st_size

/-- Block b is just these cells. -/
def Cel (w : World) (b : Nat) (vs : Array Value) (t : TypeId) : Prop := w.heap[b]? = some (.cells vs t (0, 0))
theorem Cel.lt {w : World} {b : Nat} {vs : Array Value} {t : TypeId} (h : Cel w b vs t) : b < w.heap.size := (Array.getElem?_eq_some_iff.1 h).1
theorem Cel.new (w : World) (vs : Array Value) (t : TypeId) : Cel (w.alloc (.cells vs t)) w.heap.size vs t := heap_alloc_new w _
theorem Cel.below {w w1 : World} {b : Nat} {vs : Array Value} {t : TypeId} (h : Cel w b vs t) (hb : Below w.heap.size w w1) : Cel w1 b vs t := (hb.block b h.lt).trans h
theorem Cel.cell {w : World} {b : Nat} {vs : Array Value} {t : TypeId} (h : Cel w b vs t) (i : Nat) (v : Value) (hv : vs[i]? = some v) : w.cell? ⟨b, i, none⟩ = some v := by
  unfold Cel at h
  simp [World.cell?, h, hv]
theorem Cel.frozen {w : World} {b : Nat} {vs : Array Value} {t : TypeId} (h : Cel w b vs t) (i : Nat) : w.frozen? ⟨b, i, none⟩ = false := by
  unfold Cel at h
  simp [World.frozen?, h]
theorem Cel.put {w : World} {b : Nat} {vs : Array Value} {t : TypeId} (h : Cel w b vs t) (i : Nat) (v : Value) : Cel (w.setCell ⟨b, i, none⟩ v) b (vs.setIfInBounds i v) t := by
  unfold Cel at h ⊢
  simp [World.setCell, Array.getElem?_modify, h]
theorem Cel.other {w : World} {b : Nat} {vs : Array Value} {t : TypeId} (h : Cel w b vs t) {p : Addr} (hp : p.block ≠ b) (v : Value) : Cel (w.setCell p v) b vs t := by
  unfold Cel at h ⊢
  simp only [World.setCell, Array.getElem?_modify]
  rw [if_neg hp]
  exact h
theorem set_block (w : World) (p : Addr) (v : Value) (k : Nat) (h : k ≠ p.block) : (w.setCell p v).heap[k]? = w.heap[k]? := by
  simp only [World.setCell, Array.getElem?_modify]
  rw [if_neg (fun e => h e.symm)]
theorem fieldB_len (l : Bs) (a d : Nat) (h : a + d ≤ l.length) : (fieldB l a d).length = d := by
  unfold fieldB
  rw [List.length_take, List.length_drop]
  omega
def readE (e e' : Int) : Int := if e = 0 then e' else e

set_option maxRecDepth 100000 in
set_option maxHeartbeats 1000000 in
theorem reader_text (R B at_ d : Nat) (A : Option Addr) (c : Nat) (e : Int) (l : Bs) (w : World) (h : Cel w R #[.slice A 512 c, .int .i64 e] 111) (hB : B ≤ R) (hl : l.length = 512) (hc : 512 ≤ c) (hbig : c ≤ 9223372036854775807) (hr : Rd w A l) (hd : 1 ≤ d) (hfit : at_ + d ≤ 512) (hg : Glob w) :
    Calls Tryz.prog 66 #[.pointer (some ⟨R, 0, none⟩), .int .i64 at_, .int .i64 d] w fun en w' => en = .returned (.string (st (sGet (fieldB l at_ d)).1)) ∧ Cel w' R #[.slice A 512 c, .int .i64 (readE e (sGet (fieldB l at_ d)).2)] 111 ∧ Below B w w' ∧ (∀ k, k < w.heap.size → k ≠ R → w'.heap[k]? = w.heap[k]?) := by
  obtain ⟨A', hcut, hrd, _⟩ := cut_mid .i64 .i64 A 512 c at_ (at_ + d) (by omega) (by omega)
  have hR := hrd w l hl hc hfit hr
  have hf : (l.take (at_ + d)).drop at_ = fieldB l at_ d := by unfold fieldB; rw [List.drop_take, Nat.add_sub_cancel_left]
  rw [hf] at hR
  have hfl := fieldB_len l at_ d (by omega)
  have hA : A' = none → c - at_ = 0 := fun h0 => by
    obtain ⟨b, o, e, _⟩ := hR (by omega)
    rw [h0] at e
    cases e
  rw [Nat.add_sub_cancel_left, Int.natCast_add] at hcut
  have hG := strf_Get A' d (c - at_) (fieldB l at_ d) w hfl (by omega) (by omega) hA (by omega) hR hg
  obtain ⟨r, hr2⟩ : ∃ r, sGet (fieldB l at_ d) = r := ⟨_, rfl⟩
  rw [hr2] at hG ⊢
  obtain ⟨s, e'⟩ := r
  simp only [] at hG ⊢
  have HG := Lib.hid hG
  have H := Lib.hid h
  have c0 := h.cell 0 _ rfl
  have hlt := h.lt
  clear hG hr2 hR hrd hr hA hfl hf h hg
  by_cases he : e = 0
  · subst he
    go_enter Tryz.func66, Tryz.ntmps66
    go_wp2_with (go_at_call 101; go_must (refine HG.out.mono ?_); rintro en w1 ⟨rfl, hb⟩; have H1 := Lib.hid (H.out.below hb); have HB1 := Lib.hid hb; clear hb; have d1 := H1.out.cell 1 _ rfl; have f1 := H1.out.frozen 1)
    go_ret
    exact ⟨rfl, H1.out.put 1 (.int .i64 e'), (HB1.out.mono (by omega)).setCell hB _, fun k hk hne => (set_block w1 ⟨R, 1, none⟩ _ k hne).trans (HB1.out.block k hk)⟩
  · have hne : (e == 0) = false := by simpa using he
    have hre : readE e e' = e := by unfold readE; rw [if_neg he]
    rw [hre]
    clear he hre
    go_enter Tryz.func66, Tryz.ntmps66
    go_wp2_with (go_at_call 101; go_must (refine HG.out.mono ?_); rintro en w1 ⟨rfl, hb⟩; have H1 := Lib.hid (H.out.below hb); have HB1 := Lib.hid hb; clear hb; have d1 := H1.out.cell 1 _ rfl)
    go_ret
    exact ⟨rfl, H1.out, HB1.out.mono (by omega), fun k hk _ => HB1.out.block k hk⟩
set_option maxRecDepth 100000 in
set_option maxHeartbeats 1000000 in
theorem reader_number (R B at_ d : Nat) (A : Option Addr) (c : Nat) (e : Int) (l : Bs) (w : World) (h : Cel w R #[.slice A 512 c, .int .i64 e] 111) (hB : B ≤ R) (hl : l.length = 512) (hc : 512 ≤ c) (hbig : c ≤ 9223372036854775807) (hr : Rd w A l) (hd : d = 8 ∨ d = 12) (hfit : at_ + d ≤ 512) :
    Calls Tryz.prog 67 #[.pointer (some ⟨R, 0, none⟩), .int .i64 at_, .int .i64 d] w fun en w' => en = .returned (.int .i64 (nGet (fieldB l at_ d)).1) ∧ Cel w' R #[.slice A 512 c, .int .i64 (readE e (nGet (fieldB l at_ d)).2)] 111 ∧ Below B w w' ∧ (∀ k, k < w.heap.size → k ≠ R → w'.heap[k]? = w.heap[k]?) := by
  obtain ⟨A', hcut, hrd, _⟩ := cut_mid .i64 .i64 A 512 c at_ (at_ + d) (by omega) (by omega)
  have hR := hrd w l hl hc hfit hr
  have hf : (l.take (at_ + d)).drop at_ = fieldB l at_ d := by unfold fieldB; rw [List.drop_take, Nat.add_sub_cancel_left]
  rw [hf] at hR
  have hfl := fieldB_len l at_ d (by omega)
  rw [Nat.add_sub_cancel_left, Int.natCast_add] at hcut
  have hG := numf_Get A' d (c - at_) (fieldB l at_ d) w hfl (by omega) (by omega) hd hR
  obtain ⟨r, hr2⟩ : ∃ r, nGet (fieldB l at_ d) = r := ⟨_, rfl⟩
  rw [hr2] at hG ⊢
  obtain ⟨s, e'⟩ := r
  simp only [] at hG ⊢
  have HG := Lib.hid hG
  have H := Lib.hid h
  have c0 := h.cell 0 _ rfl
  have hlt := h.lt
  clear hG hr2 hR hrd hr hfl hf h hd
  by_cases he : e = 0
  · subst he
    go_enter Tryz.func67, Tryz.ntmps67
    go_wp2_with (go_at_call 102; go_must (refine HG.out.mono ?_); rintro en w1 ⟨rfl, hb⟩; have H1 := Lib.hid (H.out.below hb); have HB1 := Lib.hid hb; clear hb; have d1 := H1.out.cell 1 _ rfl; have f1 := H1.out.frozen 1)
    go_ret
    exact ⟨rfl, H1.out.put 1 (.int .i64 e'), (HB1.out.mono (by omega)).setCell hB _, fun k hk hne => (set_block w1 ⟨R, 1, none⟩ _ k hne).trans (HB1.out.block k hk)⟩
  · have hne : (e == 0) = false := by simpa using he
    have hre : readE e e' = e := by unfold readE; rw [if_neg he]
    rw [hre]
    clear he hre
    go_enter Tryz.func67, Tryz.ntmps67
    go_wp2_with (go_at_call 102; go_must (refine HG.out.mono ?_); rintro en w1 ⟨rfl, hb⟩; have H1 := Lib.hid (H.out.below hb); have HB1 := Lib.hid hb; clear hb; have d1 := H1.out.cell 1 _ rfl)
    go_ret
    exact ⟨rfl, H1.out, HB1.out.mono (by omega), fun k hk _ => HB1.out.block k hk⟩
end Go.Proofs.YtckgjbpgdpcnnaaGreatDoor
