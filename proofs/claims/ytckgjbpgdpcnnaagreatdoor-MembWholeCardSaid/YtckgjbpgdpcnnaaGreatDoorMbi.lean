/-
  THE CONTRACT of memb.Same.
-/
import Derived.Test.YtckgjbpgdpcnnaaGreatDoorMbg
namespace Go.Proofs.YtckgjbpgdpcnnaaGreatDoor
set_option linter.all false
set_option linter.unusedVariables false
set_option linter.unusedSimpArgs false
open Go.RowKit Pl
attribute [local go_sem] st_toList st_size

def mSame (a b : Member) : Bool := decide (a.path = b.path ∧ a.kind = b.kind ∧ (a.meta_.mode = b.meta_.mode ∧ a.meta_.uid = b.meta_.uid ∧ a.meta_.gid = b.meta_.gid ∧ a.meta_.mtime = b.meta_.mtime) ∧ a.link = b.link ∧ a.data = b.data)
theorem mSame_iff (a b : Member) : mSame a b = true ↔ a = b := by
  obtain ⟨p, k, ⟨mo, u, g, t⟩, ln, d⟩ := a
  obtain ⟨p', k', ⟨mo', u', g', t'⟩, ln', d'⟩ := b
  simp [mSame, and_assoc]
set_option maxRecDepth 100000 in
set_option maxHeartbeats 4000000 in
theorem memb_Same (a b : Member) (A B : Option Addr) (c e : Nat) (w : World) (h1 : Rd w A a.data) (h2 : Rd w B b.data) : Calls Tryz.prog 19 #[mbV a A c, mbV b B e] w fun en w' => en = .returned (.bool (mSame a b)) ∧ Below w.heap.size w w' := by
  obtain ⟨p, k, ⟨mo, u, g, t⟩, ln, d⟩ := a
  obtain ⟨p', k', ⟨mo', u', g', t'⟩, ln', d'⟩ := b
  obtain ⟨R, hR⟩ : ∃ R, mSame ⟨p, k, ⟨mo, u, g, t⟩, ln, d⟩ ⟨p', k', ⟨mo', u', g', t'⟩, ln', d'⟩ = R := ⟨_, rfl⟩
  rw [hR]
  unfold mSame at hR
  unfold mbV
  simp only [] at hR h1 h2 ⊢
  have hE := fun W h1 h2 => lib_Equal A B d.length c d'.length e d d' W rfl rfl h1 h2
  have HE := Lib.hid hE
  have HR := Lib.hid hR
  have H1 := Lib.hid h1
  have H2 := Lib.hid h2
  have hb : ∀ o1 o2, Below w.heap.size w ((w.alloc o1).alloc o2) := fun o1 o2 => ((Below.refl w.heap.size w).alloc (Nat.le_refl _) o1).alloc (by simp) o2
  have HB := Lib.hid hb
  clear hE hR h1 h2 hb
  go_enter Tryz.func19, Tryz.ntmps19
  go_wp2_with (go_at_call 58; refine (HE.out _ (H1.out.below (HB.out _ _)) (H2.out.below (HB.out _ _))).mono ?_; rintro e w' ⟨rfl, rfl⟩)
  all_goals
    go_ret
    refine ⟨?_, HB.out _ _⟩
    rw [← HR.out]
    simp [*]
    try (rw [Bool.eq_iff_iff]; simp)
end Go.Proofs.YtckgjbpgdpcnnaaGreatDoor
