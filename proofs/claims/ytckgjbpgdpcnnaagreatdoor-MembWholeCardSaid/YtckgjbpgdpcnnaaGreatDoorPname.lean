/-
  THE CONTRACT of ppath.Name.
-/
import Derived.Test.YtckgjbpgdpcnnaaGreatDoorIany
import Derived.Test.YtckgjbpgdpcnnaaGreatDoorStrg
namespace Go.Proofs.YtckgjbpgdpcnnaaGreatDoor
set_option linter.all false
set_option linter.unusedVariables false
set_option linter.unusedSimpArgs false
open Go.RowKit Pl
attribute [local go_sem] st_toList st_size
theorem name_last (l : Bs) : (!(l.any fun c => ([47, 0] : Bs).contains c)) = l.all (fun c => c != 0 && c != 47) := by
  induction l with
  | nil => rfl
  | cons a l ih =>
    rw [List.any_cons, List.all_cons, Bool.not_or, ih]
    congr 1
    simp only [List.contains_cons, List.contains_nil, Bool.or_false]
    unfold bne
    rw [Bool.not_or, Bool.and_comm]
theorem isName_ok (l : Bs) (h1 : l.isEmpty = false) (h2 : l.length ≤ 60) (h3 : (l == [46]) = false) (h4 : (l == [46, 46]) = false) : isName l = !(l.any fun c => ([47, 0] : Bs).contains c) := by
  rw [name_last]
  unfold isName
  have e3 : (l != [46]) = true := by unfold bne; rw [h3]; rfl
  have e4 : (l != [46, 46]) = true := by unfold bne; rw [h4]; rfl
  rw [h1, e3, e4, decide_eq_true h2]
  simp
theorem isName_long (l : Bs) (h2 : 60 < l.length) : isName l = false := by
  unfold isName
  rw [decide_eq_false (by omega)]
  simp
theorem asc2 (a b : UInt8) (ha : a.toNat < 128) (hb : b.toNat < 128) : Asc { data := #[a, b] } := by
  intro c hc
  have : c = a ∨ c = b := by simpa using hc
  rcases this with rfl | rfl <;> assumption
set_option maxRecDepth 100000 in
set_option maxHeartbeats 1000000 in
theorem ppath_Name (l : Bs) (w : World) (hl : l.length < 4294967281) :
    Calls Tryz.prog 151 #[.string (st l)] w fun e w' => e = .returned (.bool (isName l)) ∧ Below w.heap.size w w' := by
  have hC := fun W => lib_ContainsAny (st l) { data := #[47, 0] } W (by decide) (by decide) (by rw [st_size]; exact hl) (asc2 47 0 (by decide) (by decide))
  obtain ⟨B, hB⟩ : ∃ B, (l.any fun c => ([47, 0] : Bs).contains c) = B := ⟨_, rfl⟩
  rw [show ((st l).data.toList.any fun c => ({ data := #[47, 0] } : ByteArray).data.toList.contains c) = B from hB] at hC
  have HC := Lib.hid hC
  have HBB := Lib.hid hB
  clear hC hB
  go_enter Tryz.func151, Tryz.ntmps151
  go_wp2_with (go_at_call 186; refine (HC.out _).mono ?_; rintro e w' ⟨rfl, hb⟩; have HB := Lib.hid hb; clear hb)
  · rename_i h
    go_ret
    subst h
    exact ⟨rfl, Below.refl _ _⟩
  · rename_i h1 h2
    go_ret
    exact ⟨by rw [isName_long l (by rcases h2 with h2 | h2; (exact absurd (by simpa using h2) h1); omega)]; rfl, Below.refl _ _⟩
  · rename_i h
    go_ret
    subst h
    exact ⟨rfl, Below.refl _ _⟩
  · rename_i h1 h2
    go_ret
    rcases h2 with h2 | h2
    · exact absurd (by simpa using h2) h1
    · have h2 : l = [46, 46] := by simpa using h2
      subst h2
      exact ⟨rfl, Below.refl _ _⟩
  · go_ret
    exact ⟨by rw [isName_ok l (by simp_all) (by omega) (by simp_all) (by simp_all), HBB.out]; rfl, HB.out⟩
end Go.Proofs.YtckgjbpgdpcnnaaGreatDoor
