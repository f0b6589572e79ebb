/-
  head.Parse, whole.
-/
import Derived.Test.YtckgjbpgdpcnnaaGreatDoorHpb
namespace Go.Proofs.YtckgjbpgdpcnnaaGreatDoor
set_option linter.all false
set_option linter.unusedVariables false
set_option linter.unusedSimpArgs false
open Go.RowKit Pl
theorem firstE_cons (a : Int) (l : List Int) : firstE (a :: l) = if a ≠ 0 then a else firstE l := by
  unfold firstE
  rw [List.find?_cons]
  by_cases h : a = 0
  · subst h; simp
  · have : (a != 0) = true := by simpa using h
    rw [this, if_pos h]
    rfl
theorem firstE_nil : firstE [] = 0 := rfl
theorem lastE_eq (f : Fs) : lastE f = firstE [f.p.2, f.n.2, f.k.2, f.m.2, f.u.2, f.g.2, f.z.2, f.t.2] := by
  unfold lastE readE
  simp only [firstE_cons, firstE_nil]
  by_cases h1 : f.p.2 = 0 <;> by_cases h2 : f.n.2 = 0 <;> by_cases h3 : f.k.2 = 0 <;> by_cases h4 : f.m.2 = 0 <;> simp [h1, h2, h3, h4]
  all_goals by_cases h5 : f.u.2 = 0 <;> by_cases h6 : f.g.2 = 0 <;> by_cases h7 : f.z.2 = 0 <;> simp [h5, h6, h7]
theorem hdBelow_iff (h : Header) : hdBelow h = true ↔ (h.meta_.mode < 0 ∨ h.meta_.uid < 0 ∨ h.meta_.gid < 0 ∨ h.size < 0) := by unfold hdBelow; exact decide_eq_true_iff
theorem hdFin_eq (l : Bs) (he : hCheck l = 0) (hm : fieldB l 257 8 = ustar) : hdFin (fieldsOf l) (l.getD 156 0) = hdParse l := by
  unfold hdParse
  rw [if_neg (by rw [he]; simp), if_neg (by rw [hm]; simp)]
  have hb := hdBelow_iff (hdOf (fieldsOf l) (if l.getD 156 0 = 0 then 48 else l.getD 156 0))
  have hF : lastE (fieldsOf l) = firstE [(sGet (fieldB l 345 155)).2, (sGet (fieldB l 0 100)).2, (sGet (fieldB l 157 100)).2, (nGet (fieldB l 100 8)).2, (nGet (fieldB l 108 8)).2, (nGet (fieldB l 116 8)).2, (nGet (fieldB l 124 12)).2, (nGet (fieldB l 136 12)).2] := lastE_eq (fieldsOf l)
  unfold hdFin
  by_cases h1 : lastE (fieldsOf l) = 0
  · have h2 : ¬ firstE [(sGet (fieldB l 345 155)).2, (sGet (fieldB l 0 100)).2, (sGet (fieldB l 157 100)).2, (nGet (fieldB l 100 8)).2, (nGet (fieldB l 108 8)).2, (nGet (fieldB l 116 8)).2, (nGet (fieldB l 124 12)).2, (nGet (fieldB l 136 12)).2] ≠ 0 := by rw [← hF, h1]; simp
    rw [if_neg (by rw [h1]; simp)]
    simp only [if_neg h2]
    cases h : isType (if l.getD 156 0 = 0 then 48 else l.getD 156 0) with
    | false => rfl
    | true =>
      rw [if_neg (by simp)]
      simp only [Bool.not_true, Bool.false_eq_true, if_false]
      by_cases h3 : hdBelow (hdOf (fieldsOf l) (if l.getD 156 0 = 0 then 48 else l.getD 156 0)) = true
      · rw [if_pos h3]
        exact (if_pos (hb.1 h3)).symm
      · rw [if_neg h3]
        exact (if_neg (fun e => h3 (hb.2 e))).symm
  · have h2 : firstE [(sGet (fieldB l 345 155)).2, (sGet (fieldB l 0 100)).2, (sGet (fieldB l 157 100)).2, (nGet (fieldB l 100 8)).2, (nGet (fieldB l 108 8)).2, (nGet (fieldB l 116 8)).2, (nGet (fieldB l 124 12)).2, (nGet (fieldB l 136 12)).2] ≠ 0 := by rw [← hF]; exact h1
    rw [if_pos h1, hF]
    simp only [if_pos h2]
/-- head.Parse. -/
theorem head_Parse (A : Option Addr) (c : Nat) (l : Bs) (w : World) (hl : l.length = 512) (hc : 512 ≤ c) (hbig : c ≤ 9223372036854775807) (hr : Rd w A l) (hg : Glob w) :
    Calls Tryz.prog 23 #[.slice A 512 c] w fun en w' => en = .returned (.tuple #[hdV (hdParse l).1, .int .i64 (hdParse l).2]) ∧ Below w.heap.size w w' := by
  by_cases he : hCheck l = 0
  · by_cases hm : fieldB l 257 8 = ustar
    · exact hpar_fin A c l w hl hc hbig hr hg he hm _ _ (hdFin_eq l he hm)
    · have : hdParse l = (noHeader, 3) := by unfold hdParse; rw [if_neg (by rw [he]; simp), if_pos hm]
      rw [this]
      exact hpar_magic A c l w hl hc hbig hr hg he hm
  · have : hdParse l = (noHeader, hCheck l) := by unfold hdParse; rw [if_pos he]
    rw [this]
    exact hpar_sum A c l w hl hc hbig hr he
end Go.Proofs.YtckgjbpgdpcnnaaGreatDoor
