/-
  PLAIN LAWS of headers: what is laid is parsed. No Go, no memory.
-/
import Derived.Test.YtckgjbpgdpcnnaaGreatDoorPureC
namespace Go.Proofs.YtckgjbpgdpcnnaaGreatDoor.Pl
set_option linter.all false
set_option linter.unusedVariables false
set_option linter.unusedSimpArgs false

theorem fieldB_low (l r : Bs) (k a w : Nat) (h : l.take k = r.take k) (hk : a + w ≤ k) : fieldB l a w = fieldB r a w := by
  have e : ∀ x : Bs, fieldB x a w = ((x.take k).drop a).take w := by
    intro x
    unfold fieldB
    rw [List.drop_take, List.take_take, Nat.min_eq_left (by omega)]
  rw [e, e, h]
theorem fieldB_high (l r : Bs) (k a w : Nat) (h : l.drop k = r.drop k) (hk : k ≤ a) : fieldB l a w = fieldB r a w := by
  have e : ∀ x : Bs, fieldB x a w = ((x.drop k).drop (a - k)).take w := by
    intro x
    unfold fieldB
    rw [List.drop_drop, show k + (a - k) = a from by omega]
  rw [e, e, h]
theorem fieldB_part : ∀ (parts : List Bs) (i a w : Nat) (X : Bs), parts[i]? = some X → ((parts.take i).map List.length).sum = a → X.length = w → fieldB parts.flatten a w = X
  | [], _, _, _, _, h, _, _ => by simp at h
  | p :: parts, 0, a, w, X, h, ha, hw => by
    have : p = X := by simpa using h
    subst this
    have : a = 0 := by simpa using ha.symm
    subst this
    unfold fieldB
    rw [List.flatten_cons, List.drop_zero, ← hw]
    exact List.take_left
  | p :: parts, i + 1, a, w, X, h, ha, hw => by
    have ih := fieldB_part parts i (((parts.take i).map List.length).sum) w X (by simpa using h) rfl hw
    have ha2 : a = p.length + ((parts.take i).map List.length).sum := by simpa using ha.symm
    subst ha2
    rw [← ih]
    unfold fieldB
    rw [List.flatten_cons, List.drop_length_add_append]
theorem getD_fieldB (l : Bs) (i : Nat) : l.getD i 0 = (fieldB l i 1).headD 0 := by
  unfold fieldB
  rw [List.getD_eq_getElem?_getD]
  cases h : l.drop i with
  | nil => rw [List.getElem?_eq_none (by have := congrArg List.length h; simp at this; omega)]; rfl
  | cons a t =>
    have hi : i < l.length := by have := congrArg List.length h; simp at this; omega
    rw [List.drop_eq_getElem_cons hi] at h
    rw [List.getElem?_eq_getElem hi]
    injection h with h1 h2
    all_goals simp [h1]
theorem firstE_zero (l : List Int) (h : firstE l = 0) : ∀ x ∈ l, x = 0 := by
  induction l with
  | nil => intro x hx; cases hx
  | cons a l ih =>
    unfold firstE at h
    rw [List.find?_cons] at h
    by_cases ha : a = 0
    · subst ha
      simp only [bne_self_eq_false] at h
      intro x hx
      rcases List.mem_cons.1 hx with rfl | hx
      · rfl
      · exact ih h x hx
    · have : (a != 0) = true := by simpa using ha
      rw [this] at h
      simp at h
      exact absurd h ha
theorem firstE_of_zero (l : List Int) (h : ∀ x ∈ l, x = 0) : firstE l = 0 := by
  unfold firstE
  rw [List.find?_eq_none.2 (by intro x hx; simp [h x hx])]
  rfl
/-- A number of 64 bits. -/
def i64 (n : Int) : Prop := -9223372036854775808 ≤ n ∧ n ≤ 9223372036854775807
structure Header.Ok (h : Header) : Prop where
  mode : i64 h.meta_.mode
  uid : i64 h.meta_.uid
  gid : i64 h.meta_.gid
  mtime : i64 h.meta_.mtime
  size : i64 h.size
/-- The errors of a header's fields, all 0. -/
structure Fits (h : Header) : Prop where
  ty : isType h.type = true
  p : (sPut h.pre 155).2 = 0
  n : (sPut h.name 100).2 = 0
  k : (sPut h.link 100).2 = 0
  m : (nPut h.meta_.mode 8).2 = 0
  u : (nPut h.meta_.uid 8).2 = 0
  g : (nPut h.meta_.gid 8).2 = 0
  z : (nPut h.size 12).2 = 0
  t : (nPut h.meta_.mtime 12).2 = 0
  b : ¬ (h.meta_.mode < 0 ∨ h.meta_.uid < 0 ∨ h.meta_.gid < 0 ∨ h.size < 0)
def hdParts (h : Header) : List Bs := [(sPut h.name 100).1, (nPut h.meta_.mode 8).1, (nPut h.meta_.uid 8).1, (nPut h.meta_.gid 8).1, (nPut h.size 12).1, (nPut h.meta_.mtime 12).1,
  noughts 8, [h.type], (sPut h.link 100).1, ustar, noughts 64, (nPut 0 8).1, (nPut 0 8).1, (sPut h.pre 155).1, noughts 12]
theorem hdLay_fits (h : Header) (e : (hdLay h).2 = 0) : Fits h ∧ hdLay h = (hPut (hdParts h).flatten, 0) := by
  unfold hdLay at e ⊢
  by_cases h1 : isType h.type = true
  · have h1' : (!isType h.type) = false := by rw [h1]; rfl
    rw [h1'] at e ⊢
    simp only [if_false, Bool.false_eq_true] at e ⊢
    by_cases h2 : firstE [(sPut h.pre 155).2, (sPut h.name 100).2, (sPut h.link 100).2, (nPut h.meta_.mode 8).2, (nPut h.meta_.uid 8).2, (nPut h.meta_.gid 8).2, (nPut h.size 12).2, (nPut h.meta_.mtime 12).2] = 0
    · have hz := firstE_zero _ h2
      rw [h2] at e ⊢
      simp only [ne_eq, not_true_eq_false, if_false] at e ⊢
      by_cases h3 : h.meta_.mode < 0 ∨ h.meta_.uid < 0 ∨ h.meta_.gid < 0 ∨ h.size < 0
      · rw [if_pos h3] at e
        simp at e
      · rw [if_neg h3]
        refine ⟨⟨h1, ?_, ?_, ?_, ?_, ?_, ?_, ?_, ?_, h3⟩, ?_⟩
        all_goals first | (apply hz; simp; done) | skip
        simp [hdParts]
    · rw [if_pos h2] at e
      exact absurd e h2
  · have h1' : (!isType h.type) = true := by simpa using h1
    rw [h1'] at e
    simp at e
theorem hdParts_len (h : Header) (f : Fits h) : (hdParts h).flatten.length = 512 := by
  have h0 : (nPut 0 8).1.length = 8 := nPut_len 0 8 (by omega) (by decide)
  simp only [hdParts, List.flatten_cons, List.flatten_nil, List.length_append, sPut_len _ _ f.n, sPut_len _ _ f.k, sPut_len _ _ f.p, nPut_len _ 8 (by omega) f.m, nPut_len _ 8 (by omega) f.u, nPut_len _ 8 (by omega) f.g, nPut_len _ 12 (by omega) f.z, nPut_len _ 12 (by omega) f.t, noughts_len, h0, ustar, List.length_cons, List.length_nil]
theorem hdLay_len (h : Header) (e : (hdLay h).2 = 0) : (hdLay h).1.length = 512 := by
  obtain ⟨f, hb⟩ := hdLay_fits h e
  rw [hb]
  exact hPut_len _ (hdParts_len h f)
theorem hdLay_nil (h : Header) (e : (hdLay h).2 ≠ 0) : (hdLay h).1 = [] := by
  unfold hdLay at e ⊢
  split
  · rfl
  · rename_i h1
    rw [if_neg h1] at e
    simp only [] at e ⊢
    split
    · rfl
    · rename_i h2
      rw [if_neg h2] at e
      split
      · rfl
      · rename_i h3
        rw [if_neg h3] at e
        simp at e
/-- What is laid is parsed. -/
theorem hdParse_hdLay (h : Header) (ok : h.Ok) (e : (hdLay h).2 = 0) : hdParse (hdLay h).1 = (h, 0) := by
  obtain ⟨f, hb⟩ := hdLay_fits h e
  have hl := hdParts_len h f
  rw [hb]
  have h0 : (nPut 0 8).1.length = 8 := nPut_len 0 8 (by omega) (by decide)
  have ln := sPut_len _ _ f.n
  have lk := sPut_len _ _ f.k
  have lp := sPut_len _ _ f.p
  have lm := nPut_len _ 8 (by omega) f.m
  have lu := nPut_len _ 8 (by omega) f.u
  have lg := nPut_len _ 8 (by omega) f.g
  have lz := nPut_len _ 12 (by omega) f.z
  have lt := nPut_len _ 12 (by omega) f.t
  have n8 := noughts_len 8
  have n64 := noughts_len 64
  have lo := hPut_take _ hl
  have hi := hPut_drop _ hl
  have F : ∀ (i a w : Nat) (X : Bs), a + w ≤ 148 ∨ 156 ≤ a → (hdParts h)[i]? = some X → (((hdParts h).take i).map List.length).sum = a → X.length = w → fieldB (hPut (hdParts h).flatten) a w = X := by
    intro i a w X hw hX ha hx
    rcases hw with hw | hw
    · rw [fieldB_low _ (hdParts h).flatten 148 a w lo hw]
      exact fieldB_part _ i a w X hX ha hx
    · rw [fieldB_high _ (hdParts h).flatten 156 a w hi hw]
      exact fieldB_part _ i a w X hX ha hx
  have fn := F 0 0 100 _ (by omega) rfl rfl ln
  have fm := F 1 100 8 _ (by omega) rfl (by simp [hdParts, ln]) lm
  have fu := F 2 108 8 _ (by omega) rfl (by simp [hdParts, ln, lm]) lu
  have fg := F 3 116 8 _ (by omega) rfl (by simp [hdParts, ln, lm, lu]) lg
  have fz := F 4 124 12 _ (by omega) rfl (by simp [hdParts, ln, lm, lu, lg]) lz
  have ft := F 5 136 12 _ (by omega) rfl (by simp [hdParts, ln, lm, lu, lg, lz]) lt
  have fy := F 7 156 1 _ (by omega) rfl (by simp [hdParts, ln, lm, lu, lg, lz, lt, n8]) rfl
  have fk := F 8 157 100 _ (by omega) rfl (by simp [hdParts, ln, lm, lu, lg, lz, lt, n8]) lk
  have fs := F 9 257 8 _ (by omega) rfl (by simp [hdParts, ln, lm, lu, lg, lz, lt, n8, lk]) rfl
  have fp := F 13 345 155 _ (by omega) rfl (by simp [hdParts, ln, lm, lu, lg, lz, lt, n8, lk, n64, h0, ustar]) lp
  have hy : (hPut (hdParts h).flatten).getD 156 0 = h.type := by rw [getD_fieldB, fy]; rfl
  have hy0 : ¬ h.type = 0 := by
    intro e
    have := f.ty
    rw [e] at this
    simp [isType] at this
  unfold hdParse
  rw [if_neg (by rw [hCheck_hPut _ hl]; simp), fs, if_neg (by simp)]
  simp only [fn, fm, fu, fg, fz, ft, fk, fp, hy, if_neg hy0, sGet_sPut _ _ f.n, sGet_sPut _ _ f.k, sGet_sPut _ _ f.p, nGet_nPut _ 8 (by omega) ok.mode f.m, nGet_nPut _ 8 (by omega) ok.uid f.u, nGet_nPut _ 8 (by omega) ok.gid f.g, nGet_nPut _ 12 (by omega) ok.size f.z, nGet_nPut _ 12 (by omega) ok.mtime f.t]
  rw [if_neg (by rw [firstE_of_zero _ (by simp)]; simp), if_neg (by rw [f.ty]; simp), if_neg f.b]

end Go.Proofs.YtckgjbpgdpcnnaaGreatDoor.Pl
