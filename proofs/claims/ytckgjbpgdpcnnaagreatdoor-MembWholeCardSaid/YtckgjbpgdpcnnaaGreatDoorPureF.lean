/-
  PLAIN LAWS of members: what is laid comes back. No Go, no memory.
-/
import Derived.Test.YtckgjbpgdpcnnaaGreatDoorPureE
namespace Go.Proofs.YtckgjbpgdpcnnaaGreatDoor.Pl
set_option linter.all false
set_option linter.unusedVariables false
set_option linter.unusedSimpArgs false

theorem findAt_some (c : UInt8) : ∀ (l : Bs) (i k : Nat), findAt c l i = some k → i ≤ k ∧ l.take (k - i) ++ c :: l.drop (k - i + 1) = l
  | [], i, k, h => by simp [findAt] at h
  | a :: l, i, k, h => by
    unfold findAt at h
    by_cases ha : a = c
    · rw [if_pos ha] at h
      injection h with h
      subst h ha
      simp
    · rw [if_neg ha] at h
      obtain ⟨h1, h2⟩ := findAt_some c l (i + 1) k h
      refine ⟨by omega, ?_⟩
      have e : k - i = (k - (i + 1)) + 1 := by omega
      rw [e, List.take_succ_cons, List.drop_succ_cons, List.cons_append, h2]
theorem splitAux_some (path : Bs) : ∀ (k at_ : Nat) (p n : Bs), splitAux path k at_ = some (p, n) → p ++ 47 :: n = path ∧ p ≠ [] ∧ p.length ≤ 155 ∧ n.length ≤ 100 ∧ n ≠ []
  | 0, _, _, _, h => by simp [splitAux] at h
  | k + 1, at_, p, n, h => by
    unfold splitAux at h
    cases hf : findAt 47 (path.drop at_) 0 with
    | none => rw [hf] at h; simp at h
    | some i =>
      rw [hf] at h
      simp only [] at h
      split at h
      · simp at h
      · rename_i h1
        split at h
        · rename_i h2
          injection h with h
          injection h with hp hn
          subst hp hn
          obtain ⟨_, h3⟩ := findAt_some 47 _ 0 i hf
          refine ⟨?_, h2.1, ?_, h2.2, fun e => h1 (.inr e)⟩
          · rw [Nat.sub_zero] at h3
            have e := List.take_append_drop at_ path
            conv => rhs; rw [← e, ← h3]
            rw [List.drop_drop, ← List.append_assoc, List.take_add, Nat.add_assoc]
          · apply Nat.le_of_not_lt; exact fun e => h1 (.inl e)
        · exact splitAux_some path k _ p n h
theorem split_some (path p n : Bs) (h : split path = some (p, n)) : sJoin p n = path ∧ p.length ≤ 155 ∧ n.length ≤ 100 ∧ n ≠ [] ∧ (∀ c ∈ p, c ∈ path) ∧ (∀ c ∈ n, c ∈ path) := by
  unfold split at h
  split at h
  · rename_i h1
    injection h with h
    injection h with hp hn
    subst hp hn
    exact ⟨by simp [sJoin], by simp, h1.2, h1.1, by simp, fun c hc => hc⟩
  · obtain ⟨h1, h2, h3, h4, h5⟩ := splitAux_some path _ _ p n h
    refine ⟨by unfold sJoin; rw [if_neg h2]; exact h1, h3, h4, h5, ?_, ?_⟩
    · intro c hc; rw [← h1]; simp [hc]
    · intro c hc; rw [← h1]; simp [hc]
theorem split_none (path : Bs) (h : split path = none) : path = [] ∨ 100 < path.length := by
  unfold split at h
  split at h
  · simp at h
  · rename_i h1
    by_cases h2 : path = []
    · exact .inl h2
    · right
      apply Nat.lt_of_not_le
      exact fun e => h1 ⟨h2, e⟩
theorem cuts_mem (s : Bs) : ∀ c ∈ s, c = 47 ∨ ∃ p ∈ cuts s, c ∈ p := by
  induction s with
  | nil => intro c hc; cases hc
  | cons a s ih =>
    intro c hc
    unfold cuts
    by_cases ha : a = 47
    · rw [if_pos ha]
      rcases List.mem_cons.1 hc with rfl | hc
      · exact .inl ha
      · rcases ih c hc with h | ⟨p, hp, hc⟩
        · exact .inl h
        · exact .inr ⟨p, by simp [hp], hc⟩
    · rw [if_neg ha]
      cases hk : cuts s with
      | nil =>
        rcases List.mem_cons.1 hc with rfl | hc
        · exact .inr ⟨[c], by simp, by simp⟩
        · rcases ih c hc with h | ⟨p, hp, hc⟩
          · exact .inl h
          · rw [hk] at hp; cases hp
      | cons q r =>
        rcases List.mem_cons.1 hc with rfl | hc
        · exact .inr ⟨c :: q, by simp, by simp⟩
        · rcases ih c hc with h | ⟨p, hp, hc⟩
          · exact .inl h
          · rw [hk] at hp
            rcases List.mem_cons.1 hp with rfl | hp
            · exact .inr ⟨a :: p, by simp, by simp [hc]⟩
            · exact .inr ⟨p, by simp [hp], hc⟩
theorem isPath_facts (s : Bs) (h : isPath s = true) : s.length ≤ 300 ∧ s.any (· == 0) = false ∧ s ≠ [] := by
  unfold isPath at h
  rw [Bool.and_eq_true, decide_eq_true_eq, List.all_eq_true] at h
  refine ⟨h.1, ?_, ?_⟩
  · rw [List.any_eq_false]
    intro c hc
    rcases cuts_mem s c hc with e | ⟨p, hp, hcp⟩
    · subst e; decide
    · have := h.2 p hp
      unfold isName at this
      simp only [Bool.and_eq_true, List.all_eq_true] at this
      have := this.2 c hcp
      simp at this ⊢
      exact this.1
  · rintro rfl
    have := h.2 [] (by simp [cuts])
    simp [isName] at this
theorem mKind_mType (k : Int) (h : 1 ≤ k ∧ k ≤ 4) : mKind (mType k) = k := by
  have : k = 1 ∨ k = 2 ∨ k = 3 ∨ k = 4 := by omega
  rcases this with rfl | rfl | rfl | rfl <;> decide
theorem mType_isType (k : Int) (h : 1 ≤ k ∧ k ≤ 4) : isType (mType k) = true := by
  have : k = 1 ∨ k = 2 ∨ k = 3 ∨ k = 4 := by omega
  rcases this with rfl | rfl | rfl | rfl <;> decide
/-- What a member that may be is. -/
structure May (m : Member) : Prop where
  path : isPath m.path = true
  kind : 1 ≤ m.kind ∧ m.kind ≤ 4
  nums : numbersOk m.meta_ = true
  data : m.data.length ≤ 4096
  none : m.kind ≠ 1 → m.data = []
  link : m.kind = 1 ∨ m.kind = 4 → m.link = []
  zero : m.link.any (· == 0) = false
  long : m.link.length ≤ 300
  some_ : m.kind = 2 ∨ m.kind = 3 → m.link ≠ []
theorem mMay_facts (m : Member) (h : mMay m = 0) : May m := by
  unfold mMay at h
  split at h
  · simp at h
  rename_i h1
  split at h
  · simp at h
  rename_i h2
  split at h
  · simp at h
  rename_i h3
  have p : isPath m.path = true := by simpa using h1
  have k : 1 ≤ m.kind ∧ m.kind ≤ 4 := Decidable.not_not.1 h2
  have nm : numbersOk m.meta_ = true := by simpa using h3
  split at h
  · rename_i h4
    split at h
    · simp at h
    rename_i h5
    split at h
    · simp at h
    rename_i h6
    have hl : m.link = [] := Decidable.not_not.1 h6
    exact ⟨p, k, nm, by omega, fun e => absurd h4 e, fun _ => hl, by rw [hl]; rfl, by rw [hl]; simp, fun e => by omega⟩
  rename_i h4
  split at h
  · rename_i h5
    split at h
    · simp at h
    rename_i h6
    split at h
    · simp at h
    rename_i h7
    have hl : m.link = [] := Decidable.not_not.1 h6
    have hd : m.data = [] := Decidable.not_not.1 h7
    exact ⟨p, k, nm, by rw [hd]; simp, fun _ => hd, fun _ => hl, by rw [hl]; rfl, by rw [hl]; simp, fun e => by omega⟩
  rename_i h5
  split at h
  · rename_i h6
    split at h
    · simp at h
    rename_i h7
    split at h
    · simp at h
    rename_i h8
    have hd : m.data = [] := Decidable.not_not.1 h8
    obtain ⟨a, b, c⟩ := isPath_facts m.link (by simpa using h7)
    exact ⟨p, k, nm, by rw [hd]; simp, fun _ => hd, fun e => by omega, b, a, fun _ => c⟩
  · split at h
    · simp at h
    rename_i h7
    split at h
    · simp at h
    rename_i h8
    split at h
    · simp at h
    rename_i h9
    have hd : m.data = [] := Decidable.not_not.1 h9
    refine ⟨p, k, nm, by rw [hd]; simp, fun _ => hd, fun e => by omega, ?_, by omega, fun _ e => h7 (.inl e)⟩
    cases hz : m.link.any (· == 0) with
    | false => rfl
    | true => exact absurd (.inr hz) h7
theorem rFind_recs (m : Member) : rFind (mRecs m) kPath = (if (split m.path).isNone then some m.path else none) ∧ rFind (mRecs m) kLink = (if 100 < m.link.length then some m.link else none) := by
  have e1 : (kPath == kLink) = false := by decide
  have e2 : (kLink == kPath) = false := by decide
  have e3 : (kPath == kPath) = true := by decide
  have e4 : (kLink == kLink) = true := by decide
  unfold rFind mRecs
  by_cases h1 : (split m.path).isNone = true <;> by_cases h2 : 100 < m.link.length <;> simp [h1, h2, e1, e2, e3, e4]
/-- A member's own header, records and bytes are the member. -/
theorem mFrom_mHeader (m : Member) (h : mMay m = 0) : mFrom (mHeader m) (mRecs m) m.data = (m, 0) := by
  have f := mMay_facts m h
  obtain ⟨r1, r2⟩ := rFind_recs m
  have ht : (mHeader m).type = mType m.kind := by unfold mHeader; split <;> rfl
  have hm : (mHeader m).meta_ = m.meta_ := by unfold mHeader; split <;> rfl
  have hk : (mHeader m).link = m.link.take 100 := by unfold mHeader; split <;> rfl
  have hp : (rFind (mRecs m) kPath).getD (hdPath (mHeader m)) = m.path := by
    rw [r1]
    cases hs : split m.path with
    | none => simp
    | some pn =>
      obtain ⟨p, n⟩ := pn
      obtain ⟨hj, _⟩ := split_some _ _ _ hs
      simp only [Option.isNone_some, Bool.false_eq_true, if_false, Option.getD_none]
      unfold hdPath mHeader
      rw [hs]
      exact hj
  have hl : (rFind (mRecs m) kLink).getD (mHeader m).link = m.link := by
    rw [r2, hk]
    by_cases h2 : 100 < m.link.length
    · rw [if_pos h2]; rfl
    · rw [if_neg h2]
      exact List.take_of_length_le (by omega)
  unfold mFrom
  simp only [hp, hl, ht, hm, mKind_mType m.kind f.kind]
  rw [if_neg (by have := f.kind; omega)]
  have e : (⟨m.path, m.kind, m.meta_, if m.kind = 1 ∨ m.kind = 4 then [] else m.link, if m.kind = 1 then m.data else []⟩ : Member) = m := by
    have a : (if m.kind = 1 ∨ m.kind = 4 then [] else m.link) = m.link := by
      split
      · rename_i h1; exact (f.link h1).symm
      · rfl
    have b : (if m.kind = 1 then m.data else []) = m.data := by
      split
      · rfl
      · rename_i h1; exact (f.none h1).symm
    rw [a, b]
  rw [e, if_neg (by rw [h]; simp)]
theorem nPut8_ok (n : Int) (h : 0 ≤ n ∧ n ≤ 1099511627775) : (nPut n 8).2 = 0 := by
  unfold nPut
  split
  · rfl
  · rw [if_neg]
    rintro ⟨_, h2⟩
    omega
theorem nPut12_ok (n : Int) : (nPut n 12).2 = 0 := by
  unfold nPut
  split
  · rfl
  · rw [if_neg (by omega)]
theorem sPut_ok (s : Bs) (w : Nat) (h0 : s.any (· == 0) = false) (h1 : s.length ≤ w) : (sPut s w).2 = 0 := by
  unfold sPut
  rw [if_neg (by rw [h0]; simp), if_neg (by omega)]
theorem any_mem (s t : Bs) (h : t.any (· == 0) = false) (hm : ∀ c ∈ s, c ∈ t) : s.any (· == 0) = false := by
  rw [List.any_eq_false] at h ⊢
  exact fun c hc => h c (hm c hc)
theorem hdLay_ok (h : Header) (f : Fits h) : (hdLay h).2 = 0 := by
  unfold hdLay
  have h1 : (!isType h.type) = false := by rw [f.ty]; rfl
  have h2 : firstE [(sPut h.pre 155).2, (sPut h.name 100).2, (sPut h.link 100).2, (nPut h.meta_.mode 8).2, (nPut h.meta_.uid 8).2, (nPut h.meta_.gid 8).2, (nPut h.size 12).2, (nPut h.meta_.mtime 12).2] = 0 :=
    firstE_of_zero _ (by simp [f.p, f.n, f.k, f.m, f.u, f.g, f.z, f.t])
  rw [h1, h2]
  simp only [Bool.false_eq_true, if_false, ne_eq, not_true_eq_false]
  rw [if_neg f.b]
theorem mHeader_fits (m : Member) (f : May m) : Fits (mHeader m) := by
  obtain ⟨pl, pz, pn⟩ := isPath_facts m.path f.path
  have nm : 0 ≤ m.meta_.mode ∧ m.meta_.mode ≤ 4095 ∧ 0 ≤ m.meta_.uid ∧ m.meta_.uid ≤ 1099511627775 ∧ 0 ≤ m.meta_.gid ∧ m.meta_.gid ≤ 1099511627775 ∧ -1125899906842624 ≤ m.meta_.mtime ∧ m.meta_.mtime ≤ 1125899906842624 := by
    simpa [numbersOk] using f.nums
  have hk : (sPut (m.link.take 100) 100).2 = 0 := sPut_ok _ _ (any_mem _ _ f.zero fun c hc => List.mem_of_mem_take hc) (by rw [List.length_take]; omega)
  unfold mHeader
  split
  · rename_i p n hs
    obtain ⟨_, h1, h2, _, h3, h4⟩ := split_some _ _ _ hs
    exact ⟨mType_isType _ f.kind, sPut_ok _ _ (any_mem _ _ pz h3) h1, sPut_ok _ _ (any_mem _ _ pz h4) h2, hk, nPut8_ok m.meta_.mode (by omega), nPut8_ok m.meta_.uid (by omega), nPut8_ok m.meta_.gid (by omega), nPut12_ok _, nPut12_ok _, by simp only; omega⟩
  · exact ⟨mType_isType _ f.kind, (by decide : (sPut [] 155).2 = 0), sPut_ok _ _ (any_mem _ _ pz fun c hc => List.mem_of_mem_take hc) (by rw [List.length_take]; omega), hk, nPut8_ok m.meta_.mode (by omega), nPut8_ok m.meta_.uid (by omega), nPut8_ok m.meta_.gid (by omega), nPut12_ok _, nPut12_ok _, by simp only; omega⟩
theorem mHeader_ok (m : Member) (f : May m) : (mHeader m).Ok := by
  have nm : 0 ≤ m.meta_.mode ∧ m.meta_.mode ≤ 4095 ∧ 0 ≤ m.meta_.uid ∧ m.meta_.uid ≤ 1099511627775 ∧ 0 ≤ m.meta_.gid ∧ m.meta_.gid ≤ 1099511627775 ∧ -1125899906842624 ≤ m.meta_.mtime ∧ m.meta_.mtime ≤ 1125899906842624 := by
    simpa [numbersOk] using f.nums
  have := f.data
  unfold mHeader
  split <;> exact ⟨by simp only [i64]; omega, by simp only [i64]; omega, by simp only [i64]; omega, by simp only [i64]; omega, by simp only [i64]; omega⟩
theorem rMay_recs (m : Member) (f : May m) : ∀ r ∈ mRecs m, rMay r = 0 := by
  obtain ⟨pl, _, _⟩ := isPath_facts m.path f.path
  have hl := f.long
  intro r hr
  unfold mRecs at hr
  rcases List.mem_append.1 hr with h | h
  · split at h
    · rw [List.mem_singleton] at h
      subst h
      unfold rMay
      rw [if_neg (by decide : ¬ (kPath = [] ∨ 60 < kPath.length ∨ keyBad kPath = true)), if_neg (by simp only; omega)]
    · cases h
  · split at h
    · rw [List.mem_singleton] at h
      subst h
      unfold rMay
      rw [if_neg (by decide : ¬ (kLink = [] ∨ 60 < kLink.length ∨ keyBad kLink = true)), if_neg (by simp only; omega)]
    · cases h
theorem rLay_ok (l : List Rec) (h : ∀ r ∈ l, rMay r = 0) : (rLay l).2 = 0 := by
  induction l with
  | nil => rfl
  | cons r l ih =>
    rw [rLay]
    have h1 : (rOne r).2 = 0 := by rw [(rOne_eq r (h r (by simp))).1]
    rw [if_neg (by rw [h1]; simp), if_neg (by rw [ih fun x hx => h x (by simp [hx])]; simp)]
theorem rLay_len (l : List Rec) (h : ∀ r ∈ l, rMay r = 0) : (rLay l).1.length ≤ 2100 * l.length := by
  induction l with
  | nil => simp [rLay]
  | cons r l ih =>
    have h0 := rLay_ok (r :: l) h
    obtain ⟨_, _, h3⟩ := rLay_cons r l h0
    rw [h3, List.length_append, (rOne_eq r (h r (by simp))).2.1]
    have := ih fun x hx => h x (by simp [hx])
    obtain ⟨_, h5, _, h7⟩ := rMay_zero r (h r (by simp))
    have ht := rText_len r
    have : selfLen (rText r).length ≤ (rText r).length + 4 := by
      unfold selfLen
      split
      · omega
      · split
        · omega
        · split <;> omega
    rw [List.length_cons]
    omega
/-- The header of records. -/
def paxHd (n : Nat) : Header := ⟨[], paxName, ⟨0, 0, 0, 0⟩, n, 120, []⟩
theorem paxHd_fits (n : Nat) : Fits (paxHd n) := ⟨(by decide : isType 120 = true), (by decide : (sPut [] 155).2 = 0), (by decide : (sPut paxName 100).2 = 0), (by decide : (sPut [] 100).2 = 0), (by decide : (nPut 0 8).2 = 0), (by decide : (nPut 0 8).2 = 0), (by decide : (nPut 0 8).2 = 0), nPut12_ok _, nPut12_ok _, by simp only [paxHd]; omega⟩
theorem mRecs_len (m : Member) : (mRecs m).length ≤ 2 := by
  unfold mRecs
  rw [List.length_append]
  split <;> split <;> simp
/-- What a member that may be is laid as. -/
theorem mLay_eq (m : Member) (h : mMay m = 0) : mLay m = ((if mRecs m = [] then [] else (hdLay (paxHd (rLay (mRecs m)).1.length)).1 ++ bFill (rLay (mRecs m)).1) ++ (hdLay (mHeader m)).1 ++ bFill m.data, 0) := by
  have f := mMay_facts m h
  have hr := rLay_ok _ (rMay_recs m f)
  have ha : mAhead (mRecs m) = (if mRecs m = [] then [] else (hdLay (paxHd (rLay (mRecs m)).1.length)).1 ++ bFill (rLay (mRecs m)).1, 0) := by
    unfold mAhead
    by_cases he : mRecs m = []
    · rw [if_pos he, if_pos he]
    · rw [if_neg he, if_neg he, if_neg (by rw [hr]; simp)]
      show (_, (hdLay (paxHd _)).2) = _
      rw [hdLay_ok _ (paxHd_fits _)]
      rfl
  unfold mLay
  rw [if_neg (by rw [h]; simp), ha, if_neg (by simp), if_neg (by rw [hdLay_ok _ (mHeader_fits m f)]; simp)]
theorem mLay_err (m : Member) (h : mMay m ≠ 0) : mLay m = ([], mMay m) := by
  unfold mLay
  rw [if_pos h]
end Go.Proofs.YtckgjbpgdpcnnaaGreatDoor.Pl
