/-
  PLAIN LAWS of records: what is laid is parsed. No Go, no memory.
-/
import Derived.Test.YtckgjbpgdpcnnaaGreatDoorPureD
namespace Go.Proofs.YtckgjbpgdpcnnaaGreatDoor.Pl
set_option linter.all false
set_option linter.unusedVariables false
set_option linter.unusedSimpArgs false
open Lib

theorem decDigits_rec (u : Nat) : decDigits u = if u < 10 then [UInt8.ofNat (48 + u)] else decDigits (u / 10) ++ [UInt8.ofNat (48 + u % 10)] := by
  rw [decDigits]
  split <;> rfl
theorem dig_toNat (k : Nat) (h : k < 10) : (UInt8.ofNat (48 + k)).toNat = 48 + k := by rw [UInt8.toNat_ofNat']; omega
theorem decVal_snoc (l : Bs) (c : UInt8) : decVal (l ++ [c]) = decVal l * 10 + ((c.toNat : Int) - 48) := by simp [decVal]
theorem decDigits_facts (u : Nat) : decVal (decDigits u) = u ∧ (∀ c ∈ decDigits u, isDig c = true) ∧ (1 ≤ u → (decDigits u).headD 0 ≠ 48) := by
  induction u using Nat.strongRecOn with
  | _ u ih =>
    rw [decDigits_rec]
    by_cases h : u < 10
    · rw [if_pos h]
      refine ⟨by simp [decVal]; omega, ?_, ?_⟩
      · intro c hc
        rw [List.mem_singleton] at hc
        subst hc
        simp [isDig, dig_toNat u h]
        omega
      · intro h1 h2
        have := congrArg UInt8.toNat h2
        rw [List.headD_cons, dig_toNat u h] at this
        simp at this
        omega
    · rw [if_neg h]
      obtain ⟨h1, h2, h3⟩ := ih (u / 10) (by omega)
      have hm : u % 10 < 10 := Nat.mod_lt _ (by omega)
      refine ⟨?_, ?_, ?_⟩
      · rw [decVal_snoc, h1, dig_toNat _ hm]
        omega
      · intro c hc
        rcases List.mem_append.1 hc with hc | hc
        · exact h2 c hc
        · rw [List.mem_singleton] at hc
          subst hc
          simp [isDig, dig_toNat _ hm]
          omega
      · intro _
        have := h3 (by omega)
        cases hd : decDigits (u / 10) with
        | nil =>
          have := decDigits_length (u / 10)
          rw [hd] at this
          have := nDigits_pos (u / 10)
          simp at *
          omega
        | cons a t => rw [hd] at this; exact this
theorem selfLen_eq (rest : Nat) (h1 : 1 ≤ rest) (h2 : rest ≤ 9000) : nDigits (selfLen rest) + rest = selfLen rest := by
  unfold selfLen
  split
  · rw [nDigits_small (by omega)]; omega
  · split
    · rw [nDigits_unique 1 _ (by omega) (by omega)]; omega
    · split
      · rw [nDigits_unique 2 _ (by omega) (by omega)]; omega
      · rw [nDigits_unique 3 _ (by omega) (by omega)]; omega
theorem rText_len (r : Rec) : (rText r).length = r.key.length + r.val.length + 3 := by simp [rText]; omega
theorem rMay_zero (r : Rec) (h : rMay r = 0) : r.key ≠ [] ∧ r.key.length ≤ 60 ∧ keyBad r.key = false ∧ r.val.length ≤ 2000 := by
  unfold rMay at h
  split at h
  · simp at h
  · rename_i h1
    split at h
    · simp at h
    · rename_i h2
      refine ⟨fun e => h1 (.inl e), ?_, ?_, by omega⟩
      · apply Nat.le_of_not_lt; exact fun e => h1 (.inr (.inl e))
      · cases hk : keyBad r.key with
        | false => rfl
        | true => exact absurd (.inr (.inr hk)) h1
theorem itoa_nat (n : Nat) : itoa (n : Int) = decDigits n := by
  unfold itoa
  rw [if_neg (by omega)]
  simp
theorem rOne_eq (r : Rec) (h : rMay r = 0) : rOne r = (decDigits (selfLen (rText r).length) ++ rText r, 0) ∧ (rOne r).1.length = selfLen (rText r).length ∧ rLen r = selfLen (rText r).length := by
  obtain ⟨h1, h2, h3, h4⟩ := rMay_zero r h
  have hl : rLen r = selfLen (rText r).length := by unfold rLen; rw [if_neg (by rw [h]; simp)]
  have he : rOne r = (decDigits (selfLen (rText r).length) ++ rText r, 0) := by
    unfold rOne
    rw [if_neg (by rw [h]; simp), hl, itoa_nat]
  refine ⟨he, ?_, hl⟩
  rw [he]
  simp only [List.length_append, decDigits_length]
  have := rText_len r
  exact selfLen_eq _ (by omega) (by omega)
theorem findAt_append (c : UInt8) : ∀ (l r : Bs) (i : Nat), (∀ x ∈ l, x ≠ c) → findAt c (l ++ c :: r) i = some (i + l.length)
  | [], r, i, _ => by simp [findAt]
  | a :: l, r, i, h => by
    rw [List.cons_append]
    unfold findAt
    rw [if_neg (h a (by simp)), findAt_append c l r (i + 1) (fun x hx => h x (by simp [hx]))]
    simp
    omega
theorem rFirst_one (r : Rec) (rest : Bs) (h : rMay r = 0) : rFirst ((rOne r).1 ++ rest) = (r, (((rOne r).1.length : Nat) : Int), 0) := by
  obtain ⟨h1, h2, h3, h4⟩ := rMay_zero r h
  obtain ⟨he, hlen, hL⟩ := rOne_eq r h
  obtain ⟨n, hn⟩ : ∃ n, selfLen (rText r).length = n := ⟨_, rfl⟩
  have htl := rText_len r
  have hse := selfLen_eq (rText r).length (by omega) (by omega)
  rw [hn] at he hlen hL hse
  rw [hlen]
  obtain ⟨d1, d2, d3⟩ := decDigits_facts n
  have dl := decDigits_length n
  obtain ⟨D, hD⟩ : ∃ D, decDigits n = D := ⟨_, rfl⟩
  obtain ⟨k, hk⟩ : ∃ k, nDigits n = k := ⟨_, rfl⟩
  have hkp := nDigits_pos n
  rw [hk] at hse dl hkp
  rw [hD] at d1 d2 d3 dl he
  have hk4 : k ≤ 4 := by
    apply Nat.le_of_not_lt
    intro h5
    have : n < 10000 := by
      rw [← hn]
      unfold selfLen
      split
      · omega
      · split
        · omega
        · split <;> omega
    have h4' : nDigits n ≤ 4 := by
      by_cases a1 : n < 10
      · rw [nDigits_small a1]; omega
      · by_cases a2 : n < 100
        · rw [nDigits_unique 1 n (by omega) (by omega)]; omega
        · by_cases a3 : n < 1000
          · rw [nDigits_unique 2 n (by omega) (by omega)]; omega
          · rw [nDigits_unique 3 n (by omega) (by omega)]; omega
    omega
  have hb : (rOne r).1 ++ rest = D ++ 32 :: (r.key ++ 61 :: (r.val ++ 10 :: rest)) := by
    rw [he]
    simp [rText]
  have hbl : ((rOne r).1 ++ rest).length = n + rest.length := by rw [List.length_append, hlen]
  rw [hb] at hbl ⊢
  obtain ⟨b, hbb⟩ : ∃ b, D ++ 32 :: (r.key ++ 61 :: (r.val ++ 10 :: rest)) = b := ⟨_, rfl⟩
  have hfind : findAt 32 b 0 = some k := by
    rw [← hbb, findAt_append 32 D _ 0 (fun x hx e => by
      have := d2 x hx
      rw [e] at this
      simp [isDig] at this)]
    rw [dl]; simp
  have htake : b.take k = D := by rw [← hbb, ← dl]; exact List.take_left
  have hrl : rLength b = ((n : Int), (k : Int)) := by
    unfold rLength
    rw [hfind]
    simp only [htake]
    rw [if_neg, d1, dl]
    rintro (a | a | a | a)
    · rw [a] at dl; simp at dl; omega
    · omega
    · exact d3 (by omega) a
    · exact a (List.all_eq_true.2 d2)
  have hbody : (b.take n).drop (k + 1) = r.key ++ 61 :: r.val ++ [10] := by
    have e : b = (D ++ [32] ++ (r.key ++ 61 :: r.val ++ [10])) ++ rest := by rw [← hbb]; simp
    have el : (D ++ [32] ++ (r.key ++ 61 :: r.val ++ [10])).length = n := by
      simp [dl]
      omega
    rw [e, ← el, List.take_left]
    have el2 : (D ++ [32]).length = k + 1 := by simp [dl]
    rw [← el2, List.drop_left]
  rw [hbb] at hbl ⊢
  have hrest : findAt 61 (r.key ++ 61 :: r.val) 0 = some r.key.length := by
    rw [findAt_append 61 r.key r.val 0 (fun x hx e => by
      unfold keyBad at h3
      have := List.any_eq_false.1 h3 x hx
      rw [e] at this
      simp at this)]
    simp
  unfold rFirst
  simp only [hrl]
  rw [if_neg (by omega), if_neg (by rw [hbl]; omega), if_neg (by omega)]
  rw [show ((n : Int)).toNat = n from by simp, show ((k : Int) + 1).toNat = k + 1 from by omega, hbody]
  have hlast : (r.key ++ 61 :: r.val ++ [10]).getLast? = some 10 := by rw [List.getLast?_append]; rfl
  have hdl : (r.key ++ 61 :: r.val ++ [10]).dropLast = r.key ++ 61 :: r.val := by rw [List.dropLast_concat]
  rw [if_pos hlast, hdl, hrest]
  simp only [List.take_left]
  have hdr : (r.key ++ 61 :: r.val).drop (r.key.length + 1) = r.val := by
    rw [show r.key ++ 61 :: r.val = (r.key ++ [61]) ++ r.val from by simp, show r.key.length + 1 = (r.key ++ [61]).length from by simp]
    exact List.drop_left
  rw [hdr, if_neg]
  rintro (a | a)
  · exact a hlast
  · apply a
    show (rLen ⟨r.key, r.val⟩ : Int) = n
    exact congrArg _ hL
theorem rLay_cons (r : Rec) (l : List Rec) (h : (rLay (r :: l)).2 = 0) : (rOne r).2 = 0 ∧ (rLay l).2 = 0 ∧ (rLay (r :: l)).1 = (rOne r).1 ++ (rLay l).1 := by
  rw [rLay] at h ⊢
  split at h
  · rename_i h1; exact absurd h h1
  · rename_i h1
    split at h
    · rename_i h2; exact absurd h h2
    · rename_i h2
      rw [if_neg h1, if_neg h2]
      exact ⟨by simpa using h1, by simpa using h2, rfl⟩
theorem rOne_may (r : Rec) (h : (rOne r).2 = 0) : rMay r = 0 := by
  unfold rOne at h
  split at h
  · exact h
  · rename_i h1; simpa using h1
theorem rOne_pos (r : Rec) (h : rMay r = 0) : 0 < (rOne r).1.length := by
  obtain ⟨_, h2, _⟩ := rOne_eq r h
  have := rText_len r
  rw [h2]
  unfold selfLen
  split
  · omega
  · split
    · omega
    · split <;> omega
theorem rParseAux_lay (l : List Rec) : ∀ (k : Nat), (rLay l).2 = 0 → (rLay l).1.length < k → rParseAux k (rLay l).1 = (l, 0) := by
  induction l with
  | nil =>
    intro k _ hk
    cases k with
    | zero => simp [rLay] at hk
    | succ k => simp [rLay, rParseAux]
  | cons r l ih =>
    intro k h hk
    obtain ⟨h1, h2, h3⟩ := rLay_cons r l h
    have hm := rOne_may r h1
    have hp := rOne_pos r hm
    rw [h3] at hk ⊢
    rw [List.length_append] at hk
    cases k with
    | zero => omega
    | succ k =>
      unfold rParseAux
      rw [if_neg (by intro e; have := congrArg List.length e; rw [List.length_append, List.length_nil] at this; omega)]
      simp only [rFirst_one r (rLay l).1 hm, ne_eq, not_true_eq_false, if_false]
      rw [show ((((rOne r).1.length : Nat) : Int)).toNat = (rOne r).1.length from by simp, List.drop_left, ih k h2 (by omega)]
      simp
theorem rParse_lay (l : List Rec) (h : (rLay l).2 = 0) : rParse (rLay l).1 = (l, 0) := rParseAux_lay l _ h (by omega)
end Go.Proofs.YtckgjbpgdpcnnaaGreatDoor.Pl
