/-
  PLAIN LAWS of numbers and texts: what is put is got. No Go, no memory.
-/
import Derived.Test.YtckgjbpgdpcnnaaGreatDoorPureB
namespace Go.Proofs.YtckgjbpgdpcnnaaGreatDoor.Pl
set_option linter.all false
set_option linter.unusedVariables false
set_option linter.unusedSimpArgs false

theorem drop_at (l r : Bs) (n : Nat) (h : l.length = n) : (l ++ r).drop n = r := by subst h; exact List.drop_left
theorem take_at (l r : Bs) (n : Nat) (h : l.length = n) : (l ++ r).take n = l := by subst h; exact List.take_left
theorem noughts_len (n : Nat) : (noughts n).length = n := by simp [noughts]
theorem octs_length (n d : Nat) : (octs n d).length = d := by simp [octs]
theorem octDig_toNat (n k : Nat) : (octDig n k).toNat = 48 + n / 8 ^ k % 8 := by
  unfold octDig
  have : n / 8 ^ k % 8 < 8 := Nat.mod_lt _ (by omega)
  rw [UInt8.toNat_ofNat']
  omega
theorem octDig_isOct (n k : Nat) : isOct (octDig n k) = true := by
  unfold isOct
  rw [octDig_toNat]
  have : n / 8 ^ k % 8 < 8 := Nat.mod_lt _ (by omega)
  simp
  omega
theorem octs_all (n d : Nat) : ∀ c ∈ octs n d, isOct c = true := by
  intro c hc
  simp only [octs, List.mem_map] at hc
  obtain ⟨i, _, rfl⟩ := hc
  exact octDig_isOct _ _
theorem octVal_snoc (l : Bs) (c : UInt8) : octVal (l ++ [c]) = octVal l * 8 + ((c.toNat : Int) - 48) := by simp [octVal]
theorem octs_snoc (n d : Nat) : octs n (d + 1) = octs (n / 8) d ++ [octDig n 0] := by
  unfold octs
  rw [List.range_succ, List.map_append]
  congr 1
  · apply List.map_congr_left
    intro i hi
    have hi := List.mem_range.1 hi
    unfold octDig
    have e : d + 1 - 1 - i = (d - 1 - i) + 1 := by omega
    rw [e, Nat.pow_succ, Nat.mul_comm, ← Nat.div_div_eq_div_mul]
  · simp
theorem octVal_octs (d : Nat) : ∀ n : Nat, n < 8 ^ d → octVal (octs n d) = n := by
  induction d with
  | zero => intro n h; have : n = 0 := by simpa using h
            subst this; rfl
  | succ d ih =>
    intro n h
    rw [octs_snoc, octVal_snoc, ih (n / 8) (by rw [Nat.div_lt_iff_lt_mul (by omega)]; rw [Nat.pow_succ] at h; exact h), octDig_toNat]
    simp
    omega

theorem takeWhile_all (f : UInt8 → Bool) (l r : Bs) (h : ∀ x ∈ l, f x = true) (hr : ∀ x, r.head? = some x → f x = false) : (l ++ r).takeWhile f = l := by
  rw [List.takeWhile_append_of_pos h]
  cases r with
  | nil => simp
  | cons x r => rw [List.takeWhile_cons, hr x rfl]; simp
theorem octs_head (n d : Nat) (hd : 0 < d) (r : Bs) : ∃ c t, octs n d ++ r = c :: t ∧ isOct c = true := by
  cases h : octs n d with
  | nil => have := octs_length n d; rw [h] at this; simp at this; omega
  | cons c t => exact ⟨c, t ++ r, rfl, octs_all n d c (by rw [h]; simp)⟩
/-- What octal digits, and pads behind them, tell. -/
theorem nGet_octs (n d : Nat) (r : Bs) (hd : 0 < d) (hn : n < 8 ^ d) (hl : d + r.length = 8 ∨ d + r.length = 12) (hr : r.all isPad = true) : nGet (octs n d ++ r) = ((n : Int), 0) := by
  obtain ⟨c, t, hc, ho⟩ := octs_head n d hd r
  have hlen : (octs n d ++ r).length = d + r.length := by rw [List.length_append, octs_length]
  have hoc : 48 ≤ c.toNat ∧ c.toNat ≤ 55 := by simpa [isOct] using ho
  have h1 : ¬ (c = 128 ∨ c = 255) := by
    rintro (rfl | rfl) <;> simp at hoc
  have h2 : (octs n d ++ r).dropWhile (· == 32) = octs n d ++ r := by
    rw [hc, List.dropWhile_cons]
    have : (c == 32) = false := by
      rw [beq_eq_false_iff_ne]; rintro rfl; simp at hoc
    rw [this]; simp
  have h3 : (octs n d ++ r).takeWhile isOct = octs n d := takeWhile_all _ _ _ (octs_all n d) (by
    intro x hx
    have hm : x ∈ r := List.mem_of_mem_head? hx
    have hp := List.all_eq_true.1 hr x hm
    unfold isPad at hp
    rcases Bool.or_eq_true _ _ ▸ hp with h | h
    · have : x = 32 := by simpa using h
      subst this; rfl
    · have : x = 0 := by simpa using h
      subst this; rfl)
  have h4 : (octs n d) ≠ [] := by
    intro h; have := octs_length n d; rw [h] at this; simp at this; omega
  unfold nGet
  rw [if_neg (by rw [hlen]; omega)]
  have hh : (octs n d ++ r).headD 0 = c := by rw [hc]; rfl
  rw [hh, if_neg h1]
  simp only [h2, h3]
  rw [if_neg (by
    rintro (h | h)
    · exact h4 h
    · rw [octs_length] at h
      apply h
      rw [drop_at _ _ _ (octs_length n d)]
      exact hr)]
  rw [octVal_octs d n hn]

/-! ### base 256 -/
theorem baseB_length (n : Int) (w : Nat) (h : 1 ≤ w) : (baseB n w).length = w := by
  unfold baseB
  rw [List.length_cons, List.length_map, List.length_range]
  omega
theorem b256_toNat (n : Int) (k : Nat) : ((b256 n k).toNat : Int) = n / 2 ^ (min (8 * k) 63) % 256 := by
  unfold b256
  have h0 : 0 ≤ n / 2 ^ (min (8 * k) 63) % 256 := Int.emod_nonneg _ (by omega)
  have h1 : n / 2 ^ (min (8 * k) 63) % 256 < 256 := Int.emod_lt_of_pos _ (by omega)
  rw [UInt8.toNat_ofNat']
  omega
/-- The bytes of n from 256^(k-1) down. -/
def tail256 (n : Int) (k : Nat) : Bs := (List.range k).map fun i => b256 n (k - 1 - i)
theorem tail256_succ (n : Int) (k : Nat) : tail256 n (k + 1) = b256 n k :: tail256 n k := by
  unfold tail256
  rw [List.range_succ_eq_map, List.map_cons, List.map_map]
  congr 1
  apply List.map_congr_left
  intro i hi
  have := List.mem_range.1 hi
  simp only [Function.comp]
  congr 1
  omega
theorem tail256_len (n : Int) (k : Nat) : (tail256 n k).length = k := by simp [tail256]
theorem baseB_eq (n : Int) (w : Nat) : baseB n (w + 1) = (if n < 0 then 255 else 128) :: tail256 n w := by
  rfl
theorem toNat_byte (x y : UInt8) (h : x.toNat = y.toNat) : x = y := UInt8.toNat_inj.1 h
/-- The last seven bytes. -/
theorem ubLoop_low (fill : UInt8) (n : Int) (k : Nat) (hk : k ≤ 7) : ubLoop fill (tail256 n k) (n / 2 ^ (8 * k)) = (n, 0) := by
  induction k with
  | zero => simp [tail256, ubLoop]
  | succ k ih =>
    rw [tail256_succ]
    unfold ubLoop
    rw [tail256_len, if_neg (by omega)]
    have h := b256_toNat n k
    rw [show min (8 * k) 63 = 8 * k from by omega] at h
    rw [h]
    have e : n / 2 ^ (8 * (k + 1)) * 256 + n / 2 ^ (8 * k) % 256 = n / 2 ^ (8 * k) := by
      have : (2 : Int) ^ (8 * (k + 1)) = 2 ^ (8 * k) * 256 := by rw [show 8 * (k + 1) = 8 * k + 8 from by omega, Int.pow_add]; rfl
      rw [this, ← Int.ediv_ediv_of_nonneg (by apply Int.pow_nonneg; omega)]
      have := Int.mul_ediv_add_emod (n / 2 ^ (8 * k)) 256
      omega
    rw [e]
    exact ih (by omega)
theorem nGet_base8 (n : Int) (h : -72057594037927936 ≤ n ∧ n < 72057594037927936) : nGet (baseB n 8) = (n, 0) := by
  unfold nGet
  rw [if_neg (by rw [baseB_length _ _ (by omega)]; omega), baseB_eq n 7]
  by_cases hn : n < 0
  · rw [if_pos hn, if_pos (by right; rfl)]
    have := ubLoop_low 255 n 7 (by omega)
    have e : n / 2 ^ (8 * 7) = -1 := by omega
    rw [e] at this
    simp only [List.headD_cons, List.drop_one, List.tail_cons, unbase, if_true]
    exact this
  · rw [if_neg hn, if_pos (by left; rfl)]
    have := ubLoop_low 0 n 7 (by omega)
    have e : n / 2 ^ (8 * 7) = 0 := by omega
    rw [e] at this
    have h2 : ¬ ((128 : UInt8) = 255) := by decide
    simp only [List.headD_cons, List.drop_one, List.tail_cons, unbase, if_neg h2]
    exact this
theorem ubLoop_fill (n : Int) (fill : UInt8) (hf : (fill.toNat : Int) = n / 2 ^ 63 % 256) (v : Int) (hv : v * 256 + (fill.toNat : Int) = v) (k : Nat) (hk : 8 ≤ k) (hk2 : k ≤ 11) :
    ubLoop fill (tail256 n k) v = ubLoop fill (tail256 n 8) v := by
  obtain ⟨j, rfl⟩ : ∃ j, k = 8 + j := ⟨k - 8, by omega⟩
  induction j with
  | zero => rfl
  | succ j ih =>
    rw [show 8 + (j + 1) = (8 + j) + 1 from rfl, tail256_succ]
    unfold ubLoop
    have hb : b256 n (8 + j) = fill := by
      apply toNat_byte
      have := b256_toNat n (8 + j)
      rw [show min (8 * (8 + j)) 63 = 63 from by omega, ← hf] at this
      omega
    rw [tail256_len, hb, if_neg (by
      rintro (h | h)
      · exact h.2 rfl
      · exact h.2 rfl), hv]
    exact ih (by omega) (by omega)
theorem nGet_base12 (n : Int) (h : -9223372036854775808 ≤ n ∧ n ≤ 9223372036854775807) : nGet (baseB n 12) = (n, 0) := by
  unfold nGet
  rw [if_neg (by rw [baseB_length _ _ (by omega)]; omega), baseB_eq n 11]
  by_cases hn : n < 0
  · rw [if_pos hn, if_pos (by right; rfl)]
    simp only [List.headD_cons, List.drop_one, List.tail_cons, unbase, if_true]
    rw [ubLoop_fill n 255 (by show (255 : Int) = _; omega) (-1) (by show (-1 : Int) * 256 + 255 = -1; omega) 11 (by omega) (by omega), tail256_succ]
    unfold ubLoop
    have hb := b256_toNat n 7
    rw [show min (8 * 7) 63 = 56 from rfl] at hb
    rw [tail256_len, if_neg (by
      rintro (h | h)
      · omega
      · apply h.2
        have : 128 ≤ (b256 n 7).toNat := by omega
        simp [this])]
    have := ubLoop_low 255 n 7 (by omega)
    rw [hb]
    rw [show (8 * 7) = 56 from rfl] at this
    rw [show -1 * 256 + n / 2 ^ 56 % 256 = n / 2 ^ 56 from by omega]
    exact this
  · rw [if_neg hn, if_pos (by left; rfl)]
    have h2 : ¬ ((128 : UInt8) = 255) := by decide
    simp only [List.headD_cons, List.drop_one, List.tail_cons, unbase, if_neg h2]
    rw [ubLoop_fill n 0 (by show (0 : Int) = _; omega) 0 (by show (0 : Int) * 256 + 0 = 0; omega) 11 (by omega) (by omega), tail256_succ]
    unfold ubLoop
    have hb := b256_toNat n 7
    rw [show min (8 * 7) 63 = 56 from rfl] at hb
    rw [tail256_len, if_neg (by
      rintro (h | h)
      · omega
      · apply h.2
        have : ¬ 128 ≤ (b256 n 7).toNat := by omega
        simp [this])]
    have := ubLoop_low 0 n 7 (by omega)
    rw [hb]
    rw [show (8 * 7) = 56 from rfl] at this
    rw [show 0 * 256 + n / 2 ^ 56 % 256 = n / 2 ^ 56 from by omega]
    exact this
theorem nPut_len (n : Int) (w : Nat) (hw : w = 8 ∨ w = 12) (h : (nPut n w).2 = 0) : (nPut n w).1.length = w := by
  unfold nPut at h ⊢
  split
  · rw [List.length_append, octs_length]; simp; omega
  · rename_i h1
    rw [if_neg h1] at h
    split
    · rename_i h2; rw [if_pos h2] at h; simp at h
    · exact baseB_length _ _ (by omega)
/-- What is put is got. -/
theorem nGet_nPut (n : Int) (w : Nat) (hw : w = 8 ∨ w = 12) (hn : -9223372036854775808 ≤ n ∧ n ≤ 9223372036854775807) (h : (nPut n w).2 = 0) : nGet (nPut n w).1 = (n, 0) := by
  unfold nPut at h ⊢
  split
  · rename_i h1
    have hp : 0 ≤ n ∧ n ≤ (most (w - 1) : Nat) := by simpa [isPlain] using h1
    have := nGet_octs n.toNat (w - 1) [0] (by omega) (by
      have : 0 < 8 ^ (w - 1) := Nat.pow_pos (by omega)
      unfold most at hp
      omega) (by simp; omega) rfl
    rw [this]
    simp
    omega
  · rename_i h1
    rw [if_neg h1] at h
    split
    · rename_i h2; rw [if_pos h2] at h; simp at h
    · rename_i h2
      rcases hw with rfl | rfl
      · exact nGet_base8 n (by
          by_cases hh : -72057594037927936 ≤ n ∧ n < 72057594037927936
          · exact hh
          · exact absurd ⟨rfl, hh⟩ h2)
      · exact nGet_base12 n hn

/-! ### texts -/
theorem loose_pad (s : Bs) (hs : s.any (· == 0) = false) (k : Nat) : loose (s ++ noughts k) = s := by
  unfold loose
  refine takeWhile_all _ _ _ (fun x hx => ?_) (fun x hx => ?_)
  · have := List.any_eq_false.1 hs x hx
    simpa using this
  · have hm := List.mem_of_mem_head? hx
    have : x = 0 := List.eq_of_mem_replicate hm
    subst this; rfl
theorem sPut_len (s : Bs) (w : Nat) (h : (sPut s w).2 = 0) : (sPut s w).1.length = w := by
  unfold sPut at h ⊢
  split
  · rename_i h1; rw [if_pos h1] at h; simp at h
  · rename_i h1
    rw [if_neg h1] at h
    split
    · rename_i h2; rw [if_pos h2] at h; simp at h
    · simp [noughts]; omega
theorem sGet_sPut (s : Bs) (w : Nat) (h : (sPut s w).2 = 0) : sGet (sPut s w).1 = (s, 0) := by
  unfold sPut at h ⊢
  split
  · rename_i h1; rw [if_pos h1] at h; simp at h
  · rename_i h1
    rw [if_neg h1] at h
    split
    · rename_i h2; rw [if_pos h2] at h; simp at h
    · have hz : s.any (· == 0) = false := Bool.eq_false_iff.2 h1
      unfold sGet
      simp only [loose_pad s hz]
      rw [List.drop_left, if_pos (by simp [noughts])]

/-! ### sums -/
theorem total_append (l r : Bs) : total (l ++ r) = total l + total r := by simp [total]
theorem total_le (l : Bs) : total l ≤ 255 * l.length := by
  induction l with
  | nil => simp [total]
  | cons a l ih =>
    have : a.toNat < 256 := UInt8.toNat_lt a
    have e : total (a :: l) = a.toNat + total l := by simp [total]
    rw [e, List.length_cons]
    omega
theorem hPut_len (b : Bs) (h : b.length = 512) : (hPut b).length = 512 := by
  unfold hPut
  simp [octs_length, h]
theorem hPut_drop (b : Bs) (h : b.length = 512) : (hPut b).drop 156 = b.drop 156 := by
  unfold hPut
  exact drop_at _ _ _ (by simp [octs_length, h])
theorem hPut_take (b : Bs) (h : b.length = 512) : (hPut b).take 148 = b.take 148 := by
  unfold hPut
  rw [List.append_assoc, List.append_assoc]
  exact take_at _ _ _ (by simp [h])
theorem hPut_mid (b : Bs) (h : b.length = 512) : ((hPut b).drop 148).take 8 = octs (hsum b) 6 ++ [0, 32] := by
  unfold hPut
  rw [show b.take 148 ++ octs (hsum b) 6 ++ [0, 32] ++ b.drop 156 = b.take 148 ++ ((octs (hsum b) 6 ++ [0, 32]) ++ b.drop 156) from by simp]
  rw [drop_at _ _ 148 (by simp [h])]
  exact take_at _ _ _ (by simp [octs_length])
theorem hsum_lt (b : Bs) (h : b.length = 512) : hsum b < 8 ^ 6 := by
  unfold hsum
  have h1 := total_le (b.take 148)
  have h2 := total_le (b.drop 156)
  rw [List.length_take, h] at h1
  rw [List.length_drop, h] at h2
  omega
/-- What is summed checks. -/
theorem hCheck_hPut (b : Bs) (h : b.length = 512) : hCheck (hPut b) = 0 := by
  have hs := hsum_lt b h
  have ht : told (hPut b) = ((hsum b : Int), 0) := by
    unfold told
    rw [hPut_mid b h, nGet_octs (hsum b) 6 [0, 32] (by omega) hs (by simp) rfl]
    simp only [ne_eq, not_true_eq_false, if_false]
    rw [if_neg (by omega)]
  have hh : hsum (hPut b) = hsum b := by
    unfold hsum
    rw [hPut_drop b h, hPut_take b h]
  unfold hCheck
  rw [if_neg (by rw [hPut_len b h]; simp), ht, hh]
  simp

end Go.Proofs.YtckgjbpgdpcnnaaGreatDoor.Pl
