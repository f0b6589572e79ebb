/-
  THE CONTRACTS of package numf: numbers in a header's fields.
-/
import Derived.Test.YtckgjbpgdpcnnaaGreatDoorBase
namespace Go.Proofs.YtckgjbpgdpcnnaaGreatDoor
set_option linter.all false
set_option linter.unusedVariables false
set_option linter.unusedSimpArgs false
open Go.RowKit Pl

theorem most_fin : ∀ k : Fin 21, wrap64 (wrap64 (2 ^ (3 * (k.val : Int)).toNat) - 1) = 8 ^ k.val - 1 := by decide +kernel
theorem most_val (k : Nat) (h : k ≤ 20) : wrap64 (wrap64 (2 ^ (3 * (k : Int)).toNat) - 1) = 8 ^ k - 1 := most_fin ⟨k, by omega⟩

theorem most_int (d : Nat) : ((most d : Nat) : Int) = 8 ^ d - 1 := by
  have h : 1 ≤ 8 ^ d := Nat.one_le_pow _ _ (by omega)
  have e : ((8 ^ d : Nat) : Int) = 8 ^ d := by simp
  unfold most
  omega

set_option maxHeartbeats 400000 in
theorem numf_Most (d : Nat) (h1 : d ≤ 20) (w : World) :
    Calls Tryz.prog 159 #[.int .i64 d] w fun e w' => e = .returned (.int .i64 (most d : Nat)) ∧ w = w' := by
  have H := Lib.hid ((most_val d h1).trans (most_int d).symm)
  have h2 : ¬ ((d : Int) < 0) := by omega
  go_enter Tryz.func159, Tryz.ntmps159
  go_wp2
  all_goals (go_ret; rw [← H.out]; exact ⟨rfl, rfl⟩)

set_option maxHeartbeats 400000 in
theorem numf_isWidth (n : Int) (w : World) :
    Calls Tryz.prog 131 #[.int .i64 n] w fun e w' => e = .returned (.bool (n == 8 || n == 12)) ∧ w = w' := by
  go_enter Tryz.func131, Tryz.ntmps131
  by_cases h : n = 8
  · subst h
    go_wp2
    go_ret
    exact ⟨rfl, rfl⟩
  · go_wp2
    go_ret
    exact ⟨rfl, rfl⟩

/-- The digits so far, and noughts. -/
def octsTo (n d k : Nat) : Bs := (List.range d).map fun i => if i < k then octDig n (d - 1 - i) else 0
theorem octsTo_len (n d k : Nat) : (octsTo n d k).length = d := by simp [octsTo]
theorem octsTo_zero (n d : Nat) : octsTo n d 0 = noughts d := by
  simp only [octsTo, Nat.not_lt_zero, if_false, noughts]
  exact List.map_const' .. |>.trans (by simp)
theorem octsTo_end (n d : Nat) : octsTo n d d = octs n d := by
  unfold octsTo octs
  apply List.map_congr_left
  intro i hi
  rw [if_pos (List.mem_range.1 hi)]
theorem octsTo_succ (n d k : Nat) (h : k < d) : (octsTo n d k).set k (octDig n (d - 1 - k)) = octsTo n d (k + 1) := by
  apply List.ext_getElem
  · simp [octsTo]
  · intro i h1 h2
    simp only [octsTo, List.getElem_set, List.getElem_map, List.getElem_range]
    by_cases e : k = i
    · subst e; simp
    · rw [if_neg e]
      by_cases l : i < k
      · rw [if_pos l, if_pos (by omega)]
      · rw [if_neg l, if_neg (by omega)]
theorem octDig_toNat (n k : Nat) : (octDig n k).toNat = 48 + n / 8 ^ k % 8 := by
  unfold octDig
  rw [UInt8.toNat_ofNat']
  omega

theorem oct_shift (n d k : Nat) (h : k < d) : (48 + (n : Int) / 2 ^ (3 * (d - 1 - k)) % 8) = ((octDig n (d - 1 - k)).toNat : Int) := by
  have e : (2 : Int) ^ (3 * (d - 1 - k)) = ((8 ^ (d - 1 - k) : Nat) : Int) := by rw [Int.pow_mul]; simp
  rw [octDig_toNat, e]
  simp

set_option maxHeartbeats 1000000 in
theorem numf_Octal (n d : Nat) (h1 : 1 ≤ d) (h2 : d ≤ 20) (hn : n ≤ most d) (hn2 : n ≤ 9223372036854775807) (w : World) :
    Calls Tryz.prog 127 #[.int .i64 n, .int .i64 d] w fun e w' =>
      ∃ v, e = .returned (.tuple #[v, .int .i64 0]) ∧ w'.ownsRow w.heap.size 5 1 v d (bcs (octs n d)) ∧ Below w.heap.size w w' := by
  have hb : decide (most d < n) = false := by simp; omega
  have c1 : ¬ ((d : Int) < 1) := by omega
  have c2 : ¬ ((20 : Int) < (d : Int)) := by omega
  have c3 : ¬ ((n : Int) < 0) := by omega
  have hmk := mk_bytes d (by omega)
  have hn' : ¬ (most d < n) := by omega
  go_enter Tryz.func127, Tryz.ntmps127
  go_wp2_with (go_at_call 159; refine (numf_Most d h2 _).mono ?_; rintro e w' ⟨rfl, rfl⟩)
  have HS := Lib.hid (own_new w w.heap.size d (Nat.le_refl _) (by omega))
  have HB := Lib.hid ((Below.refl w.heap.size w).alloc (Nat.le_refl _) (.cells (madeCells #[.int .u8 0] d) 5))
  go_loopw [7, 28] (fun x i wr => ∃ k : Nat, k ≤ d ∧ i = .int .i64 k ∧ wr.ownsRow w.heap.size 5 1 (.slice (some ⟨w.heap.size, 0, none⟩) d d) d (bcs (octsTo n d k)) ∧ Below w.heap.size w wr) (fun _ i _ => d - (intOf i).toNat)
  case atStart => exact ⟨0, by omega, rfl, by rw [octsTo_zero]; exact HS.out, HB.out⟩
  case round =>
    obtain ⟨k, hk, rfl, how, hbe⟩ := hrel
    by_cases hlt : k < d
    · obtain ⟨hc, hf⟩ := own_cell how hlt
      have HO := Lib.hid how
      have HE := Lib.hid hbe
      have HQ := Lib.hid (oct_shift n d k hlt)
      clear how hbe
      go_wp2
      go_roundw
      case rel => exact ⟨k + 1, by omega, by go_num, by rw [HQ.out, ← octsTo_succ n d k hlt]; exact own_put HO.out _ _, HE.out.setCell (by simp) _⟩
      case measure => simp [intOf]; omega
    · obtain rfl : k = d := by omega
      rw [octsTo_end] at how
      have HO := Lib.hid how
      have HE := Lib.hid hbe
      clear how hbe
      go_wp2
      go_ret2
      exact ⟨_, rfl, HO.out, HE.out⟩

set_option maxHeartbeats 1000000 in
theorem numf_Plain (n : Int) (d : Nat) (hd : d = 8 ∨ d = 12) (h0 : -9223372036854775808 ≤ n) (h1 : n ≤ 9223372036854775807) (w : World) :
    Calls Tryz.prog 157 #[.int .i64 n, .int .i64 d] w fun e w' => e = .returned (.bool (isPlain n d)) ∧ w = w' := by
  have hw : ((d : Int) == 8 || (d : Int) == 12) = true := by rcases hd with rfl | rfl <;> rfl
  have hd1 : 1 ≤ d := by rcases hd with rfl | rfl <;> omega
  have hd2 : d ≤ 20 := by rcases hd with rfl | rfl <;> omega
  have e1 : ((d : Int) - 1) = ((d - 1 : Nat) : Int) := by omega
  have E1 := Lib.hid e1
  have HW := Lib.hid hw
  clear e1 hw hd
  by_cases hn : 0 ≤ n
  · go_enter Tryz.func157, Tryz.ntmps157
    go_wp2_with (first | (go_at_call 131; refine (numf_isWidth _ _).mono ?_; rintro e w' ⟨rfl, rfl⟩; rw [HW.out]) | (go_at_call 159; rw [E1.out]; refine (numf_Most _ (by omega) _).mono ?_; rintro e w' ⟨rfl, rfl⟩))
    go_ret
    exact ⟨by simp [isPlain, hn], rfl⟩
  · go_enter Tryz.func157, Tryz.ntmps157
    go_wp2_with (first | (go_at_call 131; refine (numf_isWidth _ _).mono ?_; rintro e w' ⟨rfl, rfl⟩; rw [HW.out]) | (go_at_call 159; rw [E1.out]; refine (numf_Most _ (by omega) _).mono ?_; rintro e w' ⟨rfl, rfl⟩))
    go_ret
    exact ⟨by simp [isPlain]; omega, rfl⟩

/-! ### base 256 -/
theorem pow63 : (2 : Int) ^ 63 = 9223372036854775808 := by decide +kernel
theorem b256_toNat (n : Int) (k : Nat) : ((b256 n k).toNat : Int) = n / 2 ^ (min (8 * k) 63) % 256 := by
  unfold b256
  have h0 : 0 ≤ n / 2 ^ (min (8 * k) 63) % 256 := Int.emod_nonneg _ (by omega)
  have h1 : n / 2 ^ (min (8 * k) 63) % 256 < 256 := Int.emod_lt_of_pos _ (by omega)
  rw [UInt8.toNat_ofNat']
  omega
/-- The bytes so far. -/
def baseTo (n : Int) (w j : Nat) : Bs := (if n < 0 then 255 else 128) :: (List.range j).map fun i => b256 n (w - 2 - i)
theorem baseTo_succ (n : Int) (w j : Nat) : baseTo n w j ++ [b256 n (w - 2 - j)] = baseTo n w (j + 1) := by simp [baseTo, List.range_succ]
theorem baseTo_len (n : Int) (w j : Nat) : (baseTo n w j).length = j + 1 := by simp [baseTo]

set_option maxHeartbeats 1000000 in
theorem numf_base_big (n : Int) (hb : ¬ (-72057594037927936 ≤ n ∧ n < 72057594037927936)) (h0 : -9223372036854775808 ≤ n) (h1 : n ≤ 9223372036854775807) (w : World) :
    Calls Tryz.prog 158 #[.int .i64 n, .int .i64 8] w fun e w' => e = .returned (.tuple #[.slice none 0 0, .int .i64 10]) ∧ w = w' := by
  have hne : (n / 72057594037927936 != n / 9223372036854775808) = true := by rw [bne_iff_ne]; omega
  by_cases hn : n < 0
  · go_enter Tryz.func158, Tryz.ntmps158
    go_wp2
    go_ret2
    exact ⟨rfl, rfl⟩
  · go_enter Tryz.func158, Tryz.ntmps158
    go_wp2
    go_ret2
    exact ⟨rfl, rfl⟩

set_option maxRecDepth 100000 in
set_option maxHeartbeats 2000000 in
theorem numf_base8 (n : Int) (hb : -72057594037927936 ≤ n ∧ n < 72057594037927936) (h0 : -9223372036854775808 ≤ n) (h1 : n ≤ 9223372036854775807) (w : World) :
    Calls Tryz.prog 158 #[.int .i64 n, .int .i64 8] w fun e w' =>
      ∃ v, e = .returned (.tuple #[v, .int .i64 0]) ∧ w'.ownsRow w.heap.size 5 1 v 8 (bcs (baseB n 8)) ∧ Below w.heap.size w w' := by
  have hne : (n / 72057594037927936 != n / 9223372036854775808) = false := by rw [bne_eq_false_iff_eq]; omega
  by_cases hn : n < 0
  · have HO := Lib.hid (show (w.alloc (.cells #[.int .u8 255] 5)).ownsRow w.heap.size 5 1 (.slice (some ⟨w.heap.size, 0, none⟩) 1 1) 1 (bcs (baseTo n 8 0)) from by
      have h := World.ownsRow_lit (base := w.heap.size) (e := 5) (size := 1) w #[.int .u8 255] 1 (Nat.le_refl _) (by unfold maxLen; omega) rfl
      have e : baseTo n 8 0 = [255] := by unfold baseTo; rw [if_pos hn]; rfl
      rw [e]
      exact h)
    have HB := Lib.hid ((Below.refl w.heap.size w).alloc (Nat.le_refl _) (.cells #[.int .u8 255] 5))
    go_enter Tryz.func158, Tryz.ntmps158
    go_wp2
    go_loopw [8, 9] (fun v i wr => ∃ j : Nat, j ≤ 7 ∧ i = .int .i64 (6 - (j : Int)) ∧ wr.ownsRow w.heap.size 5 1 v (j + 1) (bcs (baseTo n 8 j)) ∧ Below w.heap.size w wr) (fun _ i _ => (intOf i + 1).toNat)
    case atStart => exact ⟨0, by omega, rfl, HO.out, HB.out⟩
    case round =>
      obtain ⟨j, hj, rfl, how, hbe⟩ := hrel
      have HO1 := Lib.hid how
      have HE := Lib.hid hbe
      have hsz := hbe.size
      clear how hbe
      by_cases hlt : j < 7
      · have hx : ¬ (63 : Int) < 8 * (6 - (j : Int)) := by omega
        have HQ := Lib.hid (show n / 2 ^ (8 * (6 - j)) % 256 = ((b256 n (6 - j)).toNat : Int) from by rw [b256_toNat, Nat.min_eq_left (by omega)])
        go_wp2_with (at_builtin; go_must (refine app_byte (w0 := w) w.heap.size rfl _ _ rfl _ (j + 1) (baseTo n 8 j) (b256 n (6 - j)) _ HQ.out (by rfl) (by rfl) HO1.out HE.out hsz (by omega) ?_); intro v1 w1 HO2 HB2 _; have HO3 := Lib.hid HO2; have HB3 := Lib.hid HB2; clear HO2 HB2)
        go_roundw
        case rel => exact ⟨j + 1, by omega, by go_num, by rw [← baseTo_succ]; exact HO3.out, HB3.out⟩
        case measure => simp [intOf]; omega
      · obtain rfl : j = 7 := by omega
        go_wp2
        go_ret2
        exact ⟨_, rfl, HO1.out, HE.out⟩
  · have HO := Lib.hid (show (w.alloc (.cells #[.int .u8 128] 5)).ownsRow w.heap.size 5 1 (.slice (some ⟨w.heap.size, 0, none⟩) 1 1) 1 (bcs (baseTo n 8 0)) from by
      have h := World.ownsRow_lit (base := w.heap.size) (e := 5) (size := 1) w #[.int .u8 128] 1 (Nat.le_refl _) (by unfold maxLen; omega) rfl
      have e : baseTo n 8 0 = [128] := by unfold baseTo; rw [if_neg (by omega)]; rfl
      rw [e]
      exact h)
    have HB := Lib.hid ((Below.refl w.heap.size w).alloc (Nat.le_refl _) (.cells #[.int .u8 128] 5))
    go_enter Tryz.func158, Tryz.ntmps158
    go_wp2
    go_loopw [8, 9] (fun v i wr => ∃ j : Nat, j ≤ 7 ∧ i = .int .i64 (6 - (j : Int)) ∧ wr.ownsRow w.heap.size 5 1 v (j + 1) (bcs (baseTo n 8 j)) ∧ Below w.heap.size w wr) (fun _ i _ => (intOf i + 1).toNat)
    case atStart => exact ⟨0, by omega, rfl, HO.out, HB.out⟩
    case round =>
      obtain ⟨j, hj, rfl, how, hbe⟩ := hrel
      have HO1 := Lib.hid how
      have HE := Lib.hid hbe
      have hsz := hbe.size
      clear how hbe
      by_cases hlt : j < 7
      · have hx : ¬ (63 : Int) < 8 * (6 - (j : Int)) := by omega
        have HQ := Lib.hid (show n / 2 ^ (8 * (6 - j)) % 256 = ((b256 n (6 - j)).toNat : Int) from by rw [b256_toNat, Nat.min_eq_left (by omega)])
        go_wp2_with (at_builtin; go_must (refine app_byte (w0 := w) w.heap.size rfl _ _ rfl _ (j + 1) (baseTo n 8 j) (b256 n (6 - j)) _ HQ.out (by rfl) (by rfl) HO1.out HE.out hsz (by omega) ?_); intro v1 w1 HO2 HB2 _; have HO3 := Lib.hid HO2; have HB3 := Lib.hid HB2; clear HO2 HB2)
        go_roundw
        case rel => exact ⟨j + 1, by omega, by go_num, by rw [← baseTo_succ]; exact HO3.out, HB3.out⟩
        case measure => simp [intOf]; omega
      · obtain rfl : j = 7 := by omega
        go_wp2
        go_ret2
        exact ⟨_, rfl, HO1.out, HE.out⟩

set_option maxRecDepth 100000 in
set_option maxHeartbeats 2000000 in
theorem numf_base12 (n : Int) (h0 : -9223372036854775808 ≤ n) (h1 : n ≤ 9223372036854775807) (w : World) :
    Calls Tryz.prog 158 #[.int .i64 n, .int .i64 12] w fun e w' =>
      ∃ v, e = .returned (.tuple #[v, .int .i64 0]) ∧ w'.ownsRow w.heap.size 5 1 v 12 (bcs (baseB n 12)) ∧ Below w.heap.size w w' := by
  by_cases hn : n < 0
  · have HO := Lib.hid (show (w.alloc (.cells #[.int .u8 255] 5)).ownsRow w.heap.size 5 1 (.slice (some ⟨w.heap.size, 0, none⟩) 1 1) 1 (bcs (baseTo n 12 0)) from by
      have h := World.ownsRow_lit (base := w.heap.size) (e := 5) (size := 1) w #[.int .u8 255] 1 (Nat.le_refl _) (by unfold maxLen; omega) rfl
      have e : baseTo n 12 0 = [255] := by unfold baseTo; rw [if_pos hn]; rfl
      rw [e]
      exact h)
    have HB := Lib.hid ((Below.refl w.heap.size w).alloc (Nat.le_refl _) (.cells #[.int .u8 255] 5))
    go_enter Tryz.func158, Tryz.ntmps158
    go_wp2
    go_loopw [8, 9] (fun v i wr => ∃ j : Nat, j ≤ 11 ∧ i = .int .i64 (10 - (j : Int)) ∧ wr.ownsRow w.heap.size 5 1 v (j + 1) (bcs (baseTo n 12 j)) ∧ Below w.heap.size w wr) (fun _ i _ => (intOf i + 1).toNat)
    case atStart => exact ⟨0, by omega, rfl, HO.out, HB.out⟩
    case round =>
      obtain ⟨j, hj, rfl, how, hbe⟩ := hrel
      have HO1 := Lib.hid how
      have HE := Lib.hid hbe
      have hsz := hbe.size
      clear how hbe
      by_cases hlt : j < 11
      · by_cases h3 : 3 ≤ j
        · have hx : ¬ (63 : Int) < 8 * (10 - (j : Int)) := by omega
          have HQ := Lib.hid (show n / 2 ^ (8 * (10 - j)) % 256 = ((b256 n (10 - j)).toNat : Int) from by rw [b256_toNat, Nat.min_eq_left (by omega)])
          go_wp2_with (at_builtin; go_must (refine app_byte (w0 := w) w.heap.size rfl _ _ rfl _ (j + 1) (baseTo n 12 j) (b256 n (10 - j)) _ HQ.out (by rfl) (by rfl) HO1.out HE.out hsz (by omega) ?_); intro v1 w1 HO2 HB2 _; have HO3 := Lib.hid HO2; have HB3 := Lib.hid HB2; clear HO2 HB2)
          go_roundw
          case rel => exact ⟨j + 1, by omega, by go_num, by rw [← baseTo_succ]; exact HO3.out, HB3.out⟩
          case measure => simp [intOf]; omega
        · have hx : (63 : Int) < 8 * (10 - (j : Int)) := by omega
          have HQ := Lib.hid (show n / 9223372036854775808 % 256 = ((b256 n (10 - j)).toNat : Int) from by rw [b256_toNat, Nat.min_eq_right (by omega), pow63])
          go_wp2_with (at_builtin; go_must (refine app_byte (w0 := w) w.heap.size rfl _ _ rfl _ (j + 1) (baseTo n 12 j) (b256 n (10 - j)) _ HQ.out (by rfl) (by rfl) HO1.out HE.out hsz (by omega) ?_); intro v1 w1 HO2 HB2 _; have HO3 := Lib.hid HO2; have HB3 := Lib.hid HB2; clear HO2 HB2)
          go_roundw
          case rel => exact ⟨j + 1, by omega, by go_num, by rw [← baseTo_succ]; exact HO3.out, HB3.out⟩
          case measure => simp [intOf]; omega
      · obtain rfl : j = 11 := by omega
        go_wp2
        go_ret2
        exact ⟨_, rfl, HO1.out, HE.out⟩
  · have HO := Lib.hid (show (w.alloc (.cells #[.int .u8 128] 5)).ownsRow w.heap.size 5 1 (.slice (some ⟨w.heap.size, 0, none⟩) 1 1) 1 (bcs (baseTo n 12 0)) from by
      have h := World.ownsRow_lit (base := w.heap.size) (e := 5) (size := 1) w #[.int .u8 128] 1 (Nat.le_refl _) (by unfold maxLen; omega) rfl
      have e : baseTo n 12 0 = [128] := by unfold baseTo; rw [if_neg (by omega)]; rfl
      rw [e]
      exact h)
    have HB := Lib.hid ((Below.refl w.heap.size w).alloc (Nat.le_refl _) (.cells #[.int .u8 128] 5))
    go_enter Tryz.func158, Tryz.ntmps158
    go_wp2
    go_loopw [8, 9] (fun v i wr => ∃ j : Nat, j ≤ 11 ∧ i = .int .i64 (10 - (j : Int)) ∧ wr.ownsRow w.heap.size 5 1 v (j + 1) (bcs (baseTo n 12 j)) ∧ Below w.heap.size w wr) (fun _ i _ => (intOf i + 1).toNat)
    case atStart => exact ⟨0, by omega, rfl, HO.out, HB.out⟩
    case round =>
      obtain ⟨j, hj, rfl, how, hbe⟩ := hrel
      have HO1 := Lib.hid how
      have HE := Lib.hid hbe
      have hsz := hbe.size
      clear how hbe
      by_cases hlt : j < 11
      · by_cases h3 : 3 ≤ j
        · have hx : ¬ (63 : Int) < 8 * (10 - (j : Int)) := by omega
          have HQ := Lib.hid (show n / 2 ^ (8 * (10 - j)) % 256 = ((b256 n (10 - j)).toNat : Int) from by rw [b256_toNat, Nat.min_eq_left (by omega)])
          go_wp2_with (at_builtin; go_must (refine app_byte (w0 := w) w.heap.size rfl _ _ rfl _ (j + 1) (baseTo n 12 j) (b256 n (10 - j)) _ HQ.out (by rfl) (by rfl) HO1.out HE.out hsz (by omega) ?_); intro v1 w1 HO2 HB2 _; have HO3 := Lib.hid HO2; have HB3 := Lib.hid HB2; clear HO2 HB2)
          go_roundw
          case rel => exact ⟨j + 1, by omega, by go_num, by rw [← baseTo_succ]; exact HO3.out, HB3.out⟩
          case measure => simp [intOf]; omega
        · have hx : (63 : Int) < 8 * (10 - (j : Int)) := by omega
          have HQ := Lib.hid (show n / 9223372036854775808 = ((b256 n (10 - j)).toNat : Int) from by rw [b256_toNat, Nat.min_eq_right (by omega), pow63]; omega)
          go_wp2_with (at_builtin; go_must (refine app_byte (w0 := w) w.heap.size rfl _ _ rfl _ (j + 1) (baseTo n 12 j) (b256 n (10 - j)) _ HQ.out (by rfl) (by rfl) HO1.out HE.out hsz (by omega) ?_); intro v1 w1 HO2 HB2 _; have HO3 := Lib.hid HO2; have HB3 := Lib.hid HB2; clear HO2 HB2)
          go_roundw
          case rel => exact ⟨j + 1, by omega, by go_num, by rw [← baseTo_succ]; exact HO3.out, HB3.out⟩
          case measure => simp [intOf]; omega
      · obtain rfl : j = 11 := by omega
        go_wp2
        go_ret2
        exact ⟨_, rfl, HO1.out, HE.out⟩
end Go.Proofs.YtckgjbpgdpcnnaaGreatDoor
