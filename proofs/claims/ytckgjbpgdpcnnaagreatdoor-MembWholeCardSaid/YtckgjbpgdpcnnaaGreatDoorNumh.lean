/-
  THE CONTRACTS of package numf, on: unbase.
-/
import Derived.Test.YtckgjbpgdpcnnaaGreatDoorNumg
import Derived.Test.YtckgjbpgdpcnnaaGreatDoorLibs
import Derived.Laws.BitsAllLaws
import Derived.Laws.BitsLemmas
namespace Go.Proofs.YtckgjbpgdpcnnaaGreatDoor
set_option linter.all false
set_option linter.unusedVariables false
set_option linter.unusedSimpArgs false
open Go.RowKit Pl

/-- 'n<<8 | x' of an int64. -/
theorem or_byte (m x : Int) (h0 : -36028797018963968 ≤ m) (h1 : m < 36028797018963968) (hx : 0 ≤ x) (hx1 : x < 256) : bits .or .i64 (m * 256) x = m * 256 + x := by
  have e : (BitVec.ofInt 64 (m * 256) ||| BitVec.ofInt 64 x) = BitVec.ofInt 64 (m * 256 + x) := by
    have hz : BitVec.ofInt 64 (m * 256) &&& BitVec.ofInt 64 x = 0#64 := by
      have hs : BitVec.ofInt 64 (m * 256) = BitVec.ofInt 64 m <<< 8 := by
        rw [BitVec.ofInt_mul, BitVec.shiftLeft_eq_mul_twoPow]
        rfl
      rw [hs]
      apply BitVec.eq_of_getLsbD_eq
      intro i hi
      rw [BitVec.getLsbD_and, BitVec.getLsbD_shiftLeft]
      by_cases h8 : i < 8
      · simp [h8]
      · obtain ⟨xn, rfl⟩ := Int.eq_ofNat_of_zero_le hx
        have : (BitVec.ofInt 64 (xn : Int)).getLsbD i = false := by
          rw [BitVec.ofInt_natCast, BitVec.getLsbD_ofNat]
          rw [Nat.testBit_lt_two_pow (Nat.lt_of_lt_of_le (show xn < 2 ^ 8 by omega) (Nat.pow_le_pow_right (by omega) (by omega)))]
          simp
        rw [this]
        simp
    rw [← BitVec.add_eq_or_of_and_eq_zero _ _ hz, BitVec.ofInt_add]
  show IntKind.i64.wrap ((BitVec.ofInt 64 (m * 256) ||| BitVec.ofInt 64 x).toNat : Int) = _
  rw [e, IntKind.wrap_i64, BitVec.toNat_ofInt]
  omega

/-- What is known of the number so far, 'left' bytes being left. -/
structure UbInv (init : Int) (left : Nat) (m : Int) : Prop where
  big : 8 ≤ left → m = init
  small_ : left ≤ 7 → -(128 * 256 ^ (7 - left)) ≤ m ∧ m < 128 * 256 ^ (7 - left)
  ini : -1 ≤ init ∧ init ≤ 0
theorem UbInv.small {init m : Int} {left : Nat} (h : UbInv init left m) (hl : 1 ≤ left) : -36028797018963968 ≤ m ∧ m < 36028797018963968 := by
  by_cases h8 : 8 ≤ left
  · have := h.big h8; have := h.ini; omega
  · have hs := h.small_ (by omega)
    have h6 : (256 : Int) ^ (7 - left) ≤ 256 ^ 6 := by
      have : (256 : Nat) ^ (7 - left) ≤ 256 ^ 6 := Nat.pow_le_pow_right (by omega) (by omega)
      have e : ((256 ^ (7 - left) : Nat) : Int) = 256 ^ (7 - left) := by simp
      rw [← e]
      omega
    omega
theorem ub_start (init : Int) (n : Nat) (h : 7 ≤ n) (hi : -1 ≤ init ∧ init ≤ 0) : UbInv init (n - 0) init := ⟨fun _ => rfl, fun h7 => by
  obtain rfl : n = 7 := by omega
  simp
  omega, hi⟩
theorem UbInv.next_big {init m f : Int} {n k : Nat} (h : UbInv init (n - k) m) (h8 : 8 < n - k) (hf : init * 256 + f = init) : UbInv init (n - (k + 1)) (m * 256 + f) := by
  have hm := h.big (by omega)
  subst hm
  exact ⟨fun _ => hf, fun h7 => by omega, h.ini⟩
theorem UbInv.next_big0 {init m : Int} {n k : Nat} (h : UbInv init (n - k) m) (h8 : 8 < n - k) (hf : init * 256 = init) : UbInv init (n - (k + 1)) (m * 256) := by
  have := h.next_big (f := 0) h8 (by omega)
  simpa using this
theorem UbInv.next_8_neg {m : Int} {left : Nat} (h : UbInv (-1) left m) (x : UInt8) (h8 : left = 8) (hs : decide (128 ≤ x.toNat) = decide (128 ≤ (255 : UInt8).toNat)) : UbInv (-1) (left - 1) (m * 256 + x.toNat) := by
  have hm := h.big (by omega)
  subst hm
  subst h8
  have hx : 128 ≤ x.toNat := by simpa using hs
  have := x.toNat_lt
  exact ⟨fun h => by omega, fun _ => by simp; omega, h.ini⟩
theorem UbInv.next_8_pos {m : Int} {left : Nat} (h : UbInv 0 left m) (x : UInt8) (h8 : left = 8) (hs : decide (128 ≤ x.toNat) = decide (128 ≤ (0 : UInt8).toNat)) : UbInv 0 (left - 1) (m * 256 + x.toNat) := by
  have hm := h.big (by omega)
  subst hm
  subst h8
  have hx : ¬ 128 ≤ x.toNat := by simpa using hs
  exact ⟨fun h => by omega, fun _ => by simp; omega, h.ini⟩
theorem UbInv.next_small {init m : Int} {left : Nat} (h : UbInv init left m) (x : UInt8) (h7 : left ≤ 7) (h1 : 1 ≤ left) : UbInv init (left - 1) (m * 256 + x.toNat) := by
  have hs := h.small_ h7
  have hx := x.toNat_lt
  refine ⟨fun h => by omega, fun _ => ?_, h.ini⟩
  have e : (256 : Int) ^ (7 - (left - 1)) = 256 ^ (7 - left) * 256 := by
    rw [show 7 - (left - 1) = (7 - left) + 1 by omega, Int.pow_succ]
  rw [e]
  have hp : (0 : Int) < 256 ^ (7 - left) := Int.pow_pos (by omega)
  omega
theorem sign_neg_fin : ∀ x : Fin 256, (decide (128 ≤ x.val) = true → (bits .and .u8 (bits .xor .u8 (x.val : Int) 255) 128 != 0) = false) ∧ (decide (128 ≤ x.val) = false → (bits .and .u8 (bits .xor .u8 (x.val : Int) 255) 128 != 0) = true) := by decide +kernel
theorem sign_pos_fin : ∀ x : Fin 256, (decide (128 ≤ x.val) = false → (bits .and .u8 (bits .xor .u8 (x.val : Int) 0) 128 != 0) = false) ∧ (decide (128 ≤ x.val) = true → (bits .and .u8 (bits .xor .u8 (x.val : Int) 0) 128 != 0) = true) := by decide +kernel
theorem sign_neg (x : UInt8) : (decide (128 ≤ x.toNat) = decide (128 ≤ (255 : UInt8).toNat) → (bits .and .u8 (bits .xor .u8 (x.toNat : Int) 255) 128 != 0) = false) ∧ (¬ decide (128 ≤ x.toNat) = decide (128 ≤ (255 : UInt8).toNat) → (bits .and .u8 (bits .xor .u8 (x.toNat : Int) 255) 128 != 0) = true) := by
  have h := sign_neg_fin ⟨x.toNat, x.toNat_lt⟩
  have e : decide (128 ≤ (255 : UInt8).toNat) = true := rfl
  rw [e]
  exact ⟨h.1, fun hn => h.2 (by simpa using hn)⟩
theorem sign_pos (x : UInt8) : (decide (128 ≤ x.toNat) = decide (128 ≤ (0 : UInt8).toNat) → (bits .and .u8 (bits .xor .u8 (x.toNat : Int) 0) 128 != 0) = false) ∧ (¬ decide (128 ≤ x.toNat) = decide (128 ≤ (0 : UInt8).toNat) → (bits .and .u8 (bits .xor .u8 (x.toNat : Int) 0) 128 != 0) = true) := by
  have h := sign_pos_fin ⟨x.toNat, x.toNat_lt⟩
  have e : decide (128 ≤ (0 : UInt8).toNat) = false := rfl
  rw [e]
  exact ⟨h.1, fun hn => h.2 (by simpa using hn)⟩

set_option maxRecDepth 100000 in
set_option maxHeartbeats 1000000 in
theorem numf_unbase_neg (A : Option Addr) (n c : Nat) (l : Bs) (w : World) (hl : l.length = n) (hc : n ≤ c) (hlen : n ≤ 11) (hge : 7 ≤ n) (h : Rd w A l) :
    Calls Tryz.prog 134 #[.int .u8 255, .slice A n c] w fun e w' => e = .returned (.tuple #[.int .i64 (ubLoop 255 l (-1)).1, .int .i64 (ubLoop 255 l (-1)).2]) ∧ w = w' := by
  obtain ⟨R, hR⟩ : ∃ R, ubLoop 255 l (-1) = R := ⟨_, rfl⟩
  have HR := Lib.hid hR
  rw [hR]
  clear hR
  have E0 := Lib.hid (show wrap64 (IntKind.i8.wrap 255) = (-1) from by decide +kernel)
  go_enter Tryz.func134, Tryz.ntmps134
  go_wp2
  go_loop [7, 8, 9, 10, 18] (fun a _ _ _ i => ∃ k : Nat, k ≤ n ∧ i = .int .i64 k ∧ ∃ m : Int, a = .int .i64 m ∧ UbInv (-1) (n - k) m ∧ Hid (R = ubLoop 255 (l.drop k) m)) (fun _ _ _ _ i => n - (intOf i).toNat)
  case atStart => exact ⟨0, by omega, rfl, (-1), by first | rfl | rw [E0.out], ub_start _ _ hge (by omega), Lib.hid HR.out.symm⟩
  case round =>
    obtain ⟨k, hk, rfl, m, rfl, hi, hu⟩ := hrel
    by_cases hlt : k < n
    · obtain ⟨b, o, rfl, hcell⟩ := h.cell (j := k) (by omega)
      have hd : l.drop k = l.getD k 0 :: l.drop (k + 1) := by
        rw [List.drop_eq_getElem_cons (by omega)]
        simp [List.getD, List.getElem?_eq_getElem (show k < l.length by omega)]
      obtain ⟨x, hx⟩ : ∃ x : UInt8, l.getD k 0 = x := ⟨_, rfl⟩
      rw [hx] at hcell hd
      have hr : (l.drop (k + 1)).length = n - k - 1 := by rw [List.length_drop]; omega
      have hm := hi.small (by omega)
      have hb := x.toNat_lt
      have HI := Lib.hid hi
      have HD := Lib.hid hd
      have HLR := Lib.hid hr
      clear h hi hd hr hx
      by_cases h8 : 8 < n - k
      · by_cases hf : x = 255
        · subst hf
          have HU := Lib.hid (show R = ubLoop 255 (l.drop (k + 1)) (m * 256 + 255) from by rw [hu.out, HD.out, ubLoop, if_neg (by rw [HLR.out]; first | (simp; done) | (simp; omega))]; rfl)
          have ho := or_byte m 255 hm.1 hm.2 (by omega) (by omega)
          have hj : ¬ (n : Int) - k = 8 := by omega
          have hj2 : (8 : Int) < (n : Int) - k := by omega
          go_wp2
          go_round
          case rel => exact ⟨k + 1, by omega, by go_num, _, rfl, HI.out.next_big (by omega) (by omega), HU⟩
          case measure => simp [intOf]; omega
        · have HU := Lib.hid (show R = (0, 10) from by rw [hu.out, HD.out, ubLoop, if_pos (.inl ⟨by rw [HLR.out]; omega, hf⟩)])
          have hj2 : (8 : Int) < (n : Int) - k := by omega
          have hne : ((x.toNat : Int) != 255) = true := by rw [bne_iff_ne]; intro h; exact hf (UInt8.toNat_inj.1 (by simp; omega))
          go_wp2
          go_ret2
          rw [HU.out]
          exact ⟨rfl, rfl⟩
      · have hj2 : ¬ (8 : Int) < (n : Int) - k := by omega
        have hw : wrap64 (x.toNat : Int) = x.toNat := by unfold wrap64; omega
        have ho := or_byte m x.toNat hm.1 hm.2 (by omega) (by omega)
        by_cases h7 : n - k = 8
        · have hj : (n : Int) - k = 8 := by omega
          have hsg := sign_neg x
          by_cases hs : decide (128 ≤ x.toNat) = decide (128 ≤ (255 : UInt8).toNat)
          · have HU := Lib.hid (show R = ubLoop 255 (l.drop (k + 1)) (m * 256 + x.toNat) from by rw [hu.out, HD.out, ubLoop, if_neg (by rw [HLR.out]; simp only [not_or, not_and, ne_eq, Decidable.not_not]; exact ⟨fun h => by omega, fun _ => hs⟩)])
            have hbit := hsg.1 hs
            have HN := Lib.hid (HI.out.next_8_neg x h7 hs)
            clear hs hsg
            go_wp2
            go_round
            case rel => exact ⟨k + 1, by omega, by go_num, _, rfl, by rw [show n - (k + 1) = n - k - 1 by omega]; exact HN.out, HU⟩
            case measure => simp [intOf]; omega
          · have HU := Lib.hid (show R = (0, 10) from by rw [hu.out, HD.out, ubLoop, if_pos (.inr ⟨by rw [HLR.out]; omega, hs⟩)])
            have hbit := hsg.2 hs
            clear hs hsg
            go_wp2
            go_ret2
            rw [HU.out]
            exact ⟨rfl, rfl⟩
        · have hj : ¬ (n : Int) - k = 8 := by omega
          have HU := Lib.hid (show R = ubLoop 255 (l.drop (k + 1)) (m * 256 + x.toNat) from by rw [hu.out, HD.out, ubLoop, if_neg (by rw [HLR.out]; omega)])
          have HN := Lib.hid (HI.out.next_small x (by omega) (by omega))
          go_wp2
          go_round
          case rel => exact ⟨k + 1, by omega, by go_num, _, rfl, by rw [show n - (k + 1) = n - k - 1 by omega]; exact HN.out, HU⟩
          case measure => simp [intOf]; omega
    · obtain rfl : k = n := by omega
      have HU := Lib.hid (show R = (m, 0) from by rw [hu.out, List.drop_eq_nil_of_le (by omega)]; rfl)
      clear hu
      go_wp2
      go_ret2
      rw [HU.out]
      exact ⟨rfl, rfl⟩

set_option maxRecDepth 100000 in
set_option maxHeartbeats 1000000 in
theorem numf_unbase_pos (A : Option Addr) (n c : Nat) (l : Bs) (w : World) (hl : l.length = n) (hc : n ≤ c) (hlen : n ≤ 11) (hge : 7 ≤ n) (h : Rd w A l) :
    Calls Tryz.prog 134 #[.int .u8 128, .slice A n c] w fun e w' => e = .returned (.tuple #[.int .i64 (ubLoop 0 l 0).1, .int .i64 (ubLoop 0 l 0).2]) ∧ w = w' := by
  obtain ⟨R, hR⟩ : ∃ R, ubLoop 0 l 0 = R := ⟨_, rfl⟩
  have HR := Lib.hid hR
  rw [hR]
  clear hR
  have E0 := Lib.hid (show wrap64 (IntKind.i8.wrap 0) = 0 from by decide +kernel)
  go_enter Tryz.func134, Tryz.ntmps134
  go_wp2
  go_loop [7, 8, 9, 10, 18] (fun a _ _ _ i => ∃ k : Nat, k ≤ n ∧ i = .int .i64 k ∧ ∃ m : Int, a = .int .i64 m ∧ UbInv 0 (n - k) m ∧ Hid (R = ubLoop 0 (l.drop k) m)) (fun _ _ _ _ i => n - (intOf i).toNat)
  case atStart => exact ⟨0, by omega, rfl, 0, by first | rfl | rw [E0.out], ub_start _ _ hge (by omega), Lib.hid HR.out.symm⟩
  case round =>
    obtain ⟨k, hk, rfl, m, rfl, hi, hu⟩ := hrel
    by_cases hlt : k < n
    · obtain ⟨b, o, rfl, hcell⟩ := h.cell (j := k) (by omega)
      have hd : l.drop k = l.getD k 0 :: l.drop (k + 1) := by
        rw [List.drop_eq_getElem_cons (by omega)]
        simp [List.getD, List.getElem?_eq_getElem (show k < l.length by omega)]
      obtain ⟨x, hx⟩ : ∃ x : UInt8, l.getD k 0 = x := ⟨_, rfl⟩
      rw [hx] at hcell hd
      have hr : (l.drop (k + 1)).length = n - k - 1 := by rw [List.length_drop]; omega
      have hm := hi.small (by omega)
      have hb := x.toNat_lt
      have HI := Lib.hid hi
      have HD := Lib.hid hd
      have HLR := Lib.hid hr
      clear h hi hd hr hx
      by_cases h8 : 8 < n - k
      · by_cases hf : x = 0
        · subst hf
          have HU := Lib.hid (show R = ubLoop 0 (l.drop (k + 1)) (m * 256) from by rw [hu.out, HD.out, ubLoop, if_neg (by rw [HLR.out]; first | (simp; done) | (simp; omega))]; simp)
          have ho := or_byte m 0 hm.1 hm.2 (by omega) (by omega)
          have hj : ¬ (n : Int) - k = 8 := by omega
          have hj2 : (8 : Int) < (n : Int) - k := by omega
          go_wp2
          go_round
          case rel => exact ⟨k + 1, by omega, by go_num, _, rfl, HI.out.next_big0 (by omega) (by omega), HU⟩
          case measure => simp [intOf]; omega
        · have HU := Lib.hid (show R = (0, 10) from by rw [hu.out, HD.out, ubLoop, if_pos (.inl ⟨by rw [HLR.out]; omega, hf⟩)])
          have hj2 : (8 : Int) < (n : Int) - k := by omega
          have hne : ((x.toNat : Int) != 0) = true := by rw [bne_iff_ne]; intro h; exact hf (UInt8.toNat_inj.1 (by simp; omega))
          go_wp2
          go_ret2
          rw [HU.out]
          exact ⟨rfl, rfl⟩
      · have hj2 : ¬ (8 : Int) < (n : Int) - k := by omega
        have hw : wrap64 (x.toNat : Int) = x.toNat := by unfold wrap64; omega
        have ho := or_byte m x.toNat hm.1 hm.2 (by omega) (by omega)
        by_cases h7 : n - k = 8
        · have hj : (n : Int) - k = 8 := by omega
          have hsg := sign_pos x
          by_cases hs : decide (128 ≤ x.toNat) = decide (128 ≤ (0 : UInt8).toNat)
          · have HU := Lib.hid (show R = ubLoop 0 (l.drop (k + 1)) (m * 256 + x.toNat) from by rw [hu.out, HD.out, ubLoop, if_neg (by rw [HLR.out]; simp only [not_or, not_and, ne_eq, Decidable.not_not]; exact ⟨fun h => by omega, fun _ => hs⟩)])
            have hbit := hsg.1 hs
            have HN := Lib.hid (HI.out.next_8_pos x h7 hs)
            clear hs hsg
            go_wp2
            go_round
            case rel => exact ⟨k + 1, by omega, by go_num, _, rfl, by rw [show n - (k + 1) = n - k - 1 by omega]; exact HN.out, HU⟩
            case measure => simp [intOf]; omega
          · have HU := Lib.hid (show R = (0, 10) from by rw [hu.out, HD.out, ubLoop, if_pos (.inr ⟨by rw [HLR.out]; omega, hs⟩)])
            have hbit := hsg.2 hs
            clear hs hsg
            go_wp2
            go_ret2
            rw [HU.out]
            exact ⟨rfl, rfl⟩
        · have hj : ¬ (n : Int) - k = 8 := by omega
          have HU := Lib.hid (show R = ubLoop 0 (l.drop (k + 1)) (m * 256 + x.toNat) from by rw [hu.out, HD.out, ubLoop, if_neg (by rw [HLR.out]; omega)])
          have HN := Lib.hid (HI.out.next_small x (by omega) (by omega))
          go_wp2
          go_round
          case rel => exact ⟨k + 1, by omega, by go_num, _, rfl, by rw [show n - (k + 1) = n - k - 1 by omega]; exact HN.out, HU⟩
          case measure => simp [intOf]; omega
    · obtain rfl : k = n := by omega
      have HU := Lib.hid (show R = (m, 0) from by rw [hu.out, List.drop_eq_nil_of_le (by omega)]; rfl)
      clear hu
      go_wp2
      go_ret2
      rw [HU.out]
      exact ⟨rfl, rfl⟩
end Go.Proofs.YtckgjbpgdpcnnaaGreatDoor
