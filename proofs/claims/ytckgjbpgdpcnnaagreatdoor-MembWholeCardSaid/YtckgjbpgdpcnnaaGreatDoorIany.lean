/-
  strings.IndexAny, strings.ContainsAny: whatever text, signs of ASCII.
-/
import Derived.Test.YtckgjbpgdpcnnaaGreatDoorIrune
import Derived.Test.YtckgjbpgdpcnnaaGreatDoorPureF
namespace Go.Proofs.YtckgjbpgdpcnnaaGreatDoor
set_option linter.all false
set_option linter.unusedVariables false
set_option linter.unusedSimpArgs false
open Go.RowKit Pl

set_option maxRecDepth 100000 in
set_option maxHeartbeats 1000000 in
theorem irune_low (s : ByteArray) (x : UInt8) (w : World) (hx : x.toNat < 128) : Calls Tryz.prog 212 #[.string s, .int .i32 (x.toNat : Int)] w fun e w' => e = .returned (.int .i64 (Lib.indexByte s.data.toList x)) ∧ Below w.heap.size w w' := by
  go_enter Tryz.func212, Tryz.ntmps212
  go_wp2_with (go_at_call 49; refine (lib_IndexByte s x _).mono ?_; rintro e w' ⟨rfl, rfl⟩)
  go_ret
  exact ⟨rfl, Below.refl _ _⟩
/-- At a rune beyond ASCII. -/
theorem irune_high (s : ByteArray) (r : Int) (w : World) (hs : Asc s) (hl : s.size ≤ 1000) (h0 : 128 ≤ r) : Calls Tryz.prog 212 #[.string s, .int .i32 r] w fun e w' => e = .returned (.int .i64 (-1)) ∧ Below w.heap.size w w' := by
  by_cases h1 : r = 65533
  · subst h1; exact irune_err s w hs
  · cases hv : validRune r with
    | false => exact (irune_bad s r w h0 h1 hv).mono fun e w' ⟨h1, h2⟩ => ⟨h1, h2 ▸ Below.refl _ _⟩
    | true =>
      refine irune_ok s r w hs hl h0 ?_ h1 hv
      unfold validRune at hv
      have := of_decide_eq_true hv
      omega
theorem get_of (s : ByteArray) (i : Nat) (h : i < s.size) : s.get! i = s[i]'h := by
  simp [ByteArray.get!, getElem!_pos, h]
  rfl
/-- All bytes of a rune beyond ASCII are beyond ASCII. -/
theorem decode_bytes (s : ByteArray) (pos : Nat) (h : pos < s.size) (ha : 128 ≤ (s[pos]'h).toNat) : ∀ j, j < (Utf8.decode s pos).2 → ∀ b, s.data.toList[pos + j]? = some b → 128 ≤ b.toNat := by
  have hn : ¬ (s[pos]'h).toNat < 128 := by omega
  have h0 : ∀ b, s.data.toList[pos + 0]? = some b → 128 ≤ b.toNat := by
    intro b hb
    rw [Nat.add_zero, Lib.data_getElem? s pos h] at hb
    injection hb with hb
    rw [← hb]; exact ha
  have hk : ∀ k, (decide (pos + k < s.size) && (s.get! (pos + k)).toNat / 64 == 2) = true → ∀ b, s.data.toList[pos + k]? = some b → 128 ≤ b.toNat := by
    intro k hk b hb
    rw [Bool.and_eq_true, decide_eq_true_eq, beq_iff_eq] at hk
    rw [Lib.data_getElem? s (pos + k) hk.1] at hb
    injection hb with hb
    rw [get_of s _ hk.1, hb] at hk
    omega
  intro j hj b hb
  simp only [Utf8.decode, get_at s pos h, hn, if_false] at hj
  have one : j < 1 → 128 ≤ b.toNat := fun h1 => by
    obtain rfl : j = 0 := by omega
    exact h0 b hb
  split at hj
  · rename_i hc
    rw [Bool.and_eq_true] at hc
    split at hj
    · have : j = 0 ∨ j = 1 := by simp at hj; omega
      rcases this with rfl | rfl
      · exact h0 b hb
      · exact hk 1 hc.2 b hb
    · exact one hj
  · split at hj
    · rename_i hc
      rw [Bool.and_eq_true, Bool.and_eq_true] at hc
      split at hj
      · have : j = 0 ∨ j = 1 ∨ j = 2 := by simp at hj; omega
        rcases this with rfl | rfl | rfl
        · exact h0 b hb
        · exact hk 1 hc.1.2 b hb
        · exact hk 2 hc.2 b hb
      · exact one hj
    · split at hj
      · rename_i hc
        rw [Bool.and_eq_true, Bool.and_eq_true, Bool.and_eq_true] at hc
        split at hj
        · have : j = 0 ∨ j = 1 ∨ j = 2 ∨ j = 3 := by simp at hj; omega
          rcases this with rfl | rfl | rfl | rfl
          · exact h0 b hb
          · exact hk 1 hc.1.1.2 b hb
          · exact hk 2 hc.1.2 b hb
          · exact hk 3 hc.2 b hb
        · exact one hj
      · exact one hj
theorem noAny_more {s chars : Bs} {i n : Nat} (h : Lib.NoAny s chars i) (hc : ∀ b ∈ chars, b.toNat < 128) (hn : ∀ j, j < n → ∀ b, s[i + j]? = some b → 128 ≤ b.toNat) : Lib.NoAny s chars (i + n) := by
  intro j b hj hb
  by_cases hlt : j < i
  · exact h j b hlt hb
  · have := hn (j - i) (by omega) b (by rw [show i + (j - i) = j from by omega]; exact hb)
    cases hcon : chars.contains b with
    | false => rfl
    | true =>
      have hm : b ∈ chars := by simpa using hcon
      have := hc b hm
      omega
theorem should_use (n : Int) (w : World) : Calls Tryz.prog 213 #[.int .i64 n] w fun e w' => e = .returned (.bool (decide (8 < n))) ∧ w = w' := by
  go_enter Tryz.func213, Tryz.ntmps213
  go_wp2
  go_ret
  exact ⟨rfl, rfl⟩
set_option maxRecDepth 1000000 in
set_option maxHeartbeats 4000000 in
theorem iany_short (s chars : ByteArray) (w : World) (h2 : 2 ≤ chars.size) (h9 : chars.size ≤ 9) (h8 : s.size ≤ 8) (hc : Asc chars) :
    Calls Tryz.prog 203 #[.string s, .string chars] w fun e w' => e = .returned (.int .i64 (Lib.indexAny s.data.toList chars.data.toList)) ∧ Below w.heap.size w w' := by
  have HA := Lib.hid hc
  clear hc
  have hemp : chars.toList.isEmpty = false := by
    rw [Lib.toList_data]
    cases h : chars.data.toList with
    | nil => have := Lib.size_eq chars; rw [h, List.length_nil] at this; omega
    | cons _ _ => rfl
  have hn1 : ((chars.size : Int) == 1) = false := beq_eq_false_iff_ne.2 (by omega)
  have h8z : decide ((8 : Int) < (s.size : Int)) = false := decide_eq_false (by omega)
  go_enter Tryz.func203, Tryz.ntmps203
  go_wp2_with (go_at_call 213; refine (should_use _ _).mono ?_; rintro e w' ⟨rfl, rfl⟩; rw [h8z])
  go_loopw [9, 10] (fun _ _ wr => ∃ pos : Nat, wr.heap[w.heap.size]? = some (.stringIter s pos) ∧ Below w.heap.size w wr ∧ Lib.NoAny s.data.toList chars.data.toList pos) (fun _ _ wr => s.size - wr.iterPos w.heap.size)
  case atStart => exact ⟨0, World.iter_heap w s 0, below_iter _ _ _, Lib.NoAny.zero _ _⟩
  case round =>
    obtain ⟨pos, hit, hbw, hno⟩ := hrel
    have HN := Lib.hid hno
    have HIT := Lib.hid hit
    have HB := Lib.hid hbw
    clear hno
    by_cases hp : pos < s.size
    · have hnx := fun ty => Lib.run_next_any_at (P := Tryz.prog) wr w.heap.size s pos ty hit hp
      have hit2 := Lib.iterAt_heap wr w.heap.size s pos (pos + (Utf8.decode s pos).2) hit
      have hbw2 := Lib.below_iterAt hbw (k := w.heap.size) (Nat.le_refl _) s (pos + (Utf8.decode s pos).2)
      have hwd : 1 ≤ (Utf8.decode s pos).2 := by
        by_cases ha : (s[pos]'hp).toNat < 128
        · rw [decode_ascii s pos hp ha]; exact Nat.le_refl _
        · exact (decode_high s pos hp (by omega)).2
      clear hit hbw
      obtain ⟨w2, hw2⟩ : ∃ W, wr.iterAt w.heap.size s (pos + (Utf8.decode s pos).2) = W := ⟨_, rfl⟩
      rw [hw2] at hnx hit2 hbw2
      have HIT2 := Lib.hid hit2
      have HB2 := Lib.hid hbw2
      clear hw2 hit2 hbw2
      obtain ⟨x, hx⟩ : ∃ x : UInt8, s[pos]'hp = x := ⟨_, rfl⟩
      have hxl : s.data.toList[pos]? = some x := by rw [← hx]; exact Lib.data_getElem? s pos hp
      have HXL := Lib.hid hxl
      clear hxl
      have hlt : w.heap.size < w2.heap.size := (Array.getElem?_eq_some_iff.1 HIT2.out).1
      by_cases ha : x.toNat < 128
      · have hd := decode_ascii s pos hp (by rw [hx]; exact ha)
        rw [hx] at hd
        have hd1 : (Utf8.decode s pos).1 = x.toNat := by rw [hd]
        have hd2 : (Utf8.decode s pos).2 = 1 := by rw [hd]
        rw [hd1] at hnx
        have HD2 := Lib.hid hd2
        clear hd hd1 hd2 hx
        have hcon := Lib.contains_iff_indexByte chars.data.toList x
        cases hin : chars.data.toList.contains x
        · rw [hin] at hcon
          have hlt0 : ¬ ((0 : Int) ≤ Lib.indexByte chars.data.toList x) := of_decide_eq_false hcon.symm
          have HIN := Lib.hid hin
          clear hcon hin
          go_wp2_with (go_at_call 212; refine (irune_low chars x _ ha).mono ?_; rintro e w3 ⟨rfl, hb3⟩; have HB3 := Lib.hid hb3; clear hb3)
          go_roundw
          case rel => exact ⟨pos + (Utf8.decode s pos).2, (HB3.out.block _ hlt).trans HIT2.out, HB2.out.trans (HB3.out.mono HB2.out.size), by rw [HD2.out]; exact HN.out.succ HXL.out HIN.out⟩
          case measure =>
            simp only [World.iterPos, (HB3.out.block _ hlt).trans HIT2.out, HIT.out]
            omega
        · rw [hin] at hcon
          have hge : (0 : Int) ≤ Lib.indexByte chars.data.toList x := of_decide_eq_true hcon.symm
          have HIN := Lib.hid hin
          clear hcon hin
          go_wp2_with (go_at_call 212; refine (irune_low chars x _ ha).mono ?_; rintro e w3 ⟨rfl, hb3⟩; have HB3 := Lib.hid hb3; clear hb3)
          go_ret
          exact ⟨by rw [Lib.indexAny_hit HN.out HXL.out HIN.out]; rfl, HB2.out.trans (HB3.out.mono HB2.out.size)⟩
      · have hd := decode_high s pos hp (by rw [hx]; omega)
        have hby := decode_bytes s pos hp (by rw [hx]; omega)
        have hh : (128 : Int) ≤ (((Utf8.decode s pos).1 : Nat) : Int) := by have := hd.1; omega
        have HBY := Lib.hid hby
        clear hd hby hx
        obtain ⟨r, hr⟩ : ∃ r, (Utf8.decode s pos).1 = r := ⟨_, rfl⟩
        rw [hr] at hh hnx
        clear hr
        go_wp2_with (go_at_call 212; refine (irune_high chars (r : Int) _ HA.out (by omega) hh).mono ?_; rintro e w3 ⟨rfl, hb3⟩; have HB3 := Lib.hid hb3; clear hb3)
        go_roundw
        case rel => exact ⟨pos + (Utf8.decode s pos).2, (HB3.out.block _ hlt).trans HIT2.out, HB2.out.trans (HB3.out.mono HB2.out.size), noAny_more HN.out HA.out HBY.out⟩
        case measure =>
          simp only [World.iterPos, (HB3.out.block _ hlt).trans HIT2.out, HIT.out]
          omega
    · have hnx := fun ty => Lib.run_next_end_at (P := Tryz.prog) wr w.heap.size s pos ty hit hp
      clear hit hbw
      go_wp2
      go_ret
      exact ⟨by rw [Lib.indexAny_none (fun j b hj hb => HN.out j b (by rw [← Lib.size_eq] at hj; omega) hb)]; rfl, HB.out⟩
/-- Whatever text. -/
theorem lib_IndexAny (s chars : ByteArray) (w : World) (h2 : 2 ≤ chars.size) (h9 : chars.size ≤ 9) (hs : s.size < 4294967281) (hc : Asc chars) :
    Calls Tryz.prog 203 #[.string s, .string chars] w fun e w' => e = .returned (.int .i64 (Lib.indexAny s.data.toList chars.data.toList)) ∧ Below w.heap.size w w' := by
  by_cases h8 : s.size ≤ 8
  · exact iany_short s chars w h2 h9 h8 hc
  · exact (Tryz.strings_IndexAny_long (fun w => by kernel_rfl) s chars w h2 (by omega) hs (by omega) (fun j b hb => hc b (List.mem_of_getElem? hb))).mono fun e w' ⟨h1, h2⟩ => ⟨h1, by rw [h2]; exact ((Below.refl _ _).alloc (Nat.le_refl _) _).alloc (by simp) _⟩
theorem any_iff (l chars : Bs) : decide (0 ≤ Lib.indexAny l chars) = l.any (fun c => chars.contains c) := by
  induction l with
  | nil => rfl
  | cons a l ih =>
    rw [Lib.indexAny, List.any_cons]
    cases h : chars.contains a with
    | true => simp
    | false =>
      rw [Bool.false_or, ← ih]
      simp only [Bool.false_eq_true, if_false]
      have := Lib.indexAny_ge chars l
      by_cases e : Lib.indexAny l chars = -1
      · rw [e]; rfl
      · rw [if_neg (by simpa using e)]
        rw [Bool.eq_iff_iff, decide_eq_true_eq, decide_eq_true_eq]
        omega
theorem lib_ContainsAny (s chars : ByteArray) (w : World) (h2 : 2 ≤ chars.size) (h9 : chars.size ≤ 9) (hs : s.size < 4294967281) (hc : Asc chars) :
    Calls Tryz.prog 186 #[.string s, .string chars] w fun e w' => e = .returned (.bool (s.data.toList.any fun c => chars.data.toList.contains c)) ∧ Below w.heap.size w w' := by
  rw [← any_iff]
  have hC := lib_IndexAny s chars w h2 h9 hs hc
  obtain ⟨k, hk⟩ : ∃ k, Lib.indexAny s.data.toList chars.data.toList = k := ⟨_, rfl⟩
  rw [hk] at hC ⊢
  have HC := Lib.hid hC
  clear hC hk hc
  go_enter Tryz.func186, Tryz.ntmps186
  go_wp2_with (go_at_call 203; refine HC.out.mono ?_; rintro e w' ⟨rfl, hb⟩; have HB := Lib.hid hb; clear hb)
  go_ret
  exact ⟨by simp, HB.out⟩
end Go.Proofs.YtckgjbpgdpcnnaaGreatDoor
