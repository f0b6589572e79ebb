/-
  THE LIBRARY's CONTRACTS in the words of XBase: slices of bytes as 'Rd', what is made as a row of the call's own; cuts of slices.
-/
import Derived.Test.YtckgjbpgdpcnnaaGreatDoorBase
import Derived.Test.YtckgjbpgdpcnnaaGreatDoorShelf
import Derived.WalkSmall
namespace Go.Proofs.YtckgjbpgdpcnnaaGreatDoor
set_option linter.all false
set_option linter.unusedVariables false
set_option linter.unusedSimpArgs false
open Go.RowKit Pl

/-! ### what the library reads of its own variables -/
structure Glob (w : World) : Prop where
  maxLen : ∃ m : Int, w.cell? ⟨0, 0, none⟩ = some (.int .i64 m)
  tab : Lib.TabIs Tryz.prog w "internal/strconv.uint64pow10" .u64 Lib.pow10Tab
  big : 3 < w.heap.size
theorem tab_named : Tryz.prog.globalNamed "internal/strconv.uint64pow10" = some 3 := by kernel_rfl
theorem Glob.below {w w1 : World} (h : Glob w) (hb : Below w.heap.size w w1) : Glob w1 := by
  obtain ⟨m, hm⟩ := h.maxLen
  exact ⟨⟨m, (hb.cell (World.block_lt_of_cell? w _ hm)).trans hm⟩, var?_below hb tab_named h.big h.tab, Nat.lt_of_lt_of_le h.big hb.size⟩
theorem Glob.from_ {B : Nat} {w0 w w1 : World} (h : Glob w0) (h0 : w0.heap.size ≤ B) (hb : Below B w0 w1) : Glob w1 := by
  obtain ⟨m, hm⟩ := h.maxLen
  have hl := World.block_lt_of_cell? w0 _ hm
  exact ⟨⟨m, (hb.cell (p := ⟨0, 0, none⟩) (Nat.lt_of_lt_of_le hl h0)).trans hm⟩, var?_below hb tab_named (Nat.lt_of_lt_of_le h.big h0) h.tab, Nat.lt_of_lt_of_le h.big hb.size⟩

/-! ### bytes as numbers -/
def ints (l : Bs) : List Int := l.map fun x => (x.toNat : Int)
theorem ints_length (l : Bs) : (ints l).length = l.length := by simp [ints]
theorem bytesOf_ints (l : Bs) : Lib.bytesOf (ints l) = l := by
  unfold Lib.bytesOf ints
  rw [List.map_map]
  conv => rhs; rw [← List.map_id l]
  apply List.map_congr_left
  intro x _
  simp
theorem ints_range (l : Bs) : ∀ x ∈ ints l, 0 ≤ x ∧ x < 256 := by
  intro x hx
  simp only [ints, List.mem_map] at hx
  obtain ⟨y, _, rfl⟩ := hx
  have := y.toNat_lt
  omega
theorem ints_cells (l : Bs) : (ints l).map (Value.int .u8) = bcs l := by simp [ints, bcs]
theorem Rd.bytesIn {w : World} {A : Option Addr} {l : Bs} {n : Nat} (h : Rd w A l) (hn : l.length = n) : Lib.BytesIn w A n (ints l) := fun h0 => by
  obtain ⟨b, o, e, hc⟩ := h (by omega)
  refine ⟨b, o, e, fun i hi => ?_⟩
  rw [hc i _ (List.getElem?_eq_getElem (show i < l.length by omega))]
  simp [ints, List.getD_eq_getElem?_getD, List.getElem?_eq_getElem (show i < l.length by omega)]
theorem Rd.bytesAt {w : World} {A : Option Addr} {l : Bs} {n : Nat} (h : Rd w A l) (hn : l.length = n) : Lib.BytesAt w A n l := fun h0 => by
  obtain ⟨b, o, e, hc⟩ := h (by omega)
  refine ⟨b, o, e, fun i hi => ?_⟩
  rw [hc i _ (List.getElem?_eq_getElem (show i < l.length by omega))]
  simp [List.getD_eq_getElem?_getD, List.getElem?_eq_getElem (show i < l.length by omega)]

/-! ### cuts -/
theorem Rd.take {w : World} {A : Option Addr} {l : Bs} (h : Rd w A l) (k : Nat) : Rd w A (l.take k) := fun h0 => by
  obtain ⟨b, o, e, hc⟩ := h (by rw [List.length_take] at h0; omega)
  exact ⟨b, o, e, fun j x hx => hc j x (by rw [List.getElem?_take] at hx; split at hx; exact hx; cases hx)⟩
theorem Rd.drop {w : World} {A : Option Addr} {l : Bs} {c : Nat} (h : Rd w A l) (hc : l.length ≤ c) (k : Nat) : Rd w (if c = k then A else A.map (fun x => x.add k)) (l.drop k) := fun h0 => by
  rw [List.length_drop] at h0
  obtain ⟨b, o, rfl, hcell⟩ := h (by omega)
  rw [if_neg (by omega)]
  refine ⟨b, o + k, ?_, fun j x hx => ?_⟩
  · simp [Addr.add]
  · rw [List.getElem?_drop] at hx
    rw [Nat.add_assoc]
    exact hcell _ _ hx
theorem slice_elem : Tryz.prog.underlying 31 = some (.slice (Tryz.prog.elem 31)) := by
  have h := Tryz.underlying31
  rw [show Tryz.prog.elem 31 = 5 from by simp [Program.elem, h]]
  exact h
theorem elem_bytes : Tryz.prog.elem 31 = 5 := by simp [Program.elem, Tryz.underlying31]
/-- 's[m:]' without a case on the capacity: lay it ahead of a walk. -/
theorem cut_from (kl : IntKind) (A : Option Addr) (n c m : Nat) (hm : m ≤ n) :
    ∃ A' : Option Addr, (∀ W : World, (Instr.slice 31 (.slice A n c) (some (.int kl (m : Int))) none none).run Tryz.prog W = .ok (.slice A' (n - m) (c - m)) W) ∧
      (∀ (w : World) (l : Bs), l.length = n → n ≤ c → Rd w A l → Rd w A' (l.drop m)) ∧ (A = none → A' = none) := by
  obtain ⟨i, hi, hz0, hz1, hz2⟩ := info_parts info5
  refine ⟨if c = m then A else A.map (fun x => x.add m), fun W => ?_, fun w l hl hc h => h.drop (by omega) m, fun h => by subst h; simp⟩
  rw [run_slice_l W 31 A n c slice_elem kl (m : Int) (Int.natCast_nonneg _) (by omega), elem_bytes]
  simp [sizeOf, typeInfo, hi, hz1, sliced, Result.andThen]
/-- 's[a:b]'. -/
theorem cut_mid (kl kh : IntKind) (A : Option Addr) (n c a b : Nat) (ha : a ≤ b) (hb : b ≤ c) :
    ∃ A' : Option Addr, (∀ W : World, (Instr.slice 31 (.slice A n c) (some (.int kl (a : Int))) (some (.int kh (b : Int))) none).run Tryz.prog W = .ok (.slice A' (b - a) (c - a)) W) ∧
      (∀ (w : World) (l : Bs), l.length = n → n ≤ c → b ≤ n → Rd w A l → Rd w A' ((l.take b).drop a)) ∧ (A = none → A' = none) := by
  obtain ⟨i, hi, hz0, hz1, hz2⟩ := info_parts info5
  refine ⟨if c = a then A else A.map (fun x => x.add a), fun W => ?_, fun w l hl hc hbn h => (h.take b).drop (by rw [List.length_take]; omega) a, fun h => by subst h; simp⟩
  rw [run_slice_lh W 31 A n c slice_elem kl kh (a : Int) (b : Int) (Int.natCast_nonneg _) (by omega) (by omega), elem_bytes]
  simp [sizeOf, typeInfo, hi, hz1, sliced, Result.andThen]
/-- 's[:b]'. -/
theorem cut_to (kh : IntKind) (A : Option Addr) (n c b : Nat) (hb : b ≤ c) (W : World) :
    (Instr.slice 31 (.slice A n c) none (some (.int kh (b : Int))) none).run Tryz.prog W = .ok (.slice A b c) W := by
  obtain ⟨i, hi, hz0, hz1, hz2⟩ := info_parts info5
  have hA : (A.map fun x => x.add 0) = A := by cases A <;> simp [Addr.add]
  rw [run_slice_h W 31 A n c slice_elem kh (b : Int) (Int.natCast_nonneg _) (by omega), elem_bytes]
  simp [sizeOf, typeInfo, hi, hz1, sliced, Result.andThen, hA]

/-! ### the contracts -/
theorem lib_Clone (A : Option Addr) (n c : Nat) (l : Bs) (w : World) (hl : l.length = n) (hn : n ≤ 140737488355328) (h : Rd w A l) :
    Calls Tryz.prog 53 #[.slice A n c] w fun e w' => ∃ v, e = .returned v ∧ w'.ownsRow w.heap.size 5 1 v n (bcs l) ∧ Below w.heap.size w w' := by
  cases A with
  | none =>
    have h0 : l = [] := by
      rcases Nat.eq_zero_or_pos l.length with h0 | h0
      · exact List.eq_nil_of_length_eq_zero h0
      · obtain ⟨b, o, e, _⟩ := h h0
        cases e
    subst h0
    obtain rfl : n = 0 := by simpa using hl.symm
    exact (Tryz.bytes_Clone_nil 0 c w).mono fun e w' ⟨h1, h2⟩ => ⟨_, h1, by subst h2; exact ⟨World.ownsRow_nil _ _ _ _, Below.refl _ _⟩⟩
  | some a =>
    refine (Tryz.bytes_Clone_at a n c (ints l) w (by rw [ints_length]; exact hl) hn (fun i hi => ?_)).mono fun e w' ⟨v, h1, h2, _, h3⟩ => ⟨v, h1, by rw [← ints_cells]; exact h2, h3⟩
    obtain ⟨b, o, e, hc⟩ := h.bytesIn hl (by omega)
    injection e with e
    subst e
    have ha : (⟨b, o, none⟩ : Addr).add i = ⟨b, o + i, none⟩ := by unfold Addr.add; split <;> simp_all
    rw [ha]
    exact hc i hi
theorem lib_Equal (A B : Option Addr) (n c m d : Nat) (l r : Bs) (w : World) (hl : l.length = n) (hr : r.length = m) (h1 : Rd w A l) (h2 : Rd w B r) :
    Calls Tryz.prog 58 #[.slice A n c, .slice B m d] w fun e w' => e = .returned (.bool (l == r)) ∧ w = w' :=
  (Tryz.bytes_Equal_all A B n c m d (ints l) (ints r) w (by rw [ints_length]; exact hl) (by rw [ints_length]; exact hr) (h1.bytesIn hl) (h2.bytesIn hr)).mono fun e w' ⟨h, h'⟩ => ⟨by rw [h, bytesOf_ints, bytesOf_ints], h'.symm⟩
theorem lib_HasPrefix (A B : Option Addr) (n c m d : Nat) (l r : Bs) (w : World) (hl : l.length = n) (hr : r.length = m) (hc : n ≤ c) (h1 : Rd w A l) (h2 : Rd w B r) :
    Calls Tryz.prog 65 #[.slice A n c, .slice B m d] w fun e w' => e = .returned (.bool (Lib.hasPrefix l r)) ∧ w = w' :=
  (Tryz.bytes_HasPrefix_all A B n c m d (ints l) (ints r) w (by rw [ints_length]; exact hl) (by rw [ints_length]; exact hr) hc (h1.bytesIn hl) (h2.bytesIn hr)).mono fun e w' ⟨h, h'⟩ => ⟨by rw [h, bytesOf_ints, bytesOf_ints], h'.symm⟩

/-- The place of a byte, or -1. -/
theorem indexByte_findAt (c : UInt8) : ∀ (l : Bs) (i : Nat), (match findAt c l i with | none => -1 | some k => ((k : Nat) : Int) - i) = Lib.indexByte l c
  | [], i => rfl
  | x :: l, i => by
    have ih := indexByte_findAt c l (i + 1)
    unfold findAt Lib.indexByte
    by_cases h : x = c
    · rw [if_pos h, if_pos (by simpa using h)]
      simp
    · rw [if_neg h, if_neg (by simpa using h)]
      rw [← ih]
      cases hf : findAt c l (i + 1) with
      | none => rfl
      | some k =>
        have hk := findAt_ge c l (i + 1) k hf
        simp only []
        rw [if_neg (by simp; omega)]
        omega
where
  findAt_ge (c : UInt8) : ∀ (l : Bs) (i k : Nat), findAt c l i = some k → i ≤ k
    | [], i, k, h => by simp [findAt] at h
    | x :: l, i, k, h => by
      unfold findAt at h
      split at h
      · injection h with h; omega
      · have := findAt_ge c l (i + 1) k h; omega

/-- bytes.Cut at one byte. -/
theorem lib_Cut (A : Option Addr) (n c b2 o2 d : Nat) (l : Bs) (x : UInt8) (w : World) (hl : l.length = n) (hc : n ≤ c) (hA : A = none → c = 0) (hn : n < 4294967281) (h1 : Rd w A l) (hx : w.cell? ⟨b2, o2, none⟩ = some (.int .u8 (x.toNat : Int))) (hg : Glob w) :
    Calls Tryz.prog 161 #[.slice A n c, .slice (some ⟨b2, o2, none⟩) 1 d] w fun e w' => e = .returned (Lib.cutV A n c 1 (Lib.indexByte l x)) ∧ ∃ q, w' = w.drewN q := by
  obtain ⟨m, hm⟩ := hg.maxLen
  refine (Tryz.bytes_Cut_all A (some ⟨b2, o2, none⟩) n c 1 d (ints l) (ints [x]) m w (by rw [ints_length]; exact hl) rfl (ints_range l) (ints_range [x]) (h1.bytesIn hl)
    (Rd.bytesIn (l := [x]) (fun _ => ⟨b2, o2, rfl, fun j y hy => ?_⟩) rfl) hA hc hn (by omega) hm).mono fun e w' ⟨h, h'⟩ => ⟨by rw [h, bytesOf_ints, bytesOf_ints, Lib.index_one], h'⟩
  have hj : j = 0 := by have := (List.getElem?_eq_some_iff.1 hy).1; simp at this; exact this
  subst hj
  simp at hy
  subst hy
  exact hx

/-- bytes.Count of one byte. -/
theorem lib_Count (A : Option Addr) (n c b2 o2 d : Nat) (l : Bs) (x : UInt8) (w : World) (hl : l.length = n) (hn : 0 < n) (h1 : Rd w A l) (hx : w.cell? ⟨b2, o2, none⟩ = some (.int .u8 (x.toNat : Int))) :
    Calls Tryz.prog 103 #[.slice A n c, .slice (some ⟨b2, o2, none⟩) 1 d] w fun e w' => e = .returned (.int .i64 (l.count x : Nat)) ∧ w = w' := by
  obtain ⟨b, o, rfl, hc⟩ := h1.bytesIn hl hn
  refine (Tryz.bytes_Count_one_at ⟨b, o, none⟩ n c b2 o2 d (ints l) (x.toNat : Int) w (by rw [ints_length]; exact hl) (fun i hi => ?_) hx).mono fun e w' ⟨h, h'⟩ => ⟨by rw [h, bytesOf_ints]; simp [Lib.countByte], h'.symm⟩
  have ha : (⟨b, o, none⟩ : Addr).add i = ⟨b, o + i, none⟩ := by unfold Addr.add; split <;> simp_all
  rw [ha]
  exact hc i hi

/-- bytes.CutSuffix at one byte. -/
theorem lib_CutSuffix (A : Option Addr) (n c b2 o2 d : Nat) (l : Bs) (x : UInt8) (w : World) (hl : l.length = n) (hc : n ≤ c) (hn : n ≤ 9223372036854775807) (h1 : Rd w A l) (hx : w.cell? ⟨b2, o2, none⟩ = some (.int .u8 (x.toNat : Int))) :
    Calls Tryz.prog 199 #[.slice A n c, .slice (some ⟨b2, o2, none⟩) 1 d] w fun e w' => e = .returned (.tuple #[.slice A (if l.getLast? = some x then n - 1 else n) c, .bool (l.getLast? == some x)]) ∧ w = w' := by
  have hx2 : Rd w (some ⟨b2, o2, none⟩) [x] := fun _ => ⟨b2, o2, rfl, fun j y hy => by
    have hj : j = 0 := by have := (List.getElem?_eq_some_iff.1 hy).1; simp at this; exact this
    subst hj
    simp at hy
    subst hy
    exact hx⟩
  refine (Tryz.bytes_CutSuffix_all A (some ⟨b2, o2, none⟩) n c 1 d (ints l) (ints [x]) w (by rw [ints_length]; exact hl) rfl hc hn (h1.bytesIn hl) (hx2.bytesIn rfl)).mono fun e w' ⟨h, h'⟩ => ⟨?_, h'.symm⟩
  have hs : Lib.hasSuffix l [x] = (l.getLast? == some x) := by
    unfold Lib.hasSuffix
    rw [Bool.eq_iff_iff]
    simp only [List.isSuffixOf_iff_suffix, beq_iff_eq]
    constructor
    · rintro ⟨t, rfl⟩; simp
    · intro h
      exact ⟨l.dropLast, by
        have hne : l ≠ [] := by intro e; subst e; simp at h
        have h2 := List.dropLast_concat_getLast hne
        rw [List.getLast?_eq_some_getLast hne] at h
        injection h with h
        rw [h] at h2
        exact h2⟩
  rw [h, bytesOf_ints, bytesOf_ints, hs]
  have hv : Lib.trimSuffixV A n c (ints l) (ints [x]) = .slice A (if l.getLast? = some x then n - 1 else n) c := by
    rcases Nat.eq_zero_or_pos n with h0 | h0
    · subst h0
      obtain rfl : l = [] := List.eq_nil_of_length_eq_zero hl
      simp only [List.getLast?_nil]
      unfold Lib.trimSuffixV
      split
      · rename_i b o y ys heq
        simp [Lib.bytesTrimSuffix, bytesOf_ints, Lib.hasSuffix, ints, Lib.bytesOf]
      · simp
    · obtain ⟨b, o, rfl, _⟩ := h1.bytesIn hl h0
      show Lib.bytesTrimSuffix b o n c (ints l) (ints [x]) = _
      unfold Lib.bytesTrimSuffix
      rw [bytesOf_ints, bytesOf_ints, hs]
      by_cases hq : l.getLast? = some x
      · rw [if_pos (by simpa using hq), if_pos hq]
        simp [Lib.sliceTo, ints]
      · rw [if_neg (by simpa using hq), if_neg hq]
  rw [hv]

/-- What bytes.Trim and TrimLeft hand back where all is cut away, or not. -/
theorem leftV_all (p : Option Addr) (n c : Nat) : Lib.leftV p n c n = .slice none 0 0 := by simp [Lib.leftV]
theorem leftV_some (p : Option Addr) (n c j : Nat) (h : j < n) (hc : n ≤ c) : Lib.leftV p n c j = .slice (p.map fun x => x.add j) (n - j) (c - j) := by
  unfold Lib.leftV Lib.fromV
  rw [if_neg (by omega), if_neg (by omega)]
theorem info204 : (Tryz.prog.info? 204).map (fun i => (i.zero, i.size)) = some (some (.agg (Array.replicate 256 (.bool false))), 256) := by kernel_rfl
theorem dropWhile_len (f : UInt8 → Bool) (l : Bs) : (l.dropWhile f).length ≤ l.length := by
  have h := congrArg List.length (List.takeWhile_append_dropWhile (p := f) (l := l))
  rw [List.length_append] at h
  omega
theorem dropWhile_eq_drop (f : UInt8 → Bool) (l : Bs) : l.dropWhile f = l.drop (l.length - (l.dropWhile f).length) := by
  have h := List.takeWhile_append_dropWhile (p := f) (l := l)
  have hl := congrArg List.length h
  rw [List.length_append] at hl
  have hk : l.length - (l.dropWhile f).length = (l.takeWhile f).length := by omega
  rw [hk]
  have h2 := List.drop_left (l₁ := l.takeWhile f) (l₂ := l.dropWhile f)
  rw [h] at h2
  exact h2.symm
/-- bytes.TrimLeft at one ASCII byte: what is left begins where no more is cut; nil if nothing is left. -/
theorem lib_TrimLeft (A : Option Addr) (n c : Nat) (l : Bs) (x : UInt8) (w : World) (hl : l.length = n) (hc : n ≤ c) (hbig : c ≤ 9223372036854775807) (hx : x.toNat < 128) (h1 : Rd w A l) :
    Calls Tryz.prog 130 #[.slice A n c, .string ⟨#[x]⟩] w fun e w' => ∃ A' c', e = .returned (.slice A' (l.dropWhile (· == x)).length c') ∧ (l.dropWhile (· == x)).length ≤ c' ∧ (A' = none → c' = 0) ∧ c' ≤ c ∧ Rd w A' (l.dropWhile (· == x)) ∧ w = w' := by
  rcases Nat.eq_zero_or_pos n with h0 | h0
  · subst h0
    obtain rfl : l = [] := List.eq_nil_of_length_eq_zero hl
    exact (Any.bytes_TrimLeft_none Tryz.laysV8 A c ⟨#[x]⟩ w).mono fun e w' ⟨h, h'⟩ => ⟨none, 0, h, by simp, fun _ => rfl, by omega, Rd.nil _ _, h'.symm⟩
  · have e1 : Lib.trimLeftS l [x] = l.dropWhile (· == x) := by
      unfold Lib.trimLeftS
      congr 1
      funext y
      simp only [List.contains_cons, List.contains_nil, Bool.or_false]
    refine (Any.bytes_TrimLeft_one Tryz.laysV8 A n c l x w hl hc hbig (h1.bytesAt hl) h0 hx).mono fun e w' ⟨h, h'⟩ => ?_
    rw [e1] at h
    have hle := dropWhile_len (· == x) l
    have hdr := dropWhile_eq_drop (· == x) l
    obtain ⟨t, ht⟩ : ∃ t, l.dropWhile (· == x) = t := ⟨_, rfl⟩
    rw [ht] at h hle hdr ⊢
    rcases Nat.eq_zero_or_pos t.length with hz | hz
    · rw [hz, Nat.sub_zero, leftV_all] at h
      exact ⟨none, 0, by rw [hz]; exact h, by omega, fun _ => rfl, by omega, by rw [List.eq_nil_of_length_eq_zero hz]; exact Rd.nil _ _, h'.symm⟩
    · rw [leftV_some _ _ _ _ (by omega) hc] at h
      refine ⟨A.map (fun x => x.add (n - t.length)), c - (n - t.length), ?_, by omega, ?_, by omega, ?_, h'.symm⟩
      · rw [h, show n - (n - t.length) = t.length by omega]
      · intro hn
        obtain ⟨b, o, rfl, _⟩ := h1 (by omega)
        cases hn
      · have h3 := h1.drop (c := c) (by omega) (n - t.length)
        rw [if_neg (by omega)] at h3
        rw [hl] at hdr
        rw [hdr]
        rw [hdr] at h3
        rw [← hdr] at h3 ⊢
        rw [← hdr] at h3
        exact h3
theorem ascii_two (x y : UInt8) (hx : x.toNat < 128) (hy : y.toNat < 128) : ∀ (j : Nat) b, ((⟨#[x, y]⟩ : ByteArray).data.toList)[j]? = some b → b.toNat < 128 := by
  intro j b h
  match j, h with
  | 0, h => simp at h; subst h; exact hx
  | 1, h => simp at h; subst h; exact hy
  | j + 2, h => simp at h
/-- bytes.Trim at two ASCII bytes: how many are left. -/
theorem lib_Trim (A : Option Addr) (n c : Nat) (l : Bs) (x y : UInt8) (w : World) (hl : l.length = n) (hc : n ≤ c) (hbig : c ≤ 9223372036854775807) (hx : x.toNat < 128) (hy : y.toNat < 128) (h1 : Rd w A l) :
    Calls Tryz.prog 133 #[.slice A n c, .string ⟨#[x, y]⟩] w fun e w' => ∃ A' c', e = .returned (.slice A' (Lib.trimS l [x, y]).length c') ∧ Below w.heap.size w w' := by
  refine (Any.bytes_Trim_ascii Tryz.laysV6 (zero_of_info info204).1 (zero_of_info info204).2 A n c l ⟨#[x, y]⟩ w hl hc hbig (h1.bytesAt hl) (by show 2 < _; omega) (ascii_two x y hx hy)).mono fun e w' ⟨h, h'⟩ => ?_
  have e2 : (⟨#[x, y]⟩ : ByteArray).data.toList = [x, y] := rfl
  rw [e2] at h
  have hr : (Lib.trimRightS l [x, y]).length ≤ l.length := by
    unfold Lib.trimRightS
    rw [List.length_reverse]
    have := dropWhile_len (([x, y] : Bs).contains ·) l.reverse
    rwa [List.length_reverse] at this
  have hs : (Lib.trimS l [x, y]).length ≤ (Lib.trimRightS l [x, y]).length := dropWhile_len _ _
  rcases Nat.eq_zero_or_pos (Lib.trimS l [x, y]).length with hz | hz
  · rw [hz, Nat.sub_zero, leftV_all] at h
    exact ⟨none, 0, by rw [hz]; exact h, h'⟩
  · rw [leftV_some _ _ _ _ (by omega) (by omega)] at h
    exact ⟨_, _, by rw [h, show (Lib.trimRightS l [x, y]).length - ((Lib.trimRightS l [x, y]).length - (Lib.trimS l [x, y]).length) = (Lib.trimS l [x, y]).length by omega], h'⟩
theorem takeWhile_mem (f : UInt8 → Bool) (l : Bs) (c : UInt8) (h : c ∈ l.takeWhile f) : f c = true := by
  induction l with
  | nil => simp at h
  | cons a l ih =>
    rw [List.takeWhile_cons] at h
    split at h
    · rename_i hf
      rcases List.mem_cons.1 h with rfl | h
      · exact hf
      · exact ih h
    · simp at h
theorem dropWhile_nil_iff (f : UInt8 → Bool) (l : Bs) : l.dropWhile f = [] ↔ l.all f = true := by
  induction l with
  | nil => simp
  | cons a l ih =>
    simp only [List.dropWhile_cons, List.all_cons, Bool.and_eq_true]
    split
    · rename_i h; simp [h, ih]
    · rename_i h; simp [h]
theorem trimS_len (l : Bs) (x y : UInt8) : ((Lib.trimS l [x, y]).length = 0) ↔ l.all (fun c => c == x || c == y) = true := by
  have hf : (([x, y] : Bs).contains ·) = fun c => c == x || c == y := by
    funext c
    simp only [List.contains_cons, List.contains_nil, Bool.or_false]
  unfold Lib.trimS Lib.trimLeftS Lib.trimRightS
  rw [List.length_eq_zero_iff, dropWhile_nil_iff, hf]
  constructor
  · intro h
    rw [List.all_eq_true] at h ⊢
    intro c hc
    by_cases hp : (c == x || c == y) = true
    · exact hp
    · exfalso
      have : c ∈ (l.reverse.dropWhile fun c => c == x || c == y) := by
        have h2 := List.takeWhile_append_dropWhile (p := fun c => c == x || c == y) (l := l.reverse)
        have hm : c ∈ l.reverse := by simpa using hc
        rw [← h2, List.mem_append] at hm
        rcases hm with hm | hm
        · exact absurd (takeWhile_mem _ _ _ hm) hp
        · exact hm
      exact hp (h c (by simpa using this))
  · intro h
    have : (l.reverse.dropWhile fun c => c == x || c == y) = [] := by
      rw [dropWhile_nil_iff]
      simpa using h
    rw [this]
    rfl

/-! ### strings -/
theorem contains_byte (l : Bs) (x : UInt8) : Lib.contains l [x] = l.any (· == x) := by
  unfold Lib.contains
  rw [Lib.index_one]
  rw [Bool.eq_iff_iff, decide_eq_true_eq, List.any_eq_true]
  constructor
  · intro h
    by_cases hn : Lib.indexByte l x = -1
    · omega
    · obtain ⟨o, ho⟩ := Int.eq_ofNat_of_zero_le h
      have := (Lib.indexByte_some ho).1
      exact ⟨x, List.mem_of_getElem? this, by simp⟩
  · rintro ⟨y, hy, hyx⟩
    have hyx : y = x := by simpa using hyx
    subst hyx
    by_cases hn : Lib.indexByte l y = -1
    · obtain ⟨k, hk, hk2⟩ := List.getElem_of_mem hy
      exact absurd (by rw [List.getElem?_eq_getElem hk, hk2]) (Lib.indexByte_none hn k)
    · have := Lib.indexByte_ge l y
      omega
theorem size_data (s : ByteArray) : s.data.toList.length = s.size := by simp
/-- strings.Contains of one byte. -/
theorem lib_Contains (s : ByteArray) (x : UInt8) (w : World) (hs : s.size < 4294967281) (hg : Glob w) :
    Calls Tryz.prog 119 #[.string s, .string ⟨#[x]⟩] w fun e w' => e = .returned (.bool (s.data.toList.any (· == x))) ∧ w = w' := by
  obtain ⟨m, hm⟩ := hg.maxLen
  exact (Tryz.strings_Contains s ⟨#[x]⟩ m w hs hm).mono fun e w' ⟨h, h'⟩ => ⟨by rw [h]; exact congrArg (fun b => Ending.returned (.bool b)) (contains_byte s.data.toList x), h'.symm⟩
/-- strings.Index of one byte. -/
theorem lib_Index (s : ByteArray) (x : UInt8) (w : World) (hs : s.size < 4294967281) (hg : Glob w) :
    Calls Tryz.prog 128 #[.string s, .string ⟨#[x]⟩] w fun e w' => e = .returned (.int .i64 (Lib.indexByte s.data.toList x)) ∧ w = w' := by
  obtain ⟨m, hm⟩ := hg.maxLen
  exact (Tryz.strings_Index s ⟨#[x]⟩ m w hs hm).mono fun e w' ⟨h, h'⟩ => ⟨by rw [h]; exact congrArg (fun b => Ending.returned (.int .i64 b)) (Lib.index_one s.data.toList x), h'.symm⟩
/-- strings.IndexByte. -/
theorem lib_IndexByte (s : ByteArray) (x : UInt8) (w : World) :
    Calls Tryz.prog 49 #[.string s, .int .u8 (x.toNat : Int)] w fun e w' => e = .returned (.int .i64 (Lib.indexByte s.data.toList x)) ∧ w = w' :=
  (Tryz.strings_IndexByte s (x.toNat : Int) w).mono fun e w' ⟨h, h'⟩ => ⟨by rw [h]; simp, h'.symm⟩
/-- strings.Cut at one byte. -/
theorem lib_CutS (s : ByteArray) (x : UInt8) (w : World) (hs : s.size < 4294967281) (hg : Glob w) :
    Calls Tryz.prog 200 #[.string s, .string ⟨#[x]⟩] w fun e w' => e = .returned (.tuple #[.string ⟨(Lib.cut s.data.toList [x]).1.toArray⟩, .string ⟨(Lib.cut s.data.toList [x]).2.1.toArray⟩, .bool (Lib.cut s.data.toList [x]).2.2]) ∧ ∃ n, w' = w.drewN n := by
  obtain ⟨m, hm⟩ := hg.maxLen
  exact Tryz.strings_Cut s ⟨#[x]⟩ m w hs hm
end Go.Proofs.YtckgjbpgdpcnnaaGreatDoor
