/-
  THE CONTRACTS of package numf, on: Get.
-/
import Derived.Test.YtckgjbpgdpcnnaaGreatDoorNumi
import Derived.WalkMore
import Derived.ScopeJumps
namespace Go.Proofs.YtckgjbpgdpcnnaaGreatDoor
set_option linter.all false
set_option linter.unusedVariables false
set_option linter.unusedSimpArgs false
open Go.RowKit Pl

section
variable {P : Program} {a : Act} {w : World} {Q : Exit → Act → World → Prop}
/-- A scope whose label is jumped to once, forwards. -/
theorem wp_scope_once {c rest : Code} (l : Nat) (hf : findLabel c l = some rest) (h : c.wp P (Exit.jump l (fun a w => rest.wp P (Exit.noGoto Q) a w) Q) a w) : (Code.scope c).wp P Q a w :=
  wp_scope_jumps l (fun a w => rest.wp P (Exit.noGoto Q) a w) (fun _ _ => 0) hf h fun a w h => wp_mono h fun e a w hq => by
    cases e with
    | goto l' => exact hq.elim
    | normal => exact hq
    | exit id => exact hq
    | ret => exact hq
    | panic ch => exact hq
    | outgrown => exact hq
variable {l : Nat} {J : Act → World → Prop}
theorem jump_ret : Exit.jump l J Q .ret a w = Q .ret a w := rfl
theorem jump_normal : Exit.jump l J Q .normal a w = Q .normal a w := rfl
theorem jump_exit (id : Nat) : Exit.jump l J Q (.exit id) a w = Q (.exit id) a w := rfl
theorem jump_panic (ch : List PanicEntry) : Exit.jump l J Q (.panic ch) a w = Q (.panic ch) a w := rfl
theorem jump_goto (h : J a w) : Exit.jump l J Q (.goto l) a w := ⟨rfl, h⟩
end
attribute [local go_sem] jump_ret jump_normal jump_exit jump_panic

theorem quiet_left {P : Program} {f : FuncId} {args : Array Value} {w : World} {n : Nat} {v : Value} (h : Calls P f args (w.drewN n) fun e w' => e = .returned v ∧ w.drewN n = w') : Calls P f args (w.drewN n) fun e w'' => e = .returned v ∧ ∃ m, w'' = w.drewN m :=
  h.mono fun _ _ ⟨he, hm⟩ => ⟨he, n, hm.symm⟩

set_option maxRecDepth 100000 in
set_option maxHeartbeats 1000000 in
theorem numf_Get_128 (A : Option Addr) (n c : Nat) (l : Bs) (w : World) (hl : l.length = n) (hc : n ≤ c) (hn : n = 8 ∨ n = 12) (h : Rd w A l) (hb : l.headD 0 = 128) :
    Calls Tryz.prog 102 #[.slice A n c] w fun e w' => e = .returned (.tuple #[.int .i64 (nGet l).1, .int .i64 (nGet l).2]) ∧ ∃ q, w' = w.drewN q := by
  have hr : nGet l = ubLoop 0 (l.drop 1) 0 := by
    unfold nGet
    rw [if_neg (by omega), if_pos (by rw [hb]; decide), hb]
    rfl
  obtain ⟨R, hR⟩ : ∃ R, nGet l = R := ⟨_, rfl⟩
  rw [hR] at hr ⊢
  clear hR
  obtain ⟨b, o, rfl, hcell⟩ := h.cell (j := 0) (by omega)
  have hhd : l.getD 0 0 = l.headD 0 := by cases l <;> rfl
  rw [hhd, hb, Nat.add_zero] at hcell
  have hcell : w.cell? ⟨b, o, none⟩ = some (.int .u8 128) := hcell
  obtain ⟨A', hcut, hrd, _⟩ := cut_from .i64 (some ⟨b, o, none⟩) n c 1 (by omega)
  have hcut : ∀ W : World, (Instr.slice 31 (.slice (some ⟨b, o, none⟩) n c) (some (.int .i64 1)) none none).run Tryz.prog W = .ok (.slice A' (n - 1) (c - 1)) W := hcut
  have hu := fun W (hW : Rd W A' (l.drop 1)) => numf_unbase_pos A' (n - 1) (c - 1) (l.drop 1) W (by rw [List.length_drop]; omega) (by omega) (by omega) (by omega) hW
  rw [← hr] at hu
  have hrq : ∀ q, Rd (w.drewN q) A' (l.drop 1) := fun q => hrd (w.drewN q) l hl hc (fun h0 => by obtain ⟨b, o, e, hh⟩ := h h0; exact ⟨b, o, e, fun j y hy => by simpa using hh j y hy⟩)
  have HU := Lib.hid hu
  have HQ := Lib.hid hrq
  have hw : ((n : Int) == 8 || (n : Int) == 12) = true := by rcases hn with rfl | rfl <;> rfl
  have HW := Lib.hid hw
  have h1n : 1 ≤ n := by omega
  have h0n : 0 < n := by omega
  clear hu hrq hr hw hn h hhd hrd hl hb
  go_enter Tryz.func102, Tryz.ntmps102
  go_wp2
  refine wp_scope_once 0 rfl ?_
  go_wp2_with (go_at_call 131; refine (numf_isWidth _ _).mono ?_; rintro e w' ⟨rfl, rfl⟩; rw [HW.out])
  go_step3
  refine ⟨rfl, ?_⟩
  clear HW
  go_wp2_with (fail)
  go_quiet ((go_at_call 134; exact quiet_left (HU.out _ (HQ.out _))))
  go_wp2
  try rw [Exit.noGoto_ret]
  go_ret2
  exact ⟨rfl, _, rfl⟩

set_option maxRecDepth 100000 in
set_option maxHeartbeats 1000000 in
theorem numf_Get_255 (A : Option Addr) (n c : Nat) (l : Bs) (w : World) (hl : l.length = n) (hc : n ≤ c) (hn : n = 8 ∨ n = 12) (h : Rd w A l) (hb : l.headD 0 = 255) :
    Calls Tryz.prog 102 #[.slice A n c] w fun e w' => e = .returned (.tuple #[.int .i64 (nGet l).1, .int .i64 (nGet l).2]) ∧ ∃ q, w' = w.drewN q := by
  have hr : nGet l = ubLoop 255 (l.drop 1) (-1) := by
    unfold nGet
    rw [if_neg (by omega), if_pos (by rw [hb]; decide), hb]
    rfl
  obtain ⟨R, hR⟩ : ∃ R, nGet l = R := ⟨_, rfl⟩
  rw [hR] at hr ⊢
  clear hR
  obtain ⟨b, o, rfl, hcell⟩ := h.cell (j := 0) (by omega)
  have hhd : l.getD 0 0 = l.headD 0 := by cases l <;> rfl
  rw [hhd, hb, Nat.add_zero] at hcell
  have hcell : w.cell? ⟨b, o, none⟩ = some (.int .u8 255) := hcell
  obtain ⟨A', hcut, hrd, _⟩ := cut_from .i64 (some ⟨b, o, none⟩) n c 1 (by omega)
  have hcut : ∀ W : World, (Instr.slice 31 (.slice (some ⟨b, o, none⟩) n c) (some (.int .i64 1)) none none).run Tryz.prog W = .ok (.slice A' (n - 1) (c - 1)) W := hcut
  have hu := fun W (hW : Rd W A' (l.drop 1)) => numf_unbase_neg A' (n - 1) (c - 1) (l.drop 1) W (by rw [List.length_drop]; omega) (by omega) (by omega) (by omega) hW
  rw [← hr] at hu
  have hrq : ∀ q, Rd (w.drewN q) A' (l.drop 1) := fun q => hrd (w.drewN q) l hl hc (fun h0 => by obtain ⟨b, o, e, hh⟩ := h h0; exact ⟨b, o, e, fun j y hy => by simpa using hh j y hy⟩)
  have HU := Lib.hid hu
  have HQ := Lib.hid hrq
  have hw : ((n : Int) == 8 || (n : Int) == 12) = true := by rcases hn with rfl | rfl <;> rfl
  have HW := Lib.hid hw
  have h1n : 1 ≤ n := by omega
  have h0n : 0 < n := by omega
  clear hu hrq hr hw hn h hhd hrd hl hb
  go_enter Tryz.func102, Tryz.ntmps102
  go_wp2
  refine wp_scope_once 0 rfl ?_
  go_wp2_with (go_at_call 131; refine (numf_isWidth _ _).mono ?_; rintro e w' ⟨rfl, rfl⟩; rw [HW.out])
  go_step3
  refine ⟨rfl, ?_⟩
  clear HW
  go_wp2_with (fail)
  go_quiet ((go_at_call 134; exact quiet_left (HU.out _ (HQ.out _))))
  go_wp2
  try rw [Exit.noGoto_ret]
  go_ret2
  exact ⟨rfl, _, rfl⟩

/-- 'n<<3 | d' of an int64. -/
theorem or_oct (m x : Int) (h0 : 0 ≤ m) (h1 : m < 1152921504606846976) (hx : 0 ≤ x) (hx1 : x < 8) : bits .or .i64 (m * 8) x = m * 8 + x := by
  obtain ⟨a, rfl⟩ := Int.eq_ofNat_of_zero_le h0
  obtain ⟨b, rfl⟩ := Int.eq_ofNat_of_zero_le hx
  have e : (BitVec.ofInt 64 ((a : Int) * 8)).toNat = a * 8 := by
    rw [show ((a : Int) * 8) = ((a * 8 : Nat) : Int) by simp, BitVec.ofInt_natCast, BitVec.toNat_ofNat]; omega
  have e2 : (BitVec.ofInt 64 (b : Int)).toNat = b := by rw [BitVec.ofInt_natCast, BitVec.toNat_ofNat]; omega
  show IntKind.i64.wrap ((BitVec.ofInt 64 ((a : Int) * 8) ||| BitVec.ofInt 64 (b : Int)).toNat : Int) = _
  rw [BitVec.toNat_or, e, e2]
  have h3 : a * 8 ||| b = a * 8 + b := by
    have := Nat.shiftLeft_add_eq_or_of_lt (show b < 2 ^ 3 by omega) a
    rw [Nat.shiftLeft_eq] at this
    exact this.symm
  rw [h3, IntKind.wrap_i64]
  omega
theorem octVal_snoc (l : Bs) (x : UInt8) : octVal (l ++ [x]) = octVal l * 8 + ((x.toNat : Int) - 48) := by simp [octVal]
theorem octVal_go (l : Bs) : ∀ (n B : Int), (∀ x ∈ l, isOct x = true) → 0 ≤ n → n + 1 ≤ B → 0 ≤ l.foldl (fun n c => n * 8 + ((c.toNat : Int) - 48)) n ∧ l.foldl (fun n c => n * 8 + ((c.toNat : Int) - 48)) n + 1 ≤ B * 8 ^ l.length := by
  induction l with
  | nil => intro n B _ h0 h1; simp; omega
  | cons x l ih =>
    intro n B h h0 h1
    have hx : 48 ≤ x.toNat ∧ x.toNat ≤ 55 := by simpa [isOct] using h x (by simp)
    have := ih (n * 8 + ((x.toNat : Int) - 48)) (B * 8) (fun y hy => h y (by simp [hy])) (by omega) (by omega)
    rw [List.foldl_cons, List.length_cons, Int.pow_succ]
    rw [Int.mul_assoc, Int.mul_comm 8] at this
    exact this
theorem octVal_bound (l : Bs) (h : ∀ x ∈ l, isOct x = true) : 0 ≤ octVal l ∧ octVal l < 8 ^ l.length := by
  have := octVal_go l 0 1 h (by omega) (by omega)
  unfold octVal
  omega
theorem octVal_small (l : Bs) (k : Nat) (h : ∀ x ∈ l, isOct x = true) (hl : l.length ≤ k) (hk : k ≤ 20) : 0 ≤ octVal l ∧ octVal l < 1152921504606846976 := by
  have := octVal_bound l h
  have h2 : (8 : Int) ^ l.length ≤ 8 ^ 20 := by
    have : (8 : Nat) ^ l.length ≤ 8 ^ 20 := Nat.pow_le_pow_right (by omega) (by omega)
    have e : ((8 ^ l.length : Nat) : Int) = 8 ^ l.length := by simp
    rw [← e]
    omega
  omega

theorem take_tw (f : UInt8 → Bool) (l : Bs) : l.take (l.takeWhile f).length = l.takeWhile f := by
  have h := List.takeWhile_append_dropWhile (p := f) (l := l)
  have h2 := List.take_left (l₁ := l.takeWhile f) (l₂ := l.dropWhile f)
  rw [h] at h2
  exact h2
theorem tw_all (f : UInt8 → Bool) (l : Bs) : ∀ x ∈ l.takeWhile f, f x = true := fun x hx => takeWhile_mem f l x hx

set_option maxRecDepth 100000 in
set_option maxHeartbeats 2000000 in
theorem numf_Get_text (A : Option Addr) (n c : Nat) (l : Bs) (w : World) (hl : l.length = n) (hc : n ≤ c) (hbig : c ≤ 9223372036854775807) (hn : n = 8 ∨ n = 12) (h : Rd w A l) (hb : l.headD 0 ≠ 128 ∧ l.headD 0 ≠ 255) :
    Calls Tryz.prog 102 #[.slice A n c] w fun e w' => e = .returned (.tuple #[.int .i64 (nGet l).1, .int .i64 (nGet l).2]) ∧ Below w.heap.size w w' := by
  obtain ⟨r, hr⟩ : ∃ r, l.dropWhile (· == 32) = r := ⟨_, rfl⟩
  obtain ⟨d, hd⟩ : ∃ d, r.takeWhile isOct = d := ⟨_, rfl⟩
  have hR : nGet l = if d = [] ∨ ¬ (r.drop d.length).all isPad then (0, 3) else (octVal d, 0) := by
    unfold nGet
    rw [if_neg (by omega), if_neg (by simp only [not_or]; exact hb)]
    simp only [hr, hd]
  obtain ⟨b, o, rfl, hcell⟩ := h.cell (j := 0) (by omega)
  have hhd : l.getD 0 0 = l.headD 0 := by cases l <;> rfl
  rw [hhd, Nat.add_zero] at hcell
  obtain ⟨x, hx⟩ : ∃ x : UInt8, l.headD 0 = x := ⟨_, rfl⟩
  rw [hx] at hcell hb
  have hne1 : ((x.toNat : Int) == 128) = false := by rw [beq_eq_false_iff_ne]; intro h; exact hb.1 (UInt8.toNat_inj.1 (by simp; omega))
  have hne2 : ((x.toNat : Int) == 255) = false := by rw [beq_eq_false_iff_ne]; intro h; exact hb.2 (UInt8.toNat_inj.1 (by simp; omega))
  have hw : ((n : Int) == 8 || (n : Int) == 12) = true := by rcases hn with rfl | rfl <;> rfl
  have h0n : 0 < n := by omega
  have hn12 : n ≤ 12 := by omega
  have hrl : r.length ≤ n := by rw [← hr, ← hl]; exact dropWhile_len _ _
  have hdl : d.length ≤ r.length := by rw [← hd]; exact tw_le _ _
  have HT := Lib.hid (fun W (hW : Rd W (some ⟨b, o, none⟩) l) => lib_TrimLeft (some ⟨b, o, none⟩) n c l 32 W hl hc (by omega) (by decide) hW)
  have HH := Lib.hid h
  have HRR := Lib.hid hR
  have HHR := Lib.hid hr
  have HHD := Lib.hid hd
  have HW := Lib.hid hw
  have HB := Lib.hid hb
  have HN := Lib.hid hn
  clear hR hr hd hw hb hn hx hhd h hl
  have htr : ((Lib.trimS (r.drop d.length) [32, 0]).length = 0) ↔ (r.drop d.length).all isPad = true := trimS_len _ 32 0
  by_cases hd0 : d = []
  · have h00 : d.length = 0 := by rw [hd0]; rfl
    have HR2 := Lib.hid (show nGet l = (0, 3) from by rw [HRR.out, if_pos (.inl hd0)])
    clear htr hd0 HRR
    rw [HR2.out]
    go_enter Tryz.func102, Tryz.ntmps102
    go_wp2
    refine wp_scope_once 0 rfl ?_
    go_wp2_with (first | (go_at_call 131; refine (numf_isWidth _ _).mono ?_; rintro e w' ⟨rfl, rfl⟩; rw [HW.out]) | (go_at_call 130; go_must (refine (HT.out _ HH.out).mono ?_); rintro e w' ⟨A1, c1, rfl, hc1, hA1, hcc, hrd, rfl⟩; rw [HHR.out] at hc1 hrd ⊢; have HA1 := Lib.hid hA1; have HRD := Lib.hid hrd; clear hA1 hrd) | (go_at_call 132; go_must (refine (numf_digits A1 r.length c1 r _ rfl hc1 (by omega) HRD.out).mono ?_); rintro e w' ⟨rfl, rfl⟩; rw [HHD.out]; obtain ⟨A2, hcut, hrd2, _⟩ := cut_from .i64 A1 r.length c1 d.length hdl; have HRD2 := Lib.hid (hrd2 _ r rfl hc1 HRD.out); clear hrd2) | (go_at_call 133; go_must (refine (lib_Trim A2 (r.length - d.length) (c1 - d.length) (r.drop d.length) 32 0 _ (by rw [List.length_drop]) (by omega) (by omega) (by decide) (by decide) HRD2.out).mono ?_); rintro e w1 ⟨A3, c3, rfl, hbl⟩; have HBL := Lib.hid hbl; clear hbl))
    try rw [jump_ret]
    go_ret2
    exact ⟨rfl, Below.refl _ _⟩
  · have h00 : ¬ d.length = 0 := by intro h; exact hd0 (List.eq_nil_of_length_eq_zero h)
    have h01 : ((d.length : Int) == 0) = false := by rw [beq_eq_false_iff_ne]; omega
    by_cases hp : (r.drop d.length).all isPad = true
    · have hz := htr.2 hp
      have hz1 : ¬ (0 : Int) < ((Lib.trimS (r.drop d.length) [32, 0]).length : Int) := by omega
      have HR2 := Lib.hid (show nGet l = (octVal d, 0) from by rw [HRR.out, if_neg (by simp only [not_or, Decidable.not_not]; exact ⟨hd0, hp⟩)])
      clear htr hd0 HRR hp hz
      rw [HR2.out]
      go_enter Tryz.func102, Tryz.ntmps102
      go_wp2
      refine wp_scope_once 0 rfl ?_
      go_wp2_with (first | (go_at_call 131; refine (numf_isWidth _ _).mono ?_; rintro e w' ⟨rfl, rfl⟩; rw [HW.out]) | (go_at_call 130; go_must (refine (HT.out _ HH.out).mono ?_); rintro e w' ⟨A1, c1, rfl, hc1, hA1, hcc, hrd, rfl⟩; rw [HHR.out] at hc1 hrd ⊢; have HA1 := Lib.hid hA1; have HRD := Lib.hid hrd; clear hA1 hrd) | (go_at_call 132; go_must (refine (numf_digits A1 r.length c1 r _ rfl hc1 (by omega) HRD.out).mono ?_); rintro e w' ⟨rfl, rfl⟩; rw [HHD.out]; obtain ⟨A2, hcut, hrd2, _⟩ := cut_from .i64 A1 r.length c1 d.length hdl; have HRD2 := Lib.hid (hrd2 _ r rfl hc1 HRD.out); clear hrd2) | (go_at_call 133; go_must (refine (lib_Trim A2 (r.length - d.length) (c1 - d.length) (r.drop d.length) 32 0 _ (by rw [List.length_drop]) (by omega) (by omega) (by decide) (by decide) HRD2.out).mono ?_); rintro e w1 ⟨A3, c3, rfl, hbl⟩; have HBL := Lib.hid hbl; clear hbl))
      have HDR := Lib.hid (show Rd w1 A1 d from by
        have h1 := (HRD.out.take d.length).below HBL.out
        rw [show r.take d.length = d from by rw [← HHD.out]; exact take_tw isOct r] at h1
        exact h1)
      clear hz1
      go_loop [4, 8, 41] (fun a _ i => ∃ k : Nat, k ≤ d.length ∧ i = .int .i64 k ∧ a = .int .i64 (octVal (d.take k))) (fun _ _ i => d.length - (intOf i).toNat)
      case atStart => exact ⟨0, by omega, rfl, rfl⟩
      case round =>
        obtain ⟨k, hk, rfl, rfl⟩ := hrel
        by_cases hlt : k < d.length
        · obtain ⟨b1, o1, rfl, hc2⟩ := HDR.out.cell hlt
          have hoct := tw_all isOct r
          rw [HHD.out] at hoct
          have hsn : d.take (k + 1) = d.take k ++ [d.getD k 0] := by
            rw [List.take_succ_eq_append_getElem hlt]
            simp [List.getD, List.getElem?_eq_getElem hlt]
          have hx8 : isOct (d.getD k 0) = true := hoct _ (by simp [List.getD, List.getElem?_eq_getElem hlt])
          obtain ⟨y, hy⟩ : ∃ y : UInt8, d.getD k 0 = y := ⟨_, rfl⟩
          rw [hy] at hc2 hsn hx8
          have hv := octVal_small (d.take k) 20 (fun z hz => hoct z (List.mem_of_mem_take hz)) (by rw [List.length_take]; omega) (by omega)
          have hs := octVal_snoc (d.take k) y
          rw [← hsn] at hs
          have HS := Lib.hid hs
          obtain ⟨m, hm⟩ : ∃ m, octVal (d.take k) = m := ⟨_, rfl⟩
          have HM := Lib.hid hm
          rw [hm] at hv ⊢
          have hy2 : 48 ≤ y.toNat ∧ y.toNat ≤ 55 := by simpa [isOct] using hx8
          obtain ⟨y1, y2⟩ := hy2
          obtain ⟨v1, v2⟩ := hv
          have ho := or_oct m ((y.toNat : Int) - 48) v1 v2 (by omega) (by omega)
          clear hoct hsn hx8 hy hs hm
          go_wp2
          go_round
          case rel => exact ⟨k + 1, by omega, by go_num, by rw [HS.out, HM.out]⟩
          case measure => simp [intOf]; omega
        · obtain rfl : k = d.length := by omega
          rw [List.take_length]
          go_wp2
          try rw [jump_ret]
          go_ret2
          exact ⟨rfl, HBL.out⟩
    · have hz : ¬ (Lib.trimS (r.drop d.length) [32, 0]).length = 0 := fun h => hp (htr.1 h)
      have hz1 : (0 : Int) < ((Lib.trimS (r.drop d.length) [32, 0]).length : Int) := by omega
      have HR2 := Lib.hid (show nGet l = (0, 3) from by rw [HRR.out, if_pos (.inr hp)])
      clear htr hd0 HRR hp hz
      rw [HR2.out]
      go_enter Tryz.func102, Tryz.ntmps102
      go_wp2
      refine wp_scope_once 0 rfl ?_
      go_wp2_with (first | (go_at_call 131; refine (numf_isWidth _ _).mono ?_; rintro e w' ⟨rfl, rfl⟩; rw [HW.out]) | (go_at_call 130; go_must (refine (HT.out _ HH.out).mono ?_); rintro e w' ⟨A1, c1, rfl, hc1, hA1, hcc, hrd, rfl⟩; rw [HHR.out] at hc1 hrd ⊢; have HA1 := Lib.hid hA1; have HRD := Lib.hid hrd; clear hA1 hrd) | (go_at_call 132; go_must (refine (numf_digits A1 r.length c1 r _ rfl hc1 (by omega) HRD.out).mono ?_); rintro e w' ⟨rfl, rfl⟩; rw [HHD.out]; obtain ⟨A2, hcut, hrd2, _⟩ := cut_from .i64 A1 r.length c1 d.length hdl; have HRD2 := Lib.hid (hrd2 _ r rfl hc1 HRD.out); clear hrd2) | (go_at_call 133; go_must (refine (lib_Trim A2 (r.length - d.length) (c1 - d.length) (r.drop d.length) 32 0 _ (by rw [List.length_drop]) (by omega) (by omega) (by decide) (by decide) HRD2.out).mono ?_); rintro e w1 ⟨A3, c3, rfl, hbl⟩; have HBL := Lib.hid hbl; clear hbl))
      try rw [jump_ret]
      go_ret2
      exact ⟨rfl, HBL.out⟩

theorem numf_Get (A : Option Addr) (n c : Nat) (l : Bs) (w : World) (hl : l.length = n) (hc : n ≤ c) (hbig : c ≤ 9223372036854775807) (hn : n = 8 ∨ n = 12) (h : Rd w A l) :
    Calls Tryz.prog 102 #[.slice A n c] w fun e w' => e = .returned (.tuple #[.int .i64 (nGet l).1, .int .i64 (nGet l).2]) ∧ Below w.heap.size w w' := by
  by_cases h1 : l.headD 0 = 128
  · exact (numf_Get_128 A n c l w hl hc hn h h1).mono fun e w' ⟨h, q, hq⟩ => ⟨h, by rw [hq]; exact below_drewN (Below.refl _ _) q⟩
  by_cases h2 : l.headD 0 = 255
  · exact (numf_Get_255 A n c l w hl hc hn h h2).mono fun e w' ⟨h, q, hq⟩ => ⟨h, by rw [hq]; exact below_drewN (Below.refl _ _) q⟩
  exact numf_Get_text A n c l w hl hc hbig hn h ⟨h1, h2⟩
end Go.Proofs.YtckgjbpgdpcnnaaGreatDoor
