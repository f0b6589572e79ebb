/-
  strings.IndexRune at a rune beyond ASCII, in a short text of ASCII signs: there is none.
-/
import Derived.Test.YtckgjbpgdpcnnaaGreatDoorLibs
import Derived.Laws.Runes
import Derived.Laws.RangeAny
import Derived.WalkMore
import Derived.Deep.Draws
import Derived.ScopeJumps
import Derived.Lib.OthersKept
import Derived.Shelf.Small.Strs
namespace Go.Proofs.YtckgjbpgdpcnnaaGreatDoor
set_option linter.all false
set_option linter.unusedVariables false
set_option linter.unusedSimpArgs false
open Go.RowKit Pl

section
variable {P : Program} {a : Act} {w : World} {Q : Exit → Act → World → Prop} {l : Nat} {J : Act → World → Prop}
theorem jmp_ret : Exit.jump l J Q .ret a w = Q .ret a w := rfl
theorem jmp_normal : Exit.jump l J Q .normal a w = Q .normal a w := rfl
theorem jmp_exit (id : Nat) : Exit.jump l J Q (.exit id) a w = Q (.exit id) a w := rfl
theorem jmp_panic (ch : List PanicEntry) : Exit.jump l J Q (.panic ch) a w = Q (.panic ch) a w := rfl
end
attribute [local go_sem] jmp_ret jmp_normal jmp_exit jmp_panic
def Asc (s : ByteArray) : Prop := ∀ b ∈ s.data.toList, b.toNat < 128
theorem Asc.at_ {s : ByteArray} (h : Asc s) (i : Nat) (hi : i < s.size) : (s[i]'hi).toNat < 128 := h _ (Array.getElem_mem_toList (xs := s.data) hi)
theorem below_iter (w : World) (s : ByteArray) (pos : Nat) : Below w.heap.size w (w.iter s pos) := (Below.refl _ w).alloc (Nat.le_refl _) _
set_option maxRecDepth 100000 in
set_option maxHeartbeats 1000000 in
theorem irune_err (s : ByteArray) (w : World) (hs : Asc s) : Calls Tryz.prog 212 #[.string s, .int .i32 65533] w fun e w' => e = .returned (.int .i64 (-1)) ∧ Below w.heap.size w w' := by
  have HS := Lib.hid hs
  clear hs
  go_enter Tryz.func212, Tryz.ntmps212
  go_wp2
  go_loopg [5, 6] s.size (fun g _ _ wx => ∃ i : Nat, i + g = s.size ∧ wx = w.iter s i)
  case atStart => exact ⟨0, by omega, rfl⟩
  case round =>
    obtain ⟨i, hig, rfl⟩ := hrel
    cases gk with
    | zero =>
      obtain rfl : i = s.size := by omega
      have hnx := run_next_end (P := Tryz.prog) w s s.size
      go_wp2
      go_ret
      exact ⟨rfl, below_iter _ _ _⟩
    | succ g =>
      have hi : i < s.size := by omega
      obtain ⟨x, hx⟩ : ∃ x : UInt8, s[i]'hi = x := ⟨_, rfl⟩
      have hx128 : x.toNat < 128 := by rw [← hx]; exact HS.out.at_ i hi
      have hnx := fun ty => run_next_ascii (P := Tryz.prog) w s i ty hi (by rw [hx]; exact hx128)
      rw [hx] at hnx
      clear hx
      have hne : ((x.toNat : Int) == 65533) = false := by simp; omega
      go_wp2
      go_roundg g
      case measure => omega
      case rel => exact ⟨i + 1, by omega, rfl⟩
set_option maxRecDepth 100000 in
set_option maxHeartbeats 1000000 in
theorem vrune (r : Int) (w : World) (h0 : 0 ≤ r) : Calls Tryz.prog 221 #[.int .i32 r] w fun e w' => e = .returned (.bool (validRune r)) ∧ w = w' := by
  by_cases h1 : r < 55296
  · have e : validRune r = true := by unfold validRune; simp; omega
    rw [e]
    clear e
    go_enter Tryz.func221, Tryz.ntmps221
    go_wp2
    go_ret
    exact ⟨rfl, rfl⟩
  · by_cases h2 : 57343 < r ∧ r ≤ 1114111
    · obtain ⟨h2, h3⟩ := h2
      have e : validRune r = true := by unfold validRune; simp; omega
      rw [e]
      clear e
      go_enter Tryz.func221, Tryz.ntmps221
      go_wp2
      go_ret
      exact ⟨rfl, rfl⟩
    · have e : validRune r = false := by unfold validRune; simp; omega
      rw [e]
      clear e
      by_cases h3 : 57343 < r
      · have h4 : ¬ r ≤ 1114111 := fun h => h2 ⟨h3, h⟩
        clear h2
        go_enter Tryz.func221, Tryz.ntmps221
        go_wp2
        go_ret
        exact ⟨rfl, rfl⟩
      · clear h2
        go_enter Tryz.func221, Tryz.ntmps221
        go_wp2
        go_ret
        exact ⟨rfl, rfl⟩
set_option maxRecDepth 100000 in
set_option maxHeartbeats 1000000 in
theorem irune_bad (s : ByteArray) (r : Int) (w : World) (h0 : 128 ≤ r) (hne : r ≠ 65533) (hv : validRune r = false) : Calls Tryz.prog 212 #[.string s, .int .i32 r] w fun e w' => e = .returned (.int .i64 (-1)) ∧ w = w' := by
  have hV := fun W => vrune r W (by omega)
  rw [hv] at hV
  have HV := Lib.hid hV
  have hb : (r == 65533) = false := by simpa using hne
  clear hV hv hne
  go_enter Tryz.func212, Tryz.ntmps212
  go_wp2_with (go_at_call 221; refine (HV.out _).mono ?_; rintro e w' ⟨rfl, rfl⟩)
  go_ret
  exact ⟨rfl, rfl⟩
theorem libIndexByte (s : ByteArray) (n : UInt8) (w : World) : Calls Tryz.prog 49 #[.string s, .int .u8 (n.toNat : Int)] w fun e w' => e = .returned (.int .i64 (Lib.indexByte s.data.toList n)) ∧ w' = w :=
  (lib_IndexByte s n w).mono fun e w' ⟨h1, h2⟩ => ⟨h1, h2.symm⟩
theorem high_none (s : ByteArray) (a b : Nat) (x : UInt8) (hs : Asc s) (hx : 128 ≤ x.toNat) : Lib.indexByte (s.extract a b).data.toList x = -1 := by
  have hge := Lib.indexByte_ge (s.extract a b).data.toList x
  by_cases h : Lib.indexByte (s.extract a b).data.toList x = -1
  · exact h
  · obtain ⟨k, hk⟩ := Int.eq_ofNat_of_zero_le (show 0 ≤ Lib.indexByte (s.extract a b).data.toList x by omega)
    obtain ⟨h1, _⟩ := Lib.indexByte_some hk
    have := hs x (mem_extract (List.mem_of_getElem? h1))
    omega
theorem highIndexByte (s : ByteArray) (a b : Nat) (y : UInt8) (w : World) (hs : Asc s) (hy : 128 ≤ y.toNat) : Calls Tryz.prog 49 #[.string (s.extract a b), .int .u8 (y.toNat : Int)] w fun e w' => e = .returned (.int .i64 (-1)) ∧ w' = w :=
  (libIndexByte _ _ w).mono fun e w' ⟨h1, h2⟩ => ⟨by rw [h1, high_none s a b y hs hy], h2⟩
set_option maxRecDepth 100000 in
set_option maxHeartbeats 1000000 in
theorem irune_ok (s : ByteArray) (r : Int) (w : World) (hs : Asc s) (hl : s.size ≤ 1000) (h0 : 128 ≤ r) (h1 : r ≤ 1114111) (hne : r ≠ 65533) (hv : validRune r = true) : Calls Tryz.prog 212 #[.string s, .int .i32 r] w fun e w' => e = .returned (.int .i64 (-1)) ∧ Below w.heap.size w w' := by
  have hV := fun W => vrune r W (by omega)
  rw [hv] at hV
  have HV := Lib.hid hV
  have hb : (r == 65533) = false := by simpa using hne
  obtain ⟨e2, e4, e128⟩ := encode_facts r (by rw [validRune_eq]; exact hv) h0
  obtain ⟨t, ht⟩ : ∃ t, Utf8.encode r = t := ⟨_, rfl⟩
  have henc := fun W => run_convert_int_string (P := Tryz.prog) W 21 9 .i32 r (by rw [Tryz.underlying21]; rfl) Tryz.underlying9
  rw [ht] at e2 e4 e128 henc
  obtain ⟨j, hj⟩ : ∃ j, t.size = j + 1 := ⟨t.size - 1, by omega⟩
  have hj1 : j < t.size := by omega
  have hy : 128 ≤ (t[j]'hj1).toNat := by
    have := e128 (by omega)
    simpa [hj] using this
  rw [hj] at e2 e4
  obtain ⟨y, hyy⟩ : ∃ y, t[j]'hj1 = y := ⟨_, rfl⟩
  rw [hyy] at hy
  have HY := Lib.hid hyy
  clear hV hv hne ht e128 hyy
  have HS := Lib.hid hs
  have HN := Lib.hid fun a b W => highIndexByte s a b y W hs hy
  clear hs
  go_enter Tryz.func212, Tryz.ntmps212
  go_wp2_with (go_at_call 221; refine (HV.out _).mono ?_; rintro e w' ⟨rfl, rfl⟩)
  refine wp_scope_jumps 1 (fun _ _ => False) (fun _ _ => 0) rfl ?_ (fun a w h => h.elim)
  go_wp2
  go_loop [9, 10] (fun i f => i = .int .i64 (j : Int) ∧ f = .int .i64 0) (fun _ _ => 0)
  case atStart => exact ⟨by simp [hj], rfl⟩
  case round =>
    obtain ⟨rfl, rfl⟩ := hrel
    by_cases hlt : j < s.size
    · have hx := HS.out.at_ j hlt
      obtain ⟨x, hxx⟩ : ∃ x, s[j]'hlt = x := ⟨_, rfl⟩
      rw [hxx] at hx
      have HX := Lib.hid hxx
      clear hxx
      go_wp2
      refine wp_scope_jumps 0 (fun _ _ => False) (fun _ _ => 0) rfl ?_ (fun a w h => h.elim)
      go_wp2
      have hxy : ((x.toNat : Int) != (y.toNat : Int)) = true := by simp; omega
      have hxx := HX.out
      have hyy := HY.out
      go_quiet (fail)
      have hbw := below_drewN (Below.refl w.heap.size w) nq
      generalize w.drewN nq = w1 at hbw ⊢
      have HBW := Lib.hid hbw
      clear hbw
      go_wp2
      have hs1 : IntKind.i64.wrap ((j : Int) + 1) = (j : Int) + 1 := IntWalk.i64_in _ (by omega)
      have hs2 : (0 : Int) ≤ (j : Int) + 1 := by omega
      have hs3 : ((j : Int) + 1).toNat = j + 1 := by omega
      have hle : j + 1 ≤ s.size := by omega
      go_quiet ((go_at_call 49; go_loud (exact Calls.quiet_of_same (HN.out _ _ _))))
      go_wp2
      rw [jmp_ret]
      go_wp2
      try rw [jmp_ret]
      go_wp2
      go_ret
      exact ⟨rfl, below_drewN HBW.out _⟩
    · go_wp2
      try rw [jmp_normal]
      try rw [jmp_ret]
      go_wp2
      go_ret
      exact ⟨rfl, Below.refl _ _⟩
end Go.Proofs.YtckgjbpgdpcnnaaGreatDoor
