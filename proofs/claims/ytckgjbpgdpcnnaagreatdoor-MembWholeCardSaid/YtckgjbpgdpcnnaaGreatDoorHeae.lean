/-
  THE CONTRACTS of package head, on: IsType, below, Path.
-/
import Derived.Test.YtckgjbpgdpcnnaaGreatDoorHead
namespace Go.Proofs.YtckgjbpgdpcnnaaGreatDoor
set_option linter.all false
set_option linter.unusedVariables false
set_option linter.unusedSimpArgs false
open Go.RowKit Pl
attribute [local go_sem] st_toList st_size

def mtVs (m : Meta) : List Value := [.int .i64 m.mode, .int .i64 m.uid, .int .i64 m.gid, .int .i64 m.mtime]
/-- A header as a value. -/
def hdV (h : Header) : Value := .agg #[.string (st h.pre), .string (st h.name), .int .i64 h.meta_.mode, .int .i64 h.meta_.uid, .int .i64 h.meta_.gid, .int .i64 h.meta_.mtime, .int .i64 h.size, .int .u8 (h.type.toNat : Int), .string (st h.link)]
def I64 (n : Int) : Prop := -9223372036854775808 ≤ n ∧ n ≤ 9223372036854775807
structure HdOk (h : Header) : Prop where
  pre : h.pre.length < 1073741824
  name : h.name.length < 1073741824
  link : h.link.length < 1073741824
  mode : I64 h.meta_.mode
  uid : I64 h.meta_.uid
  gid : I64 h.meta_.gid
  mtime : I64 h.meta_.mtime
  size : I64 h.size

theorem nPut_len (n : Int) (d : Nat) (hd : d = 8 ∨ d = 12) : ((nPut n d).2 = 0 ∧ (nPut n d).1.length = d) ∨ ((nPut n d).2 ≠ 0 ∧ (nPut n d).1 = []) := by
  unfold nPut
  split
  · exact .inl ⟨rfl, by rw [List.length_append, octs_len]; simp; omega⟩
  · split
    · exact .inr ⟨by decide, rfl⟩
    · exact .inl ⟨rfl, baseB_len n d (by omega)⟩
theorem byte_ne (c k : UInt8) (h : c ≠ k) : ((c.toNat : Int) == (k.toNat : Int)) = false := by
  rw [beq_eq_false_iff_ne]
  intro h'
  apply h
  apply UInt8.toNat_inj.1
  omega
set_option maxRecDepth 100000 in
theorem head_IsType (c : UInt8) (w : World) :
    Calls Tryz.prog 68 #[.int .u8 (c.toNat : Int)] w fun e w' => e = .returned (.bool (isType c)) ∧ w = w' := by
  by_cases hc : c = 48 ∨ c = 49 ∨ c = 50 ∨ c = 53 ∨ c = 120 ∨ c = 103
  · rcases hc with rfl | rfl | rfl | rfl | rfl | rfl
    all_goals
      go_enter Tryz.func68, Tryz.ntmps68
      go_wp2
      go_ret
      exact ⟨rfl, rfl⟩
  · have hr : isType c = false := by
      unfold isType
      simp only [not_or] at hc
      simp [hc]
    rw [hr]
    simp only [not_or] at hc
    obtain ⟨h1, h2, h3, h4, h5, h6⟩ := hc
    have b1 : ((c.toNat : Int) == 48) = false := byte_ne c 48 h1
    have b2 : ((c.toNat : Int) == 49) = false := byte_ne c 49 h2
    have b3 : ((c.toNat : Int) == 50) = false := byte_ne c 50 h3
    have b4 : ((c.toNat : Int) == 53) = false := byte_ne c 53 h4
    have b5 : ((c.toNat : Int) == 120) = false := byte_ne c 120 h5
    have b6 : ((c.toNat : Int) == 103) = false := byte_ne c 103 h6
    clear hr h1 h2 h3 h4 h5 h6
    go_enter Tryz.func68, Tryz.ntmps68
    go_wp2
    go_ret
    exact ⟨rfl, rfl⟩

def min4 (a b c d : Int) : Int := min (min (min a b) c) d
theorem run_min_int4 {P : Program} {w : World} (ts : Array TypeId) (t : TypeId) (k k1 k2 k3 : IntKind) (x y z u : Int) : (Builtin.min_ ts t #[.int k x, .int k1 y, .int k2 z, .int k3 u]).run P w = .ok (.int k (min4 x y z u)) w := by
  have h : min4 x y z u = (if u < (if z < (if y < x then y else x) then z else (if y < x then y else x)) then u else (if z < (if y < x then y else x) then z else (if y < x then y else x))) := by
    unfold min4
    omega
  rw [h]
  simp [Builtin.min_]
  try rfl
attribute [local go_sem] run_min_int4
def hdBelow (h : Header) : Bool := decide (h.meta_.mode < 0 ∨ h.meta_.uid < 0 ∨ h.meta_.gid < 0 ∨ h.size < 0)
set_option maxRecDepth 100000 in
theorem head_below (h : Header) (w : World) :
    Calls Tryz.prog 69 #[hdV h] w fun e w' => e = .returned (.bool (hdBelow h)) ∧ Below w.heap.size w w' := by
  obtain ⟨p, n, ⟨m, u, g, t⟩, z, ty, k⟩ := h
  unfold hdV hdBelow
  simp only []
  go_enter Tryz.func69, Tryz.ntmps69
  go_wp2
  go_ret
  refine ⟨?_, (Below.refl _ _).alloc (Nat.le_refl _) _⟩
  have : decide (min4 m u g z < 0) = decide (m < 0 ∨ u < 0 ∨ g < 0 ∨ z < 0) := by
    rw [decide_eq_decide]
    unfold min4
    omega
  rw [← this]
  rfl
set_option maxRecDepth 100000 in
theorem head_Path (h : Header) (hh : HdOk h) (w : World) :
    Calls Tryz.prog 51 #[hdV h] w fun e w' => e = .returned (.string (st (sJoin h.pre h.name))) ∧ Below w.heap.size w w' := by
  have hJ := fun W => strf_Join h.pre h.name W (by have := hh.pre; have := hh.name; omega)
  obtain ⟨p, n, ⟨m, u, g, t⟩, z, ty, k⟩ := h
  simp only [] at hJ
  unfold hdV
  simp only []
  have HJ := Lib.hid hJ
  clear hJ hh
  go_enter Tryz.func51, Tryz.ntmps51
  go_wp2_with (go_at_call 84; go_must (refine (HJ.out _).mono ?_); rintro en w1 ⟨rfl, rfl⟩)
  go_ret
  exact ⟨rfl, (Below.refl _ _).alloc (Nat.le_refl _) _⟩
end Go.Proofs.YtckgjbpgdpcnnaaGreatDoor
