/-
  STRINGS as lists of bytes: cuts, joins, equality.
-/
import Derived.Test.YtckgjbpgdpcnnaaGreatDoorMem
namespace Go.Proofs.YtckgjbpgdpcnnaaGreatDoor
set_option linter.all false
set_option linter.unusedVariables false
set_option linter.unusedSimpArgs false
open Go.RowKit Pl

/-- The text of these bytes. -/
def st (l : Bs) : ByteArray := ⟨l.toArray⟩
theorem st_data (l : Bs) : (st l).data.toList = l := rfl
theorem st_size (l : Bs) : (st l).size = l.length := size_mk' l
where size_mk' (l : Bs) : (⟨l.toArray⟩ : ByteArray).size = l.length := by show l.toArray.size = _; simp
theorem st_of (s : ByteArray) : st s.data.toList = s := by unfold st; simp
theorem st_inj {l r : Bs} : st l = st r ↔ l = r := ⟨fun h => by have := congrArg (fun s : ByteArray => s.data.toList) h; exact this, fun h => by rw [h]⟩
theorem st_toList (l : Bs) : (st l).toList = l := by rw [ByteArray.toList_eq]; rfl
theorem st_beq (l r : Bs) : (st l == st r) = (l == r) := by rw [beq_toListBytes, st_toList, st_toList]
theorem st_nil : st [] = { data := #[] } := rfl
theorem st_append (l r : Bs) : st l ++ st r = st (l ++ r) := by
  apply ByteArray.ext
  apply Array.toList_inj.1
  simp [st, ByteArray.data_append]
theorem st_extract (l : Bs) (a b : Nat) : (st l).extract a b = st ((l.take b).drop a) := by
  apply ByteArray.ext
  apply Array.toList_inj.1
  rw [ByteArray.data_extract]
  have h : ((l.toArray).extract a b).toList = (l.take b).drop a := by
    rw [Array.toList_extract, List.extract_eq_take_drop, List.take_drop]
    rcases Nat.le_total a b with h | h
    · rw [Nat.add_sub_cancel' h]
    · rw [List.drop_eq_nil_of_le (by rw [List.length_take]; omega), List.drop_eq_nil_of_le (by rw [List.length_take]; omega)]
  exact h
theorem st_extract_l (l : Bs) (a : Nat) : (st l).extract a l.length = st (l.drop a) := by rw [st_extract, List.take_length]
theorem st_extract_h (l : Bs) (b : Nat) : (st l).extract 0 b = st (l.take b) := by rw [st_extract, List.drop_zero]
theorem str_under : Tryz.prog.underlying 9 = some .string := Tryz.underlying9
/-- 's[a:]'. -/
theorem scut_from (k : IntKind) (l : Bs) (a : Nat) (h : a ≤ l.length) (W : World) : (Instr.slice 9 (.string (st l)) (some (.int k (a : Int))) none none).run Tryz.prog W = .ok (.string (st (l.drop a))) W := by
  rw [run_slice_string_from_if W 9 (st l) k (a : Int) str_under, if_pos (by rw [st_size]; omega)]
  simp only [Int.toNat_natCast, st_size, st_extract_l]
/-- 's[:b]'. -/
theorem scut_to (k : IntKind) (l : Bs) (b : Nat) (h : b ≤ l.length) (W : World) : (Instr.slice 9 (.string (st l)) none (some (.int k (b : Int))) none).run Tryz.prog W = .ok (.string (st (l.take b))) W := by
  rw [run_slice_string_to_if W 9 (st l) k (b : Int) str_under, if_pos (by rw [st_size]; omega)]
  simp only [Int.toNat_natCast, st_extract_h]
end Go.Proofs.YtckgjbpgdpcnnaaGreatDoor
