/-
  append(v, make([]byte, m)...) onto a row of the call's own.
-/
import Derived.Test.YtckgjbpgdpcnnaaGreatDoorBase
import Derived.Test.YtckgjbpgdpcnnaaGreatDoorPureF
namespace Go.Proofs.YtckgjbpgdpcnnaaGreatDoor
set_option linter.all false
set_option linter.unusedVariables false
set_option linter.unusedSimpArgs false
open Go.RowKit Pl

theorem bcs_one' (r : Bs) : ∀ v ∈ bcs r, v.oneCell' = true := by
  intro v hv
  simp only [bcs, List.mem_map] at hv
  obtain ⟨q, _, rfl⟩ := hv
  rfl
theorem app_key (x y : List Value) (Z : Array Value) : x.toArray ++ (y.toArray ++ Z) = (x ++ y).toArray ++ Z := by
  apply Array.ext'
  simp
theorem zero_row (m : Nat) : Builtin.zeroCells (Value.int .u8 0).cells m = (bcs (noughts m)).toArray := by
  apply Array.ext
  · simp [size_zeroCells, bcs, noughts, Value.cells]
  · intro i h1 h2
    simp [Builtin.zeroCells, bcs, noughts, Value.cells, Nat.mod_one]
set_option maxHeartbeats 1000000 in
/-- append(v, make([]byte, m)...). -/
theorem run_app_zeros {W : World} (ty : TypeId) (base : Nat) (v : Value) (n : Nat) (l : Bs) (m : Nat)
    (HO : W.ownsRow base 5 1 v n (bcs l)) (hbase : base ≤ W.heap.size) (hl : n + m ≤ 140737488355328) :
    ∃ v1 w1, (Builtin.append_ #[31, 3] ty #[v, .int .i64 (m : Int)]).run Tryz.prog W = .ok v1 w1 ∧ w1.ownsRow base 5 1 v1 (n + m) (bcs (l ++ noughts m)) ∧ W.grownBy w1 v.ownBlock ∧ (v1.ownBlock = v.ownBlock ∨ v1.ownBlock = some W.heap.size) := by
  obtain ⟨i0, hi, hz0, hz1, hz2⟩ := info_parts info5
  have ht := Tryz.underlying31
  have h3 := Tryz.underlying3
  have hw : IntKind.i64.wrap (m : Int) = m := by rw [IntKind.wrap_i64]; omega
  have hb48 : ¬ (281474976710656 < (m : Int)) := by omega
  have h0m : ¬ ((m : Int) < 0) := by omega
  have hlen : (bcs (l ++ noughts m)).length = (n + m) * 1 := by have := HO.1; simp [bcs, noughts] at this ⊢; omega
  have hn0 : (bcs l).length = n := by have := HO.1; simpa using this
  have hz := zero_row m
  have grown : ∀ (old : Nat), old < n + m → ∀ (row : Option Nat),
      (W.drew.alloc (.cells ((bcs l).toArray ++ (bcs (noughts m)).toArray ++ Builtin.zeroCells (Value.int .u8 0).cells (grownCap W (n + m) old 5 - (n + m))) 5)).ownsRow base 5 1
        (.slice (some ⟨W.heap.size, 0, none⟩) (n + m) (grownCap W (n + m) old 5)) (n + m) (bcs (l ++ noughts m)) ∧
      W.grownBy (W.drew.alloc (.cells ((bcs l).toArray ++ (bcs (noughts m)).toArray ++ Builtin.zeroCells (Value.int .u8 0).cells (grownCap W (n + m) old 5 - (n + m))) 5)) row := by
    intro old ho row
    have hge := grownCap_ge W (n + m) old 5
    have hcm : grownCap W (n + m) old 5 ≤ maxLen := grownCap_le_maxLen W (n + m) old 5 (by unfold maxLen; omega)
    refine ⟨⟨hlen, .inr ⟨W.heap.size, _, _, rfl, hbase, heap_alloc_new W.drew _, hge, hcm, ?_, ?_⟩⟩, ⟨rfl, rfl, rfl, by simp, fun k hk _ => Below.heap_alloc W.drew _ k hk⟩⟩
    · have hc1 : (Value.int .u8 0).cells.size = 1 := rfl
      simp only [Array.size_append, List.size_toArray, size_zeroCells, hc1, bcs_length, noughts_len]
      rw [bcs_length] at hn0
      omega
    · rw [bcs_append] at hlen ⊢
      simp only [Array.toList_append, List.append_assoc]
      rw [← List.append_assoc, ← hlen]
      exact List.take_left
  by_cases hm : m = 0
  · subst hm
    refine ⟨v, W, ?_, by simpa [noughts] using HO, World.grownBy.refl W _, Or.inl rfl⟩
    have hw0 : IntKind.i64.wrap 0 = 0 := by decide
    rcases HO.2 with ⟨rfl, rfl⟩ | ⟨g, cap, cur, rfl, hbg, hg, hnc, hcm, hcs, htake⟩
    · simp [hw0, Builtin.append_, run_underlying ht, run_underlying h3, sizeOf, typeInfo, hi, hz0, hz1, hz2, asInt, asIntOf]
    · simp [hw0, Builtin.append_, run_underlying ht, run_underlying h3, sizeOf, typeInfo, hi, hz0, hz1, hz2, asInt, asIntOf, hnc, storeCells]
  rcases HO.2 with ⟨rfl, rfl⟩ | ⟨g, cap, cur, rfl, hbg, hg, hnc, hcm, hcs, htake⟩
  · have hx : bcs l = [] := List.eq_nil_of_length_eq_zero (by simpa using hn0)
    have hx2 : l = [] := by cases l with
      | nil => rfl
      | cons a t => simp [bcs] at hx
    subst hx2
    have hgr := grown 0 (by omega) (Value.ownBlock (.slice none 0 0))
    refine ⟨_, _, ?_, hgr.1, hgr.2, Or.inr rfl⟩
    have h48' : ¬ (281474976710656 < Builtin.nextslicecap m 0) := by rw [nextslicecap_zero (by omega)]; omega
    have h63' : ¬ (9223372036854775807 < (m : Int)) := by omega
    simp [Builtin.append_, run_underlying ht, run_underlying h3, sizeOf, typeInfo, zeroValue, hi, hz0, hz1, hz2, asInt, asIntOf, hw, hm, hb48, h0m, h48', h63', Question.forced, run_firstCells_none, newRow, grownCap, hz, bcs]
  · by_cases hroom : n + m ≤ cap
    · have hst := run_storeCells_at Tryz.prog g (n * 1) 5 (bcs (noughts m)) 0 cur W hg (by simp [bcs, noughts]; omega) (bcs_one' _)
      simp only [Nat.add_zero] at hst
      refine ⟨_, _, ?_, ⟨hlen, .inr ⟨g, cap, _, rfl, hbg, setRow_heap W g cur (cur.toList.take (n * 1) ++ bcs (noughts m) ++ cur.toList.drop (n * 1 + (bcs (noughts m)).length)).toArray 5 _ hg, hroom, hcm, ?_, ?_⟩⟩, ⟨rfl, rfl, rfl, by simp [World.setRow], fun k _ hk => setRow_other W g k _ (fun e => hk (by simp [Value.ownBlock, e]))⟩, Or.inl rfl⟩
      · simp [Builtin.append_, run_underlying ht, run_underlying h3, sizeOf, typeInfo, zeroValue, hi, hz0, hz1, hz2, asInt, asIntOf, hw, hm, hb48, h0m, hroom, hz, Addr.add_lit]
        simp at hst
        rw [hst]
        rfl
      · simp only [List.size_toArray, List.length_append, List.length_take, List.length_drop, Array.length_toList, bcs_length, noughts_len]
        omega
      · rw [htake, bcs_append] at *
        rw [← hlen]
        exact List.take_left
    · have holds : ∀ j u, (bcs l)[j]? = some u → W.cell? ((⟨g, 0, none⟩ : Addr).add j) = some u := HO.cells (g := g) rfl
      have hgr := grown cap (by omega) (Value.ownBlock (.slice (some ⟨g, 0, none⟩) n cap))
      have hfo := run_firstCells_some (P := Tryz.prog) W.drew 1 n ⟨g, 0, none⟩ n cap (bcs l) (by omega) (by simpa using holds)
      have h48' : ¬ (281474976710656 < Builtin.nextslicecap (n + m) cap) := by
        have := nextslicecap_le (need := n + m) (old := cap) (by omega)
        omega
      have h63' : ¬ (9223372036854775807 < (n : Int) + (m : Int)) := by omega
      refine ⟨_, _, ?_, hgr.1, hgr.2, Or.inr rfl⟩
      simp [Builtin.append_, run_underlying ht, run_underlying h3, sizeOf, typeInfo, zeroValue, hi, hz0, hz1, hz2, asInt, asIntOf, hw, hm, hb48, h0m, h48', h63', hroom, Question.forced, hfo, newRow, grownCap, hz]
      rw [app_key]
end Go.Proofs.YtckgjbpgdpcnnaaGreatDoor
