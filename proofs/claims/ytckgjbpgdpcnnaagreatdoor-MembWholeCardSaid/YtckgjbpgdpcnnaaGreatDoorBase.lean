/-
  THE WORDS OF MEMORY for the walks: a slice that holds bytes, a row of the call's own that holds bytes, what the library's tables hold.
-/
import Derived.Test.YtckgjbpgdpcnnaaGreatDoorProg
import Derived.Test.YtckgjbpgdpcnnaaGreatDoorPureB
import Derived.Below
import Derived.OwnWalk
import Derived.WalkKit
import Derived.KernelRfl
import Derived.Deep.Draws
import Derived.Deep.AppendLies
import Derived.Deep.OwnRows
import Derived.Deep.LoopGhost
import Derived.Deep.QuietTactic
import Derived.Deep.DeepCutAuto
import Derived.Deep.RegionHeld3
import Derived.Maps.AppendAt
import Derived.BigQuiet
import Derived.Laws.OwnMore
import Derived.Laws.MakeOwn
import Derived.Laws.Rows
import Derived.Lib.Hide
import Derived.Lib.UnsafeStr
import Derived.IntWalk
import Derived.WalkSpells
import Derived.WalkLawsBesides
import Derived.Outline
import Derived.Handy
namespace Go.Proofs.YtckgjbpgdpcnnaaGreatDoor
set_option linter.all false
set_option linter.unusedVariables false
set_option linter.unusedSimpArgs false
open Go.RowKit Pl

/-- The cells of bytes. -/
def bcs (l : Bs) : List Value := l.map fun x => Value.int .u8 (x.toNat : Int)
theorem bcs_length (l : Bs) : (bcs l).length = l.length := by simp [bcs]
theorem bcs_append (l r : Bs) : bcs (l ++ r) = bcs l ++ bcs r := by simp [bcs]
theorem bcs_get (l : Bs) (j : Nat) : (bcs l)[j]? = (l[j]?).map fun x => Value.int .u8 (x.toNat : Int) := by simp [bcs]
theorem byteCells_eq (l : Bs) : Lib.byteCells l = bcs l := rfl

/-- At the address A the bytes l lie. -/
def Rd (w : World) (A : Option Addr) (l : Bs) : Prop :=
  0 < l.length → ∃ b o, A = some ⟨b, o, none⟩ ∧ ∀ j x, l[j]? = some x → w.cell? ⟨b, o + j, none⟩ = some (.int .u8 (x.toNat : Int))

theorem Rd.nil (w : World) (A : Option Addr) : Rd w A [] := fun h => absurd h (by simp)
theorem Rd.below {w w1 : World} {A : Option Addr} {l : Bs} (h : Rd w A l) (hb : Below w.heap.size w w1) : Rd w1 A l := fun hn => by
  obtain ⟨b, o, e, hc⟩ := h hn
  exact ⟨b, o, e, fun j x hx => (hb.cell (World.block_lt_of_cell? w _ (hc j x hx))).trans (hc j x hx)⟩
theorem Rd.cell {w : World} {A : Option Addr} {l : Bs} (h : Rd w A l) {j : Nat} (hj : j < l.length) : ∃ b o, A = some ⟨b, o, none⟩ ∧ w.cell? ⟨b, o + j, none⟩ = some (.int .u8 ((l.getD j 0).toNat : Int)) := by
  obtain ⟨b, o, e, hc⟩ := h (by omega)
  exact ⟨b, o, e, hc j _ (by simp [List.getD, List.getElem?_eq_getElem hj])⟩
/-- A row of the call's own is read. -/
theorem Rd.of_own {w : World} {base : Nat} {v : Value} {l : Bs} (h : w.ownsRow base 5 1 v l.length (bcs l)) : ∃ A c, v = .slice A l.length c ∧ l.length ≤ c ∧ Rd w A l := by
  rcases Nat.eq_zero_or_pos l.length with h0 | h0
  · have hl : l = [] := List.eq_nil_of_length_eq_zero h0
    subst hl
    rcases h.2 with ⟨rfl, _⟩ | ⟨g, cap, cur, rfl, _⟩
    · exact ⟨none, 0, rfl, by simp, Rd.nil _ _⟩
    · exact ⟨_, cap, rfl, by simp, Rd.nil _ _⟩
  · rcases h.2 with ⟨_, h1⟩ | ⟨g, cap, cur, rfl, _, _, hc, _⟩
    · omega
    · refine ⟨_, cap, rfl, hc, fun _ => ⟨g, 0, rfl, fun j x hx => ?_⟩⟩
      have hj : j < l.length := (List.getElem?_eq_some_iff.1 hx).1
      rw [Nat.zero_add, h.cellAt j (by omega), bcs_get, hx]
      rfl

/-- Element k of a row of bytes of the call's own: its cell, which may be written. -/
theorem own_cell {w : World} {base g n cap : Nat} {l : Bs} (h : w.ownsRow base 5 1 (.slice (some ⟨g, 0, none⟩) n cap) n (bcs l)) {k : Nat} (hk : k < n) :
    w.cell? ⟨g, k, none⟩ = some (.int .u8 ((l.getD k 0).toNat : Int)) ∧ w.frozen? ⟨g, k, none⟩ = false := by
  have hl : l.length = n := by have := h.1; simp [bcs] at this; exact this
  constructor
  · rw [h.cellAt k (by omega), bcs_get, List.getElem?_eq_getElem (show k < l.length by omega)]
    simp [List.getD, List.getElem?_eq_getElem (show k < l.length by omega)]
  · rcases h.2 with ⟨h', _⟩ | ⟨g', cap', cur, h', _, hh, _⟩
    · cases h'
    · have : g = g' := by injection h' with h'; injection h' with h'; injection h' with h'
      subst this
      simp [World.frozen?, hh]
theorem own_put {w : World} {base g n cap : Nat} {l : Bs} (h : w.ownsRow base 5 1 (.slice (some ⟨g, 0, none⟩) n cap) n (bcs l)) (k : Nat) (x : UInt8) :
    (w.setCell ⟨g, k, none⟩ (.int .u8 (x.toNat : Int))).ownsRow base 5 1 (.slice (some ⟨g, 0, none⟩) n cap) n (bcs (l.set k x)) := by
  have hs := (h.stored k (.int .u8 (x.toNat : Int))).1
  have he : (bcs l).set k (.int .u8 (x.toNat : Int)) = bcs (l.set k x) := by simp [bcs, List.map_set]
  rwa [he] at hs
/-- What make has laid. -/
theorem own_new (w : World) (base n : Nat) (hb : base ≤ w.heap.size) (hn : n ≤ 140737488355328) :
    (w.alloc (.cells (madeCells #[.int .u8 0] n) 5)).ownsRow base 5 1 (.slice (some ⟨w.heap.size, 0, none⟩) n n) n (bcs (noughts n)) := by
  have h := World.ownsRow_lit (base := base) (e := 5) (size := 1) w (madeCells #[.int .u8 0] n) n hb (by unfold maxLen; omega) (by simp [size_madeCells])
  have hl : (madeCells #[Value.int .u8 0] n).toList = bcs (noughts n) := by
    apply List.ext_getElem
    · simp [bcs, madeCells, noughts]
    · intro i h1 h2
      simp [bcs, madeCells, noughts, Nat.mod_one]
  rwa [hl] at h

/-- The table of the element type: bytes. -/
theorem info5 : (Tryz.prog.info? 5).map (fun i => (i.zero, i.size, i.bytes)) = some (some (.int .u8 0), 1, 1) := by kernel_rfl
/-- make([]byte, n), laid ahead of a walk. -/
theorem mk_bytes (n : Nat) (hn : n ≤ 140737488355328) (W : World) : (Instr.makeSlice 31 (.int .i64 n) (.int .i64 n)).run Tryz.prog W = .ok (.slice (some ⟨W.heap.size, 0, none⟩) n n) (W.alloc (.cells (madeCells #[.int .u8 0] n) 5)) :=
  run_make_row' 31 5 (.int .u8 0) 1 Tryz.underlying31 info5 rfl .i64 .i64 n (by omega) (by omega) W

/-! ### append onto a row of bytes of the call's own -/
theorem own_base {w : World} {base : Nat} {e : TypeId} {size n : Nat} {v : Value} {xs : List Value} (h : w.ownsRow base e size v n xs) (k : Nat) (hk : v.ownBlock = some k) : base ≤ k := (h.lt k hk).1
theorem own_more {w : World} {base base' : Nat} {e : TypeId} {size n : Nat} {v : Value} {xs : List Value} (h : w.ownsRow base e size v n xs) (hb : base' ≤ base) : w.ownsRow base' e size v n xs := by
  refine ⟨h.1, ?_⟩
  rcases h.2 with h | ⟨g, cap, cur, h1, h2, h3⟩
  · exact .inl h
  · exact .inr ⟨g, cap, cur, h1, Nat.le_trans hb h2, h3⟩
set_option maxRecDepth 100000 in
/-- append(v, ys...): whatever is read, nil let in: its run. -/
theorem run_app {W : World} (ty : TypeId) (base : Nat) (v : Value) (n : Nat) (l r : Bs) (A : Option Addr) (m c : Nat) (hm : r.length = m)
    (HO : W.ownsRow base 5 1 v n (bcs l)) (HR : Rd W A r) (hbase : base ≤ W.heap.size) (hl : n + m ≤ 140737488355328) :
    ∃ v1 w1, (Builtin.append_ #[31, 31] ty #[v, .slice A m c]).run Tryz.prog W = .ok v1 w1 ∧ w1.ownsRow base 5 1 v1 (n + m) (bcs (l ++ r)) ∧ W.grownBy w1 v.ownBlock ∧ (v1.ownBlock = v.ownBlock ∨ v1.ownBlock = some W.heap.size) := by
  obtain ⟨i0, hi, hz0, hz1, hz2⟩ := info_parts info5
  have ht := Tryz.underlying31
  rcases A with _ | ad
  · have h0 : m = 0 := by
      rcases Nat.eq_zero_or_pos m with h0 | h0
      · exact h0
      · obtain ⟨b, o, h, _⟩ := HR (by omega)
        cases h
    subst h0
    obtain rfl : r = [] := List.eq_nil_of_length_eq_zero hm
    refine ⟨v, W, ?_, by simpa using HO, World.grownBy.refl W _, .inl rfl⟩
    rcases HO.2 with ⟨rfl, hn⟩ | ⟨g, cap, cur, rfl, _, _, hnc, _⟩
    · simp [Builtin.append_, run_underlying ht, sizeOf, typeInfo, hi, Builtin.lenOf, Builtin.firstCells]
    · simp [Builtin.append_, run_underlying ht, sizeOf, typeInfo, hi, Builtin.lenOf, Builtin.firstCells, hnc, storeCells]
  · have hcells : ∀ j u, (bcs r)[j]? = some u → W.cell? (ad.add j) = some u := by
      intro j u hu
      rw [bcs_get] at hu
      obtain ⟨y, hy, rfl⟩ := Option.map_eq_some_iff.1 hu
      obtain ⟨b, o, h', hc⟩ := HR (by have := (List.getElem?_eq_some_iff.1 hy).1; omega)
      injection h' with h'
      subst h'
      have ha : (⟨b, o, none⟩ : Addr).add j = ⟨b, o + j, none⟩ := by unfold Addr.add; split <;> simp_all
      rw [ha]
      exact hc j y hy
    obtain ⟨v1, w1, hr, h2, h3, _, h5⟩ := run_append_own_at (P := Tryz.prog) W base 31 ty 5 i0 (.int .u8 0) 1 1 ht hi hz0 hz1 hz2 rfl (by omega) v n (bcs l) HO ad m c (bcs r) (by simp [bcs, hm]) hcells
      (by intro u hu; simp only [bcs, List.mem_map] at hu; obtain ⟨q, _, rfl⟩ := hu; rfl) (by simp only [maxLen]; omega) (by omega) hbase
    exact ⟨v1, w1, hr, by rw [bcs_append]; exact h2, h3, h5⟩
section
variable {ops : Array Oper} {rest : List Oper} {o : Oper} {a : Act} {Q : Exit → Act → World → Prop}
/-- append(v, ys...). -/
theorem app_all {w0 W : World} (base : Nat) (hgd : o.guard = none) (s x : Operand)
    (ho : o.op = .call { callee := .builtin .append, args := #[s, x], argTypes := #[31, 31] })
    (v : Value) (n : Nat) (l r : Bs) (A : Option Addr) (m c : Nat) (hs : a.eval s = v) (hx : a.eval x = .slice A m c) (hm : r.length = m)
    (HO : W.ownsRow base 5 1 v n (bcs l)) (HR : Rd W A r) (HB : Below base w0 W) (hbase : base ≤ W.heap.size) (hl : n + m ≤ 140737488355328)
    (h : ∀ v1 w1, w1.ownsRow base 5 1 v1 (n + m) (bcs (l ++ r)) → Below base w0 w1 → W.grownBy w1 v.ownBlock → (v1.ownBlock = v.ownBlock ∨ v1.ownBlock = some W.heap.size) → wpList Tryz.prog ops Q rest (a.put o.dst v1) w1) :
    wpList Tryz.prog ops Q (o :: rest) a W := by
  obtain ⟨v1, w1, hr, hown, hg, hat⟩ := run_app o.type base v n l r A m c hm HO HR hbase hl
  refine wpList_plain hgd fun K hK => ?_
  unfold Oper.wp execOp
  simp only [ho, resolve, invoke, builtin, Sem.run_bind, Sem.run_pure, Result.andThen_ok, List.map_toArray, List.map_cons, List.map_nil, hs, hx, hr]
  exact hK _ _ (h v1 w1 hown (HB.grown hg hbase (fun k hk => own_base HO k hk)) hg hat)
/-- The same as a step of a region that draws its order. -/
theorem step_app {E : Prop} {K : Act → World → Prop} {w0 W : World} (base : Nat) (hgd : o.guard = none) (s x : Operand)
    (ho : o.op = .call { callee := .builtin .append, args := #[s, x], argTypes := #[31, 31] })
    (v : Value) (n : Nat) (l r : Bs) (A : Option Addr) (m c : Nat) (hs : a.eval s = v) (hx : a.eval x = .slice A m c) (hm : r.length = m)
    (HO : W.ownsRow base 5 1 v n (bcs l)) (HR : Rd W A r) (HB : Below base w0 W) (hbase : base ≤ W.heap.size) (hl : n + m ≤ 140737488355328)
    (h : ∀ v1 w1, w1.ownsRow base 5 1 v1 (n + m) (bcs (l ++ r)) → Below base w0 w1 → W.grownBy w1 v.ownBlock → (v1.ownBlock = v.ownBlock ∨ v1.ownBlock = some W.heap.size) → K (a.put o.dst v1) w1) :
    if Region.wanted o (yielded ops a.tmps) = true then Oper.wp Tryz.prog o a W K Q else E := by
  have hw : Region.wanted o (yielded ops a.tmps) = true := by simp [Region.wanted, hgd]
  rw [if_pos hw]
  obtain ⟨v1, w1, hr, hown, hg, hat⟩ := run_app o.type base v n l r A m c hm HO HR hbase hl
  unfold Oper.wp execOp
  simp only [ho, resolve, invoke, builtin, Sem.run_bind, Sem.run_pure, Result.andThen_ok, List.map_toArray, List.map_cons, List.map_nil, hs, hx, hr]
  exact h v1 w1 hown (HB.grown hg hbase (fun k hk => own_base HO k hk)) hg hat
/-- append(v, y): the goal's world has the box of y. -/
theorem app_byte {w0 W : World} (base : Nat) (hgd : o.guard = none) (s x : Operand)
    (ho : o.op = .call { callee := .builtin .append, args := #[s, x], argTypes := #[31, 31] })
    (v : Value) (n : Nat) (l : Bs) (y : UInt8) (yi : Int) (hy : yi = (y.toNat : Int)) (hs : a.eval s = v) (hx : a.eval x = .slice (some ⟨W.heap.size, 0, none⟩) 1 1)
    (HO : W.ownsRow base 5 1 v n (bcs l)) (HB : Below base w0 W) (hbase : base ≤ W.heap.size) (hl : n + 1 ≤ 140737488355328)
    (h : ∀ v1 w1, w1.ownsRow base 5 1 v1 (n + 1) (bcs (l ++ [y])) → Below base w0 w1 → W.grownBy w1 v.ownBlock → wpList Tryz.prog ops Q rest (a.put o.dst v1) w1) :
    wpList Tryz.prog ops Q (o :: rest) a (W.alloc (.cells #[.int .u8 yi] 5)) := by
  subst hy
  refine app_all (w0 := w0) base hgd s x ho v n l [y] (some ⟨W.heap.size, 0, none⟩) 1 1 hs hx rfl (HO.alloc _) (fun _ => ⟨_, _, rfl, fun j z hz => ?_⟩) (HB.alloc hbase _) (by simp; omega) hl (fun v1 w1 h1 h2 h3 _ => h v1 w1 h1 h2 (World.grownBy.trans (World.grownBy_alloc W _ _) h3))
  have hj : j = 0 := by have := (List.getElem?_eq_some_iff.1 hz).1; simp at this; exact this
  subst hj
  simp at hz
  subst hz
  simp
end

end Go.Proofs.YtckgjbpgdpcnnaaGreatDoor
