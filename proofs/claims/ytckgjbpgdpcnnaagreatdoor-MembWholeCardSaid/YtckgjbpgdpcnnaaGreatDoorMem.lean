/-
  MORE WORDS OF MEMORY: a block of bytes that is known whole; copy into it.
-/
import Derived.Test.YtckgjbpgdpcnnaaGreatDoorLibs
import Derived.Laws.CopyOwn
import Derived.Lib.BufferWrite
import Derived.Lib.SlBytesConst
namespace Go.Proofs.YtckgjbpgdpcnnaaGreatDoor
set_option linter.all false
set_option linter.unusedVariables false
set_option linter.unusedSimpArgs false
open Go.RowKit Pl

/-- Block g is just the bytes l. -/
def Blk (w : World) (g : Nat) (l : Bs) : Prop := w.heap[g]? = some (.cells (bcs l).toArray 5 (0, 0))
theorem Blk.new (w : World) (n : Nat) : Blk (w.alloc (.cells (madeCells #[.int .u8 0] n) 5)) w.heap.size (noughts n) := by
  have hl : (madeCells #[Value.int .u8 0] n) = (bcs (noughts n)).toArray := by
    apply Array.toList_inj.1
    apply List.ext_getElem
    · simp [bcs, madeCells, noughts]
    · intro i h1 h2
      simp [bcs, madeCells, noughts, Nat.mod_one]
  unfold Blk
  rw [hl]
  exact heap_alloc_new w _
theorem Blk.lt {w : World} {g : Nat} {l : Bs} (h : Blk w g l) : g < w.heap.size := (Array.getElem?_eq_some_iff.1 h).1
theorem Blk.below {w w1 : World} {g : Nat} {l : Bs} (h : Blk w g l) (hb : Below w.heap.size w w1) : Blk w1 g l := (hb.block g h.lt).trans h
theorem Blk.cell {w : World} {g : Nat} {l : Bs} (h : Blk w g l) {i : Nat} (hi : i < l.length) : w.cell? ⟨g, i, none⟩ = some (.int .u8 ((l.getD i 0).toNat : Int)) := by
  unfold Blk at h
  simp [World.cell?, h, bcs, List.getElem?_eq_getElem hi, List.getD]
theorem Blk.frozen {w : World} {g : Nat} {l : Bs} (h : Blk w g l) (i : Nat) : w.frozen? ⟨g, i, none⟩ = false := by
  unfold Blk at h
  simp [World.frozen?, h]
theorem Blk.put {w : World} {g : Nat} {l : Bs} (h : Blk w g l) (i : Nat) (x : UInt8) : Blk (w.setCell ⟨g, i, none⟩ (.int .u8 (x.toNat : Int))) g (l.set i x) := by
  unfold Blk at h ⊢
  simp [World.setCell, Array.getElem?_modify, h, bcs, List.map_set]
theorem Blk.own {w : World} {g base n : Nat} {l : Bs} (h : Blk w g l) (hl : l.length = n) (hb : base ≤ g) (hn : n ≤ 140737488355328) : w.ownsRow base 5 1 (.slice (some ⟨g, 0, none⟩) n n) n (bcs l) :=
  ⟨by simp [bcs, hl], .inr ⟨g, n, (bcs l).toArray, rfl, hb, h, Nat.le_refl _, by unfold maxLen; omega, by simp [bcs, hl], by rw [List.take_of_length_le (by simp [bcs, hl])]⟩⟩
theorem Blk.rd {w : World} {g : Nat} {l : Bs} (h : Blk w g l) : Rd w (some ⟨g, 0, none⟩) l := fun _ => ⟨g, 0, rfl, fun j x hx => by
  have hj := (List.getElem?_eq_some_iff.1 hx).1
  have := h.cell hj
  rw [Nat.zero_add, this]
  simp [List.getD, hx]⟩
theorem bcs_splice (l : Bs) (o : Nat) (r : Bs) : splice (bcs l) o (bcs r) = bcs (splice l o r) := by simp [splice, bcs]
theorem bcs_one (r : Bs) : ∀ v ∈ bcs r, v.oneCell' = true := by
  intro v hv
  simp only [bcs, List.mem_map] at hv
  obtain ⟨q, _, rfl⟩ := hv
  rfl
theorem size5 : (Tryz.prog.info? 5).map (·.size) = some 1 := by kernel_rfl

section
variable {ops : Array Oper} {rest : List Oper} {o : Oper} {a : Act} {Q : Exit → Act → World → Prop} {w : World}
/-- copy(d, s): d lies in block g from off on; s is read. -/
theorem cp_slice (hgd : o.guard = none) (d s : Operand)
    (ho : o.op = .call { callee := .builtin .copy, args := #[d, s], argTypes := #[31, 31] })
    (dp sp : Option Addr) (dLen dCap sLen sCap : Nat) (hd : a.eval d = .slice dp dLen dCap) (hs : a.eval s = .slice sp sLen sCap)
    (g off : Nat) (l r : Bs) (hB : Blk w g l) (hR : Rd w sp r) (hr : r.length = sLen) (hle : sLen ≤ dLen) (hdp : 0 < sLen → dp = some ⟨g, off, none⟩) (hfit : off + sLen ≤ l.length)
    (B : Nat) (w0 : World) (hb : Below B w0 w) (hBg : B ≤ g)
    (h : ∀ w', Blk w' g (splice l off r) → Below B w0 w' → wpList Tryz.prog ops Q rest (a.put o.dst (goInt sLen)) w') : wpList Tryz.prog ops Q (o :: rest) a w := by
  have hlen : (bcs r).length = sLen := by rw [bcs_length, hr]
  refine wpList_copy_splice hgd d s 31 31 ho 5 Tryz.underlying31 size5 dp sp dLen dCap sLen sCap hd hs g off (bcs l) 5 hB (bcs r) (by rw [hlen]; exact (Nat.min_eq_left hle).symm) (fun h0 => ⟨hdp (by omega), ?_⟩) (by rw [hlen, bcs_length]; exact hfit) (bcs_one r) B w0 hb hBg ?_
  · obtain ⟨b, p, rfl, hc⟩ := hR (by omega)
    refine ⟨_, rfl, fun j v hv => ?_⟩
    rw [bcs_get] at hv
    obtain ⟨x, hx, rfl⟩ := Option.map_eq_some_iff.1 hv
    have ha : (⟨b, p, none⟩ : Addr).add j = ⟨b, p + j, none⟩ := by unfold Addr.add; split <;> simp_all
    rw [ha]
    exact hc j x hx
  · intro w' hw hb'
    rw [hlen]
    exact h w' (by have := hw.out; rw [bcs_splice] at this; exact this) hb'
set_option maxRecDepth 100000 in
/-- copy(d, s), s a string that fits. -/
theorem cp_string (hgd : o.guard = none) (d s : Operand)
    (ho : o.op = .call { callee := .builtin .copy, args := #[d, s], argTypes := #[31, 9] })
    (g off dLen dCap : Nat) (t : ByteArray) (hd : a.eval d = .slice (some ⟨g, off, none⟩) dLen dCap) (hs : a.eval s = .string t)
    (l : Bs) (hB : Blk w g l) (hle : t.size ≤ dLen) (hfit : off + t.size ≤ l.length)
    (B : Nat) (w0 : World) (hb : Below B w0 w) (hBg : B ≤ g)
    (h : ∀ w', Blk w' g (splice l off t.data.toList) → Below B w0 w' → wpList Tryz.prog ops Q rest (a.put o.dst (goInt t.size)) w') : wpList Tryz.prog ops Q (o :: rest) a w := by
  have hrun := Lib.run_copy_row_string (P := Tryz.prog) w 31 9 o.type 5 g off dLen dCap t (bcs l).toArray 5 Tryz.underlying31 size5 hB hle (by simp [bcs]; exact hfit)
  refine wpList_plain hgd fun K hK => ?_
  unfold Oper.wp execOp
  simp only [ho, resolve, invoke, builtin, Sem.run_bind, Sem.run_pure, Result.andThen_ok, List.map_toArray, List.map_cons, List.map_nil, hd, hs, hrun]
  refine hK _ _ (h _ ?_ (below_setRow hb hBg _))
  have h2 := setRow_heap w g _ ((bcs l).toArray.toList.take off ++ Lib.byteCells t.data.toList ++ (bcs l).toArray.toList.drop (off + t.size)).toArray _ (0, 0) hB
  unfold Blk
  rw [h2]
  have hsz : t.data.toList.length = t.size := by simp
  simp only [splice, hsz, bcs_append, byteCells_eq]
  simp [bcs, List.map_take, List.map_drop]
set_option maxRecDepth 100000 in
/-- copy(d, s), s a string that fits; what else lies stays. -/
theorem cp_string2 (hgd : o.guard = none) (d s : Operand)
    (ho : o.op = .call { callee := .builtin .copy, args := #[d, s], argTypes := #[31, 9] })
    (g off dLen dCap : Nat) (t : ByteArray) (hd : a.eval d = .slice (some ⟨g, off, none⟩) dLen dCap) (hs : a.eval s = .string t)
    (l : Bs) (hB : Blk w g l) (hle : t.size ≤ dLen) (hfit : off + t.size ≤ l.length)
    (B : Nat) (w0 : World) (hb : Below B w0 w) (hBg : B ≤ g)
    (h : ∀ w', Blk w' g (splice l off t.data.toList) → Below B w0 w' → (∀ k, k ≠ g → w'.heap[k]? = w.heap[k]?) → wpList Tryz.prog ops Q rest (a.put o.dst (goInt t.size)) w') : wpList Tryz.prog ops Q (o :: rest) a w := by
  have hrun := Lib.run_copy_row_string (P := Tryz.prog) w 31 9 o.type 5 g off dLen dCap t (bcs l).toArray 5 Tryz.underlying31 size5 hB hle (by simp [bcs]; exact hfit)
  refine wpList_plain hgd fun K hK => ?_
  unfold Oper.wp execOp
  simp only [ho, resolve, invoke, builtin, Sem.run_bind, Sem.run_pure, Result.andThen_ok, List.map_toArray, List.map_cons, List.map_nil, hd, hs, hrun]
  refine hK _ _ (h _ ?_ (below_setRow hb hBg _) (fun k hk => setRow_other w g k _ hk))
  have h2 := setRow_heap w g _ ((bcs l).toArray.toList.take off ++ Lib.byteCells t.data.toList ++ (bcs l).toArray.toList.drop (off + t.size)).toArray _ (0, 0) hB
  unfold Blk
  rw [h2]
  have hsz : t.data.toList.length = t.size := by simp
  simp only [splice, hsz, bcs_append, byteCells_eq]
  simp [bcs, List.map_take, List.map_drop]
end


/-! ### copy into a row of the call's own -/
theorem take_splice (L : List Value) (n off : Nat) (cs : List Value) (h : off + cs.length ≤ n) (hL : n ≤ L.length) : (splice L off cs).take n = splice (L.take n) off cs := by
  have e := List.take_append_drop n L
  have hx : (L.take n).length = n := by rw [List.length_take]; omega
  obtain ⟨X, hX⟩ : ∃ X, L.take n = X := ⟨_, rfl⟩
  obtain ⟨Y, hY⟩ : ∃ Y, L.drop n = Y := ⟨_, rfl⟩
  rw [hX] at e hx
  rw [hY] at e
  rw [hX, ← e]
  have h2 : splice (X ++ Y) off cs = splice X off cs ++ Y := by
    unfold splice
    rw [List.take_append_of_le_length (by omega), List.drop_append_of_le_length (by omega)]
    simp
  have h3 : (splice X off cs).length = n := by rw [length_splice _ _ _ (by omega)]; exact hx
  rw [h2, ← h3]
  exact List.take_left
theorem run_cp_own {w : World} (ty : TypeId) (dp sp : Option Addr) (dLen dCap sLen sCap : Nat) (base g n cap off : Nat) (l r : Bs)
    (HO : w.ownsRow base 5 1 (.slice (some ⟨g, 0, none⟩) n cap) n (bcs l)) (hR : Rd w sp r) (hr : r.length = sLen) (hle : sLen ≤ dLen) (hdp : 0 < sLen → dp = some ⟨g, off, none⟩) (hfit : off + sLen ≤ n) :
    ∃ w', (Builtin.copy_ #[31, 31] ty #[.slice dp dLen dCap, .slice sp sLen sCap]).run Tryz.prog w = .ok (goInt sLen) w' ∧ w'.ownsRow base 5 1 (.slice (some ⟨g, 0, none⟩) n cap) n (bcs (splice l off r)) ∧ w.grownBy w' (some g) := by
  rcases HO.2 with ⟨h', _⟩ | ⟨g', cap', cur, h', hb, hh, hnc, hcm, hcs, htk⟩
  · cases h'
  · simp only [Value.slice.injEq, Option.some.injEq, Addr.mk.injEq, and_true, true_and] at h'
    obtain ⟨rfl, rfl⟩ := h'
    have hlen : (bcs r).length = sLen := by rw [bcs_length, hr]
    rcases Nat.eq_zero_or_pos sLen with h0 | h0
    · subst h0
      obtain rfl : r = [] := List.eq_nil_of_length_eq_zero hr
      exact ⟨w, run_copy_none (P := Tryz.prog) w 31 31 ty 5 dp sp dLen dCap 0 sCap Tryz.underlying31 size5 (by simp), by simpa [splice] using HO, World.grownBy.refl _ _⟩
    · obtain rfl := hdp h0
      obtain ⟨b, p, rfl, hc⟩ := hR (by omega)
      have hsrc : ∀ j v, (bcs r)[j]? = some v → w.cell? ((⟨b, p, none⟩ : Addr).add j) = some v := by
        intro j v hv
        rw [bcs_get] at hv
        obtain ⟨x, hx, rfl⟩ := Option.map_eq_some_iff.1 hv
        have ha : (⟨b, p, none⟩ : Addr).add j = ⟨b, p + j, none⟩ := by unfold Addr.add; split <;> simp_all
        rw [ha]
        exact hc j x hx
      have hrun := run_copy_row (P := Tryz.prog) w 31 31 ty 5 g off dLen dCap ⟨b, p, none⟩ sLen sCap cur 5 (bcs r) Tryz.underlying31 size5 hh (by rw [hlen]; exact (Nat.min_eq_left hle).symm) hsrc (by rw [hlen, hcs]; omega) (bcs_one r)
      rw [hlen] at hrun
      have hh2 := setRow_heap w g _ (cur.toList.take off ++ bcs r ++ cur.toList.drop (off + sLen)).toArray _ (0, 0) hh
      refine ⟨_, hrun, ⟨?_, .inr ⟨g, cap, _, rfl, hb, hh2, hnc, hcm, ?_, ?_⟩⟩, ⟨rfl, rfl, rfl, by simp [World.setRow], fun k _ hk => setRow_other w g k _ (by intro e; exact hk (by rw [e]))⟩⟩
      · rw [bcs_length, length_splice _ _ _ (by have := HO.1; rw [bcs_length] at this; omega)]
        have := HO.1
        rw [bcs_length] at this
        exact this
      · simp [hcs, hlen]
        omega
      · have e : (cur.toList.take off ++ bcs r ++ cur.toList.drop (off + sLen)) = splice cur.toList off (bcs r) := by simp [splice, hlen]
        rw [List.toList_toArray, e, Nat.mul_one, take_splice _ _ _ _ (by rw [hlen]; exact hfit) (by rw [Array.length_toList, hcs]; omega), ← bcs_splice]
        rw [Nat.mul_one] at htk
        rw [htk]
theorem Blk.of_own {w : World} {base g n : Nat} {l : Bs} (h : w.ownsRow base 5 1 (.slice (some ⟨g, 0, none⟩) n n) n (bcs l)) : Blk w g l := by
  rcases h.2 with ⟨h', _⟩ | ⟨g', cap', cur, h', hb, hh, hnc, hcm, hcs, htk⟩
  · cases h'
  · simp only [Value.slice.injEq, Option.some.injEq, Addr.mk.injEq, and_true, true_and] at h'
    obtain ⟨rfl, rfl⟩ := h'
    unfold Blk
    rw [hh, ← htk, List.take_of_length_le (by rw [Array.length_toList, hcs]; omega)]
theorem own_set_other {w : World} {base : Nat} {e : TypeId} {size n : Nat} {v : Value} {xs : List Value} (h : w.ownsRow base e size v n xs) {p : Addr} (hp : p.block < base) (u : Value) : (w.setCell p u).ownsRow base e size v n xs := by
  refine ⟨h.1, ?_⟩
  rcases h.2 with h | ⟨g, cap, cur, h1, h2, hh, h3⟩
  · exact .inl h
  · refine .inr ⟨g, cap, cur, h1, h2, ?_, h3⟩
    simp only [World.setCell, Array.getElem?_modify]
    rw [if_neg (by omega)]
    exact hh
section
variable {ops : Array Oper} {rest : List Oper} {o : Oper} {a : Act} {Q : Exit → Act → World → Prop} {w : World}
/-- copy(v[off:], s) into a row of the call's own. -/
theorem cp_own (hgd : o.guard = none) (d s : Operand)
    (ho : o.op = .call { callee := .builtin .copy, args := #[d, s], argTypes := #[31, 31] })
    (dp sp : Option Addr) (dLen dCap sLen sCap : Nat) (hd : a.eval d = .slice dp dLen dCap) (hs : a.eval s = .slice sp sLen sCap)
    (base g n cap off : Nat) (l r : Bs) (HO : w.ownsRow base 5 1 (.slice (some ⟨g, 0, none⟩) n cap) n (bcs l)) (hR : Rd w sp r) (hr : r.length = sLen) (hle : sLen ≤ dLen) (hdp : 0 < sLen → dp = some ⟨g, off, none⟩) (hfit : off + sLen ≤ n)
    (h : ∀ w', w'.ownsRow base 5 1 (.slice (some ⟨g, 0, none⟩) n cap) n (bcs (splice l off r)) → w.grownBy w' (some g) → wpList Tryz.prog ops Q rest (a.put o.dst (goInt sLen)) w') : wpList Tryz.prog ops Q (o :: rest) a w := by
  obtain ⟨w', hrun, h1, h2⟩ := run_cp_own o.type dp sp dLen dCap sLen sCap base g n cap off l r HO hR hr hle hdp hfit
  refine wpList_plain hgd fun K hK => ?_
  unfold Oper.wp execOp
  simp only [ho, resolve, invoke, builtin, Sem.run_bind, Sem.run_pure, Result.andThen_ok, List.map_toArray, List.map_cons, List.map_nil, hd, hs, hrun]
  exact hK _ _ (h w' h1 h2)
/-- copy(v[off:], s) as a step of a region that draws its order. -/
theorem step_cp_own {E : Prop} {K : Act → World → Prop} (hgd : o.guard = none) (d s : Operand)
    (ho : o.op = .call { callee := .builtin .copy, args := #[d, s], argTypes := #[31, 31] })
    (dp sp : Option Addr) (dLen dCap sLen sCap : Nat) (hd : a.eval d = .slice dp dLen dCap) (hs : a.eval s = .slice sp sLen sCap)
    (base g n cap off : Nat) (l r : Bs) (HO : w.ownsRow base 5 1 (.slice (some ⟨g, 0, none⟩) n cap) n (bcs l)) (hR : Rd w sp r) (hr : r.length = sLen) (hle : sLen ≤ dLen) (hdp : 0 < sLen → dp = some ⟨g, off, none⟩) (hfit : off + sLen ≤ n)
    (h : ∀ w', w'.ownsRow base 5 1 (.slice (some ⟨g, 0, none⟩) n cap) n (bcs (splice l off r)) → w.grownBy w' (some g) → K (a.put o.dst (goInt sLen)) w') :
    if Region.wanted o (yielded ops a.tmps) = true then Oper.wp Tryz.prog o a w K Q else E := by
  have hw : Region.wanted o (yielded ops a.tmps) = true := by simp [Region.wanted, hgd]
  rw [if_pos hw]
  obtain ⟨w', hrun, h1, h2⟩ := run_cp_own o.type dp sp dLen dCap sLen sCap base g n cap off l r HO hR hr hle hdp hfit
  unfold Oper.wp execOp
  simp only [ho, resolve, invoke, builtin, Sem.run_bind, Sem.run_pure, Result.andThen_ok, List.map_toArray, List.map_cons, List.map_nil, hd, hs, hrun]
  exact h w' h1 h2
end

theorem own_form {w : World} {base : Nat} {v : Value} {n : Nat} {xs : List Value} (h : w.ownsRow base 5 1 v n xs) (hn : 0 < n) :
    ∃ g cap, v = .slice (some ⟨g, 0, none⟩) n cap ∧ base ≤ g ∧ g < w.heap.size ∧ n ≤ cap ∧ cap ≤ maxLen := by
  rcases h.2 with ⟨_, h0⟩ | ⟨g, cap, cur, rfl, hb, hh, hnc, hcm, _⟩
  · omega
  · exact ⟨g, cap, rfl, hb, (Array.getElem?_eq_some_iff.1 hh).1, hnc, hcm⟩
theorem own_below {w w1 : World} {base : Nat} {e : TypeId} {size n : Nat} {v : Value} {xs : List Value} (h : w.ownsRow base e size v n xs) (hb : Below w.heap.size w w1) : w1.ownsRow base e size v n xs := by
  refine ⟨h.1, ?_⟩
  rcases h.2 with h | ⟨g, cap, cur, h1, h2, hh, h3⟩
  · exact .inl h
  · exact .inr ⟨g, cap, cur, h1, h2, (hb.block g (Array.getElem?_eq_some_iff.1 hh).1).trans hh, h3⟩
/-- 's[m:]' of a slice in a known block. -/
theorem cut_blk (kl : IntKind) (g o n c m : Nat) (hm : m ≤ n) (hc : m < c) (W : World) :
    (Instr.slice 31 (.slice (some ⟨g, o, none⟩) n c) (some (.int kl (m : Int))) none none).run Tryz.prog W = .ok (.slice (some ⟨g, o + m, none⟩) (n - m) (c - m)) W := by
  obtain ⟨i, hi, hz0, hz1, hz2⟩ := info_parts info5
  have ha : (⟨g, o, none⟩ : Addr).add m = ⟨g, o + m, none⟩ := by unfold Addr.add; split <;> simp_all
  rw [run_slice_l W 31 _ n c slice_elem kl (m : Int) (Int.natCast_nonneg _) (by omega), elem_bytes]
  simp [sizeOf, typeInfo, hi, hz1, sliced, Result.andThen, ha, Nat.ne_of_gt hc]

/-- '[]byte("c")' of one constant byte: laid ahead of a walk. -/
theorem kc_bytes (w : World) (C : Array Value) (n c : Nat) : (convert 31 31 (.slice (some ⟨w.heap.size, 0, none⟩) n c)).run Tryz.prog (w.alloc (.cells C 5)) = .ok (.slice (some ⟨w.heap.size, 0, none⟩) n c) (w.alloc (.cells C 5 (C.size, C.size + 1))) :=
  Lib.run_convert_bytes_const (P := Tryz.prog) w 31 5 C n c Tryz.underlying31 Tryz.underlying5
theorem strOf_ints (l : Bs) : strOfNums (ints l) = ⟨l.toArray⟩ := by
  apply ByteArray.ext
  apply Array.toList_inj.1
  have := strOfNums_data (ints l)
  rw [this]
  simp [ints, Function.comp_def]
/-- string(b) of what is read. -/
theorem str_of (A : Option Addr) (n c : Nat) (l : Bs) (w : World) (hl : l.length = n) (h : Rd w A l) : (convert 31 9 (.slice A n c)).run Tryz.prog w = .ok (.string ⟨l.toArray⟩) w := by
  have h2 := (h.bytesIn hl).convert (P := Tryz.prog) (by rw [ints_length]; exact hl) c 31 5 9 Tryz.underlying31 Tryz.underlying5 Tryz.underlying9
  rw [h2, strOf_ints]
end Go.Proofs.YtckgjbpgdpcnnaaGreatDoor
