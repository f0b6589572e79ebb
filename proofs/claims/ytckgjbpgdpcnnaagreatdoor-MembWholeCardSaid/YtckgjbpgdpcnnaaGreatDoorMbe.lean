/-
  THE CONTRACTS of package memb, on: Recs, ahead, Lay, Len.
-/
import Derived.Test.YtckgjbpgdpcnnaaGreatDoorMbd
namespace Go.Proofs.YtckgjbpgdpcnnaaGreatDoor
set_option linter.all false
set_option linter.unusedVariables false
set_option linter.unusedSimpArgs false
open Go.RowKit Pl
attribute [local go_sem] st_toList st_size

theorem RdV.of_own {w : World} {base size n : Nat} {e : TypeId} {v : Value} {xs : List Value} (h : w.ownsRow base e size v n xs) : ∃ A c, v = .slice A n c ∧ n ≤ c ∧ RdV w A xs := by
  rcases h.2 with ⟨rfl, h0⟩ | ⟨g, cap, cur, rfl, _, hh, hc, _⟩
  · have hx : xs = [] := List.eq_nil_of_length_eq_zero (by rw [h.1, h0]; simp)
    subst h0 hx
    exact ⟨none, 0, rfl, Nat.le_refl _, RdV.nil _ _⟩
  · exact ⟨_, cap, rfl, hc, fun _ => ⟨g, 0, rfl, fun j u hu => by
      have := h.cells (g := g) rfl j u hu
      have e2 : (⟨g, 0, none⟩ : Addr).add j = ⟨g, 0 + j, none⟩ := by unfold Addr.add; split <;> simp_all
      rw [← e2]; exact this⟩⟩
section
variable {ops : Array Oper} {rest : List Oper} {o : Oper} {a : Act} {Q : Exit → Act → World → Prop}
/-- append(v, x), x one element of several cells, which the walk has laid in a block of its own. -/
theorem app_one {w0 W : World} (base : Nat) (hgd : o.guard = none) (s x : Operand) (t e : TypeId) (i : TypeInfo) (z : Value) (size bytes : Nat)
    (ht : Tryz.prog.underlying t = some (.slice e)) (hi : Tryz.prog.info? e = some i) (hz : i.zero = some z) (hsize : i.size = size) (hby : i.bytes = bytes) (hzs : z.cells.size = size) (hsz : 0 < size)
    (ho : o.op = .call { callee := .builtin .append, args := #[s, x], argTypes := #[t, t] })
    (v : Value) (n : Nat) (xs cs : List Value) (hl : cs.length = size) (h1 : ∀ u ∈ cs, u.oneCell' = true) (hs : a.eval s = v) (hx : a.eval x = .slice (some ⟨W.heap.size, 0, none⟩) 1 1)
    (HO : W.ownsRow base e size v n xs) (HB : Below base w0 W) (hbase : base ≤ W.heap.size) (h63 : n + 1 ≤ maxLen) (hbytes : (n + 1) * bytes ≤ 140737488355328) (tt : TypeId)
    (h : ∀ v1 w1, w1.ownsRow base e size v1 (n + 1) (xs ++ cs) → Below base w0 w1 → wpList Tryz.prog ops Q rest (a.put o.dst v1) w1) :
    wpList Tryz.prog ops Q (o :: rest) a (W.alloc (.cells cs.toArray tt)) := by
  have hcell : ∀ j u, cs[j]? = some u → (W.alloc (.cells cs.toArray tt)).cell? ((⟨W.heap.size, 0, none⟩ : Addr).add j) = some u := by
    intro j u hu
    have e2 : (⟨W.heap.size, 0, none⟩ : Addr).add j = ⟨W.heap.size, 0 + j, none⟩ := by unfold Addr.add; split <;> simp_all
    rw [e2, Nat.zero_add]
    have h1 : (W.alloc (.cells cs.toArray tt)).heap[W.heap.size]? = some (.cells cs.toArray tt) := heap_alloc_new W _
    unfold World.cell?
    rw [h1]
    simp [hu]
  obtain ⟨v1, w1, hr, hown, hg, _, _⟩ := run_append_own_at (P := Tryz.prog) (W.alloc (.cells cs.toArray tt)) base t o.type e i z size bytes ht hi hz hsize hby hzs hsz v n xs (HO.alloc _) ⟨W.heap.size, 0, none⟩ 1 1 cs (by rw [hl]; simp) hcell h1 h63 hbytes (by simp; omega)
  refine wpList_plain hgd fun K hK => ?_
  unfold Oper.wp execOp
  simp only [ho, resolve, invoke, builtin, Sem.run_bind, Sem.run_pure, Result.andThen_ok, List.map_toArray, List.map_cons, List.map_nil, hs, hx, hr]
  exact hK _ _ (h v1 w1 hown ((HB.alloc hbase _).grown hg (by simp; omega) (fun k hk => own_base HO k hk)))
end
theorem info35 : (Tryz.prog.info? 35).map (fun i => (i.zero, i.size, i.bytes)) = some (some (.agg #[.string { data := #[] }, .string { data := #[] }]), 2, 32) := by kernel_rfl
theorem rcs_append (l : List Rec) (r : Rec) : rcs (l ++ [r]) = rcs l ++ rc1 r := by simp [rcs]
def rP (m : Member) : List Rec := if (split m.path).isNone then [⟨kPath, m.path⟩] else []
set_option maxRecDepth 100000 in
set_option maxHeartbeats 4000000 in
theorem memb_Recs (m : Member) (A : Option Addr) (c : Nat) (w : World) (ok : MbOk m) (hg : Glob w) : Calls Tryz.prog 22 #[mbV m A c] w fun e w' => ∃ v, e = .returned v ∧ w'.ownsRow w.heap.size 35 2 v (mRecs m).length (rcs (mRecs m)) ∧ Below w.heap.size w w' := by
  obtain ⟨i0, hi, hz0, hz1, hz2⟩ := info_parts info35
  have hF := fun W h => strf_Fits m.path W ok.path h
  have hR : mRecs m = (if (split m.path).isNone then [⟨kPath, m.path⟩] else []) ++ (if 100 < m.link.length then [⟨kLink, m.link⟩] else []) := rfl
  have hl := ok.link
  have hp := ok.path
  rw [hR]
  obtain ⟨p, k, ⟨a, b, g, t⟩, ln, d⟩ := m
  unfold mbV
  simp only [] at hF hl hp ⊢
  have HG := Lib.hid hg
  have hm := (Cel.new w #[.string (st p), .int .i64 k, .int .i64 a, .int .i64 b, .int .i64 g, .int .i64 t, .string (st ln), .slice A d.length c] 38)
  have HM := Lib.hid hm
  have hbA := ((Below.refl w.heap.size w).alloc (Nat.le_refl _) (.cells #[.string (st p), .int .i64 k, .int .i64 a, .int .i64 b, .int .i64 g, .int .i64 t, .string (st ln), .slice A d.length c] 38))
  have HBA := Lib.hid hbA
  clear hg hR ok hm hbA
  have T1 : True := trivial
  have T2 : True := trivial
  cases hs : split p with
  | none =>
    rw [hs] at hF
    have HF := Lib.hid hF
    clear hF hs
    rw [if_pos (by rfl : (none : Option (Bs × Bs)).isNone = true)]
    by_cases h1 : 100 < ln.length
    · rw [if_pos h1]
      have h2 : (100 : Int) < (ln.length : Int) := by omega
      clear h1
      go_enter Tryz.func22, Tryz.ntmps22
      go_wp2_with (first | (go_at_call 63; refine (HF.out _ (HG.out.below HBA.out)).mono ?_; rintro e w1 ⟨rfl, hb⟩; have HB : Hid (Below w.heap.size w w1) := Lib.hid (HBA.out.trans (hb.mono HBA.out.size)); have HM1 := Lib.hid (HM.out.below hb); have m0 := HM1.out.cell 0 _ rfl; have m6 := HM1.out.cell 6 _ rfl; have hs1 : w.heap.size < w1.heap.size := HM1.out.lt; have HBX := Lib.hid (Below.refl w1.heap.size w1); have HOX := Lib.hid (World.ownsRow_nil w1 w1.heap.size 35 2); clear hb) | (at_builtin; have hx := T1; clear hx; refine app_one (w0 := w1) w1.heap.size rfl (.tmp 8) (.tmp 12) _ _ i0 _ 2 32 Tryz.underlying32 hi hz0 hz1 hz2 rfl (by omega) rfl (.slice none 0 0) 0 [] [.string (st kPath), .string (st p)] rfl (by simp [Value.oneCell']) (by rfl) (by rfl) HOX.out HBX.out HBX.out.size (by unfold maxLen; omega) (by omega) _ ?_; intro v1 w2 ho hb; clear T1; have HO2 := Lib.hid ho; have HB2 := Lib.hid hb; have hcm := (HM1.out.below (hb.mono (Nat.le_refl _))); have m62 := hcm.cell 6 _ rfl; clear ho hb hcm) | (at_builtin; have hx := T2; clear hx; refine app_one (w0 := w1) w1.heap.size rfl (.tmp 18) (.tmp 22) _ _ i0 _ 2 32 Tryz.underlying32 hi hz0 hz1 hz2 rfl (by omega) rfl v1 (0 + 1) ([] ++ [.string (st kPath), .string (st p)]) [.string (st kLink), .string (st ln)] rfl (by simp [Value.oneCell']) (by rfl) (by rfl) HO2.out HB2.out HB2.out.size (by unfold maxLen; omega) (by omega) _ ?_; intro v2 w3 ho hb; clear T2; have HO3 := Lib.hid ho; have HB3 := Lib.hid hb; have hcm := (HM1.out.below (hb.mono (Nat.le_refl _))); have m63 := hcm.cell 6 _ rfl; clear ho hb hcm))
      go_ret
      exact ⟨_, rfl, own_more HO3.out (Nat.le_of_lt hs1), HB.out.trans (HB3.out.mono (Nat.le_of_lt hs1))⟩
    · rw [if_neg h1]
      have h2 : (ln.length : Int) ≤ 100 := by omega
      clear h1
      go_enter Tryz.func22, Tryz.ntmps22
      go_wp2_with (first | (go_at_call 63; refine (HF.out _ (HG.out.below HBA.out)).mono ?_; rintro e w1 ⟨rfl, hb⟩; have HB : Hid (Below w.heap.size w w1) := Lib.hid (HBA.out.trans (hb.mono HBA.out.size)); have HM1 := Lib.hid (HM.out.below hb); have m0 := HM1.out.cell 0 _ rfl; have m6 := HM1.out.cell 6 _ rfl; have hs1 : w.heap.size < w1.heap.size := HM1.out.lt; have HBX := Lib.hid (Below.refl w1.heap.size w1); have HOX := Lib.hid (World.ownsRow_nil w1 w1.heap.size 35 2); clear hb) | (at_builtin; have hx := T1; clear hx; refine app_one (w0 := w1) w1.heap.size rfl (.tmp 8) (.tmp 12) _ _ i0 _ 2 32 Tryz.underlying32 hi hz0 hz1 hz2 rfl (by omega) rfl (.slice none 0 0) 0 [] [.string (st kPath), .string (st p)] rfl (by simp [Value.oneCell']) (by rfl) (by rfl) HOX.out HBX.out HBX.out.size (by unfold maxLen; omega) (by omega) _ ?_; intro v1 w2 ho hb; clear T1; have HO2 := Lib.hid ho; have HB2 := Lib.hid hb; have hcm := (HM1.out.below (hb.mono (Nat.le_refl _))); have m62 := hcm.cell 6 _ rfl; clear ho hb hcm))
      go_ret
      exact ⟨_, rfl, own_more HO2.out (Nat.le_of_lt hs1), HB.out.trans (HB2.out.mono (Nat.le_of_lt hs1))⟩
  | some pn =>
    rw [hs] at hF
    have HF := Lib.hid hF
    clear hF hs
    rw [if_neg (by simp)]
    by_cases h1 : 100 < ln.length
    · rw [if_pos h1]
      have h2 : (100 : Int) < (ln.length : Int) := by omega
      clear h1
      go_enter Tryz.func22, Tryz.ntmps22
      go_wp2_with (first | (go_at_call 63; refine (HF.out _ (HG.out.below HBA.out)).mono ?_; rintro e w1 ⟨rfl, hb⟩; have HB : Hid (Below w.heap.size w w1) := Lib.hid (HBA.out.trans (hb.mono HBA.out.size)); have HM1 := Lib.hid (HM.out.below hb); have m0 := HM1.out.cell 0 _ rfl; have m6 := HM1.out.cell 6 _ rfl; have hs1 : w.heap.size < w1.heap.size := HM1.out.lt; have HBX := Lib.hid (Below.refl w1.heap.size w1); have HOX := Lib.hid (World.ownsRow_nil w1 w1.heap.size 35 2); clear hb) | (at_builtin; have hx := T2; clear hx; refine app_one (w0 := w1) w1.heap.size rfl (.tmp 18) (.tmp 22) _ _ i0 _ 2 32 Tryz.underlying32 hi hz0 hz1 hz2 rfl (by omega) rfl (.slice none 0 0) 0 [] [.string (st kLink), .string (st ln)] rfl (by simp [Value.oneCell']) (by rfl) (by rfl) HOX.out HBX.out HBX.out.size (by unfold maxLen; omega) (by omega) _ ?_; intro v2 w3 ho hb; clear T2; have HO3 := Lib.hid ho; have HB3 := Lib.hid hb; have hcm := (HM1.out.below (hb.mono (Nat.le_refl _))); have m63 := hcm.cell 6 _ rfl; clear ho hb hcm))
      go_ret
      exact ⟨_, rfl, own_more HO3.out (Nat.le_of_lt hs1), HB.out.trans (HB3.out.mono (Nat.le_of_lt hs1))⟩
    · rw [if_neg h1]
      have h2 : (ln.length : Int) ≤ 100 := by omega
      clear h1
      go_enter Tryz.func22, Tryz.ntmps22
      go_wp2_with (go_at_call 63; refine (HF.out _ (HG.out.below HBA.out)).mono ?_; rintro e w1 ⟨rfl, hb⟩; have HB : Hid (Below w.heap.size w w1) := Lib.hid (HBA.out.trans (hb.mono HBA.out.size)); have HM1 := Lib.hid (HM.out.below hb); have m0 := HM1.out.cell 0 _ rfl; have m6 := HM1.out.cell 6 _ rfl; have hs1 : w.heap.size < w1.heap.size := HM1.out.lt; have HBX := Lib.hid (Below.refl w1.heap.size w1); have HOX := Lib.hid (World.ownsRow_nil w1 w1.heap.size 35 2); clear hb)
      go_ret
      exact ⟨_, rfl, own_more HOX.out (Nat.le_of_lt hs1), HB.out.trans (HBX.out.mono (Nat.le_of_lt hs1))⟩
end Go.Proofs.YtckgjbpgdpcnnaaGreatDoor
