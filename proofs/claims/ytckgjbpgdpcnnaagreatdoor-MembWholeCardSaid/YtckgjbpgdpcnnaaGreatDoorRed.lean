/-
  THE CONTRACTS of package recs, on: One.
-/
import Derived.Test.YtckgjbpgdpcnnaaGreatDoorRec
import Derived.Lib.AppendStr
import Derived.Deep.RegionWith
namespace Go.Proofs.YtckgjbpgdpcnnaaGreatDoor
set_option linter.all false
set_option linter.unusedVariables false
set_option linter.unusedSimpArgs false
open Go.RowKit Pl
attribute [local go_sem] st_toList st_size

theorem own_later {w w' : World} {base : Nat} {e : TypeId} {size n : Nat} {v : Value} {xs : List Value} (h : w.ownsRow base e size v n xs) (hb : Below w.heap.size w w') : w'.ownsRow base e size v n xs := by
  refine ⟨h.1, ?_⟩
  rcases h.2 with h2 | ⟨g, cap, cur, e1, e2, e3, e4⟩
  · exact .inl h2
  · exact .inr ⟨g, cap, cur, e1, e2, (hb.block _ (Array.getElem?_eq_some_iff.1 e3).1).trans e3, e4⟩
theorem lib_AppendInt (n : Nat) (w : World) (hn : (n : Int) ≤ 9223372036854775807) (hg : Glob w) : Calls Tryz.prog 154 #[.slice none 0 0, .int .i64 (n : Int), .int .i64 10] w fun e w' => ∃ v, e = .returned v ∧ w'.ownsRow w.heap.size 5 1 v (Lib.decDigits n).length (bcs (Lib.decDigits n)) ∧ Below w.heap.size w w' :=
  (Tryz.strconv_AppendInt_10 w.heap.size 0 (n : Int) (by omega) hn (.slice none 0 0) [] w (World.ownsRow_nil _ _ _ _) (Nat.le_refl _) (by omega) (fun w' hb => (hg.below hb).tab)).mono fun e w' ⟨v, h1, h2, h3, _⟩ => ⟨v, h1, by rw [itoa_nat, Nat.zero_add, List.nil_append] at h2; exact h2, h3⟩
theorem strCells_bcs (l : Bs) : Lib.strCells (st l) = bcs l := rfl
theorem run_app_str {W : World} (ty : TypeId) (base : Nat) (v : Value) (n : Nat) (l r : Bs) (HO : W.ownsRow base 5 1 v n (bcs l)) (hbase : base ≤ W.heap.size) (hl : n + r.length ≤ 140737488355328) :
    ∃ v1 w1, (Builtin.append_ #[31, 9] ty #[v, .string (st r)]).run Tryz.prog W = .ok v1 w1 ∧ w1.ownsRow base 5 1 v1 (n + r.length) (bcs (l ++ r)) ∧ W.grownBy w1 v.ownBlock := by
  obtain ⟨i0, hi, hz0, hz1, hz2⟩ := info_parts info5
  obtain ⟨v', w', h1, h2, h3, _⟩ := Lib.run_append_own_string (P := Tryz.prog) W base 31 9 ty 5 i0 Tryz.underlying31 Tryz.underlying9 hi hz0 hz1 hz2 v n (bcs l) HO (st r) (by rw [st_size]; unfold maxLen; omega) (by rw [st_size]; exact hl) hbase
  rw [st_size, strCells_bcs, ← bcs_append] at h2
  exact ⟨v', w', h1, h2, h3⟩
section
variable {ops : Array Oper} {rest : List Oper} {o : Oper} {a : Act} {Q : Exit → Act → World → Prop}
/-- append(v, s...), s a string, as a step of a region that draws its order. -/
theorem step_app_str {E : Prop} {K : Act → World → Prop} {w0 W : World} (base : Nat) (hgd : o.guard = none) (s x : Operand)
    (ho : o.op = .call { callee := .builtin .append, args := #[s, x], argTypes := #[31, 9] })
    (v : Value) (n : Nat) (l r : Bs) (hs : a.eval s = v) (hx : a.eval x = .string (st r))
    (HO : W.ownsRow base 5 1 v n (bcs l)) (HB : Below base w0 W) (hbase : base ≤ W.heap.size) (hl : n + r.length ≤ 140737488355328)
    (h : ∀ v1 w1, w1.ownsRow base 5 1 v1 (n + r.length) (bcs (l ++ r)) → Below base w0 w1 → K (a.put o.dst v1) w1) :
    if Region.wanted o (yielded ops a.tmps) = true then Oper.wp Tryz.prog o a W K Q else E := by
  have hw : Region.wanted o (yielded ops a.tmps) = true := by simp [Region.wanted, hgd]
  rw [if_pos hw]
  obtain ⟨v1, w1, hr, hown, hg⟩ := run_app_str o.type base v n l r HO hbase hl
  unfold Oper.wp execOp
  simp only [ho, resolve, invoke, builtin, Sem.run_bind, Sem.run_pure, Result.andThen_ok, List.map_toArray, List.map_cons, List.map_nil, hs, hx, hr]
  exact h v1 w1 hown (HB.grown hg hbase (fun k hk => own_base HO k hk))
end
set_option maxRecDepth 100000 in
set_option maxHeartbeats 4000000 in
theorem recs_One (r : Rec) (w : World) (hk : r.key.length < 4294967281) (hv : r.val.length < 4294967281) (hg : Glob w) : Calls Tryz.prog 123 #[rcV r] w fun e w' => ∃ v, e = .returned (.tuple #[v, .int .i64 (rOne r).2]) ∧ w'.ownsRow w.heap.size 5 1 v (rOne r).1.length (bcs (rOne r).1) ∧ Below w.heap.size w w' := by
  have hM := fun W => recs_May r W hk hv
  have hT := fun W => recs_text r W hk hv
  have hL := fun W h => recs_Len r W hk hv h
  by_cases h0 : rMay r = 0
  · have hr : rOne r = (Lib.decDigits (rLen r) ++ rText r, 0) := by unfold rOne; rw [if_neg (by rw [h0]; simp), itoa_nat]
    rw [hr]
    rw [h0] at hM
    obtain ⟨a1, a2, a3, a4⟩ := rMay_zero r h0
    have hn := (rOne_eq r h0).2.2
    have hs := selfLen_eq (rText r).length (rText_ge r) (by rw [rText_len]; omega)
    have htl := rText_len r
    obtain ⟨T, hTT⟩ : ∃ T, rText r = T := ⟨_, rfl⟩
    obtain ⟨n, hnn⟩ : ∃ n, rLen r = n := ⟨_, rfl⟩
    have hn2 : n ≤ 10000 := by
      rw [← hnn, hn]
      unfold selfLen
      split
      · omega
      · split
        · omega
        · split <;> omega
    have htl2 : T.length ≤ 5000 := by rw [← hTT]; omega
    have hdl : (Lib.decDigits n).length ≤ 10000 := by
      rw [Lib.decDigits_length]
      have := Lib.nDigits_pos n
      have := nd_low
      rcases Nat.eq_zero_or_pos n with h | h
      · subst h; rw [Lib.nDigits_small (by omega)]; omega
      · have h1 := nd_low n h
        apply Nat.le_of_not_lt
        intro h2
        have : 10 ^ 5 ≤ 10 ^ (Lib.nDigits n - 1) := Nat.pow_le_pow_right (by omega) (by omega)
        have h7 : (10 : Nat) ^ 5 = 100000 := rfl
        omega
    have hA := fun W h => lib_AppendInt n W (by omega) h
    rw [hTT] at hT ⊢
    rw [hnn] at hL ⊢
    obtain ⟨D, hD⟩ : ∃ D, Lib.decDigits n = D := ⟨_, rfl⟩
    rw [hD] at hA hdl ⊢
    obtain ⟨k, v⟩ := r
    unfold rcV at hM hT hL ⊢
    simp only [] at hM hT hL ⊢
    have HM := Lib.hid hM
    have HT := Lib.hid hT
    have HL := Lib.hid hL
    have HA := Lib.hid hA
    have HG := Lib.hid hg
    have hlen : (D ++ T).length = D.length + T.length := List.length_append
    rw [hlen]
    clear hM hT hL hA h0 a1 a2 a3 a4 hn hs htl hTT hnn hD hr hg hk hv hlen
    go_enter Tryz.func123, Tryz.ntmps123
    go_wp2_with (go_at_call 153; refine (HM.out _).mono ?_; rintro e w1 ⟨rfl, hb⟩; have HB : Hid (Below w.heap.size w w1) := Lib.hid (((Below.refl _ w).alloc (Nat.le_refl _) _).trans (hb.mono (by simp))); obtain ⟨hc1, hf1⟩ := bcell hb; rw [World.size_alloc] at hc1 hf1; have hs1 : w.heap.size < w1.heap.size := by have := hb.size; simp at this; omega)
    have C0 : Hid (w1.cell? ⟨w.heap.size, 0, none⟩ = some (.string (st k))) := Lib.hid ((hc1 _ _ (by omega)).trans (by simp [World.cell?_alloc_new]))
    have C1 : Hid (w1.cell? ⟨w.heap.size, 1, none⟩ = some (.string (st v))) := Lib.hid ((hc1 _ _ (by omega)).trans (by simp [World.cell?_alloc_new]))
    clear hc1 hf1
    have c0 := C0.out
    have c1 := C1.out
    have HB1 : Hid (Below w1.heap.size w1 w1.drew) := Lib.hid ((Below.refl w1.heap.size w1).drew)
    go_region_law (first | (refine step_app_str (w0 := w) w.heap.size rfl (.tmp 12) (.tmp 14) rfl vA D.length D T (by rfl) (by rfl) HOA.out (HB.out.trans (HB1.out.mono (by omega))) (HB.out.trans (HB1.out.mono (by omega))).size (by omega) ?_; intro v1 w2 ho2 hb2; have HO2 := Lib.hid ho2; have HB2 := Lib.hid hb2; clear ho2 hb2) | (go_simp; go_at_call 155; refine (HL.out _ (HG.out.below (HB.out.trans (HB1.out.mono (by omega))))).mono ?_; rintro e wL ⟨rfl, hb⟩; have hbn := HB1.out.trans (hb.mono HB1.out.size); clear HB1; have HB1 := Lib.hid hbn; have cL0 := (hbn.cell (p := ⟨w.heap.size, 0, none⟩) hs1).trans C0.out; have cL1 := (hbn.cell (p := ⟨w.heap.size, 1, none⟩) hs1).trans C1.out; clear hb hbn) | (go_simp; go_at_call 156; refine (HT.out _).mono ?_; rintro e wT ⟨rfl, hb⟩; have hbn := HB1.out.trans (hb.mono HB1.out.size); (try have hoT := own_later HOA.out hb; clear HOA; have HOA := Lib.hid hoT; clear hoT); clear HB1; have HB1 := Lib.hid hbn; have cT0 := (hbn.cell (p := ⟨w.heap.size, 0, none⟩) hs1).trans C0.out; have cT1 := (hbn.cell (p := ⟨w.heap.size, 1, none⟩) hs1).trans C1.out; clear hb hbn) | (go_simp; go_at_call 154; refine (HA.out _ (HG.out.below (HB.out.trans (HB1.out.mono (by omega))))).mono ?_; rintro e wA ⟨vA, rfl, hoA, hb⟩; have hbn := HB1.out.trans (hb.mono HB1.out.size); have HOA := Lib.hid (own_more hoA (Nat.le_trans (Nat.le_of_lt hs1) HB1.out.size)); clear HB1; have HB1 := Lib.hid hbn; have cA0 := (hbn.cell (p := ⟨w.heap.size, 0, none⟩) hs1).trans C0.out; have cA1 := (hbn.cell (p := ⟨w.heap.size, 1, none⟩) hs1).trans C1.out; clear hb hbn hoA))
    all_goals
      go_wp2
      go_ret2
      exact ⟨_, rfl, HO2.out, HB2.out⟩
  · have hr : rOne r = ([], rMay r) := by unfold rOne; rw [if_pos h0]
    rw [hr]
    obtain ⟨E, hE⟩ : ∃ E, rMay r = E := ⟨_, rfl⟩
    rw [hE] at hM h0 ⊢
    have hne : (E != 0) = true := by rw [bne_iff_ne]; exact h0
    obtain ⟨k, v⟩ := r
    unfold rcV at hM ⊢
    simp only [] at hM ⊢
    have HM := Lib.hid hM
    clear hM hT hL h0 hE hg hk hv hr
    go_enter Tryz.func123, Tryz.ntmps123
    go_wp2_with (go_at_call 153; refine (HM.out _).mono ?_; rintro e w1 ⟨rfl, hb⟩; have HB : Hid (Below w.heap.size w w1) := Lib.hid (((Below.refl _ w).alloc (Nat.le_refl _) _).trans (hb.mono (by simp))); clear hb)
    go_ret2
    exact ⟨_, rfl, World.ownsRow_nil _ _ _ _, HB.out⟩
end Go.Proofs.YtckgjbpgdpcnnaaGreatDoor
