/-
  THE CONTRACTS of package blocks: how many blocks, what pads them, filled and opened bytes.
-/
import Derived.Test.YtckgjbpgdpcnnaaGreatDoorHlap
import Derived.Test.YtckgjbpgdpcnnaaGreatDoorBlkz
namespace Go.Proofs.YtckgjbpgdpcnnaaGreatDoor
set_option linter.all false
set_option linter.unusedVariables false
set_option linter.unusedSimpArgs false
open Go.RowKit Pl

set_option maxHeartbeats 400000 in
theorem blocks_Count (n : Int) (w : World) (h : -9223372036854775808 ≤ n) (h1 : n ≤ 9223372036854775807) : Calls Tryz.prog 105 #[.int .i64 n] w fun e w' => e = .returned (.int .i64 (bCount n)) ∧ w = w' := by
  by_cases hn : n < 1
  · have e : bCount n = 0 := by unfold bCount; rw [if_pos hn]
    rw [e]
    clear e
    go_enter Tryz.func105, Tryz.ntmps105
    go_wp2
    go_ret
    exact ⟨rfl, rfl⟩
  · have e : bCount n = (n - 1) / 512 + 1 := by unfold bCount; rw [if_neg hn]
    rw [e]
    clear e
    go_enter Tryz.func105, Tryz.ntmps105
    go_wp2
    go_ret
    exact ⟨rfl, rfl⟩
set_option maxHeartbeats 400000 in
theorem blocks_Pad (n : Nat) (w : World) (h1 : (n : Int) ≤ 9223372036854775807) : Calls Tryz.prog 98 #[.int .i64 (n : Int)] w fun e w' => e = .returned (.int .i64 ((bPad n : Nat) : Int)) ∧ w = w' := by
  by_cases hn : n = 0
  · have e : bPad n = 0 := by rw [hn]; rfl
    rw [e]
    subst hn
    go_enter Tryz.func98, Tryz.ntmps98
    go_wp2
    go_ret
    exact ⟨rfl, rfl⟩
  · have e : ((bPad n : Nat) : Int) = (512 - (n : Int) % 512) % 512 := by unfold bPad; omega
    rw [e]
    have h0 : (1 : Int) ≤ (n : Int) := by omega
    clear e hn
    go_enter Tryz.func98, Tryz.ntmps98
    go_wp2
    go_ret
    exact ⟨rfl, rfl⟩
set_option maxHeartbeats 400000 in
theorem blocks_has (A : Option Addr) (l c : Nat) (size : Int) (w : World) (hl : l ≤ 140737488355328) (h : -9223372036854775808 ≤ size) (h1 : size ≤ 9223372036854775807) :
    Calls Tryz.prog 138 #[.slice A l c, .int .i64 size] w fun e w' => e = .returned (.bool (decide (bCount size ≤ ((l / 512 : Nat) : Int)))) ∧ w = w' := by
  obtain ⟨k, hk⟩ : ∃ k, bCount size = k := ⟨_, rfl⟩
  have hC := fun W => blocks_Count size W h h1
  rw [hk] at hC ⊢
  have HC := Lib.hid hC
  clear hC hk h h1
  go_enter Tryz.func138, Tryz.ntmps138
  go_wp2_with (go_at_call 105; refine (HC.out _).mono ?_; rintro e w' ⟨rfl, rfl⟩)
  go_ret
  exact ⟨by simp, rfl⟩
section
variable {ops : Array Oper} {rest : List Oper} {o : Oper} {a : Act} {Q : Exit → Act → World → Prop}
/-- append(v, make([]byte, m)...). -/
theorem app_zeros {w0 W : World} (base : Nat) (hgd : o.guard = none) (s x : Operand)
    (ho : o.op = .call { callee := .builtin .append, args := #[s, x], argTypes := #[31, 3] })
    (v : Value) (n : Nat) (l : Bs) (m : Nat) (hs : a.eval s = v) (hx : a.eval x = .int .i64 (m : Int))
    (HO : W.ownsRow base 5 1 v n (bcs l)) (HB : Below base w0 W) (hbase : base ≤ W.heap.size) (hl : n + m ≤ 140737488355328)
    (h : ∀ v1 w1, w1.ownsRow base 5 1 v1 (n + m) (bcs (l ++ noughts m)) → Below base w0 w1 → wpList Tryz.prog ops Q rest (a.put o.dst v1) w1) :
    wpList Tryz.prog ops Q (o :: rest) a W := by
  obtain ⟨v1, w1, hr, hown, hg, _⟩ := run_app_zeros o.type base v n l m HO hbase hl
  refine wpList_plain hgd fun K hK => ?_
  unfold Oper.wp execOp
  simp only [ho, resolve, invoke, builtin, Sem.run_bind, Sem.run_pure, Result.andThen_ok, List.map_toArray, List.map_cons, List.map_nil, hs, hx, hr]
  exact hK _ _ (h v1 w1 hown (HB.grown hg hbase (fun k hk => own_base HO k hk)))
end
theorem bFill_len (l : Bs) : (bFill l).length = l.length + bPad l.length := by simp [bFill, noughts]
set_option maxRecDepth 100000 in
set_option maxHeartbeats 1000000 in
theorem blocks_Fill (A : Option Addr) (n c : Nat) (l : Bs) (w : World) (hl : l.length = n) (hn : n ≤ 140737488350000) (h : Rd w A l) :
    Calls Tryz.prog 62 #[.slice A n c] w fun e w' => ∃ v, e = .returned v ∧ w'.ownsRow w.heap.size 5 1 v (bFill l).length (bcs (bFill l)) ∧ Below w.heap.size w w' := by
  have hC := lib_Clone A n c l w hl (by omega) h
  have hP := fun W => blocks_Pad n W (by omega)
  have hpad : bPad n ≤ 512 := by unfold bPad; omega
  have hf : bFill l = l ++ noughts (bPad n) := by unfold bFill; rw [hl]
  have hfl := bFill_len l
  rw [hl] at hfl
  rw [hfl, hf]
  have HC := Lib.hid hC
  have HP := Lib.hid hP
  clear hC hP hf hfl h hl
  go_enter Tryz.func62, Tryz.ntmps62
  go_wp2_with (first | (go_at_call 53; refine HC.out.mono ?_; rintro e w1 ⟨v, rfl, ho, hb⟩; have HO := Lib.hid ho; have HB := Lib.hid hb; clear ho hb) | (go_at_call 98; refine (HP.out _).mono ?_; rintro e w' ⟨rfl, rfl⟩) | (at_builtin; refine app_zeros (w0 := w) w.heap.size rfl (.tmp 4) (.tmp 7) rfl v n l (bPad n) (by rfl) (by rfl) HO.out HB.out HB.out.size (by omega) ?_; intro v1 w2 ho2 hb2; have HO2 := Lib.hid ho2; have HB2 := Lib.hid hb2; clear ho2 hb2))
  go_ret
  exact ⟨_, rfl, HO2.out, HB2.out⟩
set_option maxHeartbeats 1000000 in
theorem blocks_End (w : World) : Calls Tryz.prog 70 #[] w fun e w' => ∃ v, e = .returned v ∧ w'.ownsRow w.heap.size 5 1 v 1024 (bcs (noughts 1024)) ∧ Below w.heap.size w w' := by
  have hmk0 := mk_bytes 1024 (by omega)
  have hN := own_new w w.heap.size 1024 (Nat.le_refl _) (by omega)
  obtain ⟨M, hM⟩ : ∃ M, madeCells #[Value.int .u8 0] 1024 = M := ⟨_, rfl⟩
  rw [hM] at hmk0 hN
  have hmk : ∀ W : World, (Instr.makeSlice 31 (.int .i64 1024) (.int .i64 1024)).run Tryz.prog W = .ok (.slice (some ⟨W.heap.size, 0, none⟩) 1024 1024) (W.alloc (.cells M 5)) := hmk0
  obtain ⟨L, hL⟩ : ∃ L, bcs (noughts 1024) = L := ⟨_, rfl⟩
  rw [hL] at hN ⊢
  have HN := Lib.hid hN
  clear hmk0 hN hM hL
  go_enter Tryz.func70, Tryz.ntmps70
  go_wp2
  go_ret
  exact ⟨_, rfl, HN.out, (Below.refl _ _).alloc (Nat.le_refl _) _⟩
end Go.Proofs.YtckgjbpgdpcnnaaGreatDoor
