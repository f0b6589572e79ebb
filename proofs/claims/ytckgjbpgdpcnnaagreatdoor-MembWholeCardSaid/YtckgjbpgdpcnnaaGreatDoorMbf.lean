/-
  THE CONTRACTS of package memb, on: ahead.
-/
import Derived.Test.YtckgjbpgdpcnnaaGreatDoorMbe
namespace Go.Proofs.YtckgjbpgdpcnnaaGreatDoor
set_option linter.all false
set_option linter.unusedVariables false
set_option linter.unusedSimpArgs false
open Go.RowKit Pl
attribute [local go_sem] st_toList st_size

theorem pax_ok (n : Nat) (h : n ≤ 2100000) : HdOk (paxHd n) := by
  constructor <;> simp [paxHd, paxName, I64] <;> omega
set_option maxRecDepth 100000 in
set_option maxHeartbeats 4000000 in
theorem memb_ahead (A : Option Addr) (c : Nat) (l : List Rec) (w : World) (hl : l.length ≤ 1000) (hok : ∀ r ∈ l, RcOk r) (hr : RdV w A (rcs l)) (hg : Glob w) : Calls Tryz.prog 59 #[.slice A l.length c] w fun e w' => ∃ v, e = .returned (.tuple #[v, .int .i64 (mAhead l).2]) ∧ w'.ownsRow w.heap.size 5 1 v (mAhead l).1.length (bcs (mAhead l).1) ∧ Below w.heap.size w w' := by
  have hL := fun W h1 h2 => recs_Lay A c l W hl hok h1 h2
  by_cases h0 : l = []
  · have hm : mAhead l = ([], 0) := by unfold mAhead; rw [if_pos h0]
    rw [hm]
    have hln : l.length = 0 := by rw [h0]; rfl
    have hz : (((l.length : Nat) : Int) == 0) = true := by rw [hln]; rfl
    clear hL h0 hm hr hg hok
    obtain ⟨n, hn⟩ : ∃ n, l.length = n := ⟨_, rfl⟩
    rw [hn] at hz hl ⊢
    clear hn hln
    go_enter Tryz.func59, Tryz.ntmps59
    go_wp2
    go_ret2
    exact ⟨_, rfl, World.ownsRow_nil _ _ _ _, Below.refl _ _⟩
  · have hz : (((l.length : Nat) : Int) == 0) = false := by
      have : l.length ≠ 0 := fun e => h0 (List.eq_nil_of_length_eq_zero e)
      simpa using this
    have HR := Lib.hid hr
    have HG := Lib.hid hg
    by_cases he : (rLay l).2 = 0
    · have hm : mAhead l = ((hdLay (paxHd (rLay l).1.length)).1 ++ bFill (rLay l).1, 0) := by
        unfold mAhead
        rw [if_neg h0, if_neg (by rw [he]; simp)]
        show (_, (hdLay (paxHd _)).2) = _
        rw [hdLay_ok _ (paxHd_fits _)]
        rfl
      have hle := rLay_le l he
      rw [hm]
      rw [he] at hL
      obtain ⟨B, hBB⟩ : ∃ B, (rLay l).1 = B := ⟨_, rfl⟩
      rw [hBB] at hL hle ⊢
      have hbl : B.length ≤ 2100000 := by omega
      have hpx := hdLay_ok _ (paxHd_fits B.length)
      have hH : ∀ W, Glob W → Calls Tryz.prog 60 #[.agg #[.string { data := #[] }, .string { data := #[112, 97, 120] }, .int .i64 0, .int .i64 0, .int .i64 0, .int .i64 0, .int .i64 (B.length : Int), .int .u8 120, .string { data := #[] }]] W fun e w' => ∃ v, e = .returned (.tuple #[v, .int .i64 (hdLay (paxHd B.length)).2]) ∧ w'.ownsRow W.heap.size 5 1 v (hdLay (paxHd B.length)).1.length (bcs (hdLay (paxHd B.length)).1) ∧ Below W.heap.size W w' :=
        fun W h => head_Lay (paxHd B.length) (pax_ok _ hbl) W h
      rw [hpx] at hH
      have hhl := hdLay_len _ hpx
      obtain ⟨D, hD⟩ : ∃ D, (hdLay (paxHd B.length)).1 = D := ⟨_, rfl⟩
      rw [hD] at hH hhl ⊢
      have hF := fun A c W h => blocks_Fill A B.length c B W rfl (by omega) h
      have hfl := bFill_len B
      obtain ⟨F, hFF⟩ : ∃ F, bFill B = F := ⟨_, rfl⟩
      rw [hFF] at hF hfl ⊢
      have hpad : bPad B.length ≤ 512 := by unfold bPad; omega
      have hlen : (D ++ F).length = D.length + F.length := List.length_append
      rw [hlen]
      have HL := Lib.hid hL
      have HH := Lib.hid hH
      have HF := Lib.hid hF
      have hbound : D.length + F.length ≤ 140737488355328 := by omega
      have hnn : ∃ n, l.length = n := ⟨_, rfl⟩
      obtain ⟨n, hn⟩ := hnn
      have HN := Lib.hid hn
      rw [hn] at hz hl HL ⊢
      clear hL hH hF hm hle h0 he hBB hpx hhl hD hfl hFF hpad hlen hr hg hok hn
      go_enter Tryz.func59, Tryz.ntmps59
      go_wp2_with (first | (go_at_call 92; refine (HL.out _ HR.out HG.out).mono ?_; rintro e w1 ⟨v4, rfl, ho, hb⟩; have HB1 := Lib.hid hb; obtain ⟨A4, c4, rfl, _, hrd⟩ := Rd.of_own ho; have HR4 := Lib.hid hrd; clear ho hb hrd) | (go_at_call 60; refine (HH.out _ (HG.out.below HB1.out)).mono ?_; rintro e w2 ⟨v6, rfl, ho, hb⟩; have HB2 := Lib.hid (HB1.out.trans (hb.mono HB1.out.size)); have HO6 := Lib.hid ho; have HR42 := Lib.hid (HR4.out.below hb); have HS2 := Lib.hid hb.size; clear ho hb) | (go_at_call 62; refine (HF.out _ _ _ HR42.out).mono ?_; rintro e w3 ⟨v27, rfl, ho, hb⟩; have HB3 := Lib.hid (HB2.out.trans (hb.mono HB2.out.size)); have HO63 := Lib.hid (own_more (own_later HO6.out hb) HB1.out.size); obtain ⟨A27, c27, rfl, _, hrd⟩ := Rd.of_own ho; have HR27 := Lib.hid hrd; clear ho hb hrd) | (at_builtin; refine app_all (w0 := w) w.heap.size rfl (.tmp 25) (.tmp 27) rfl v6 D.length D F A27 F.length c27 (by rfl) (by rfl) rfl HO63.out HR27.out HB3.out HB3.out.size hbound ?_; intro v1 w4 ho4 hb4 _ _; have HO4 := Lib.hid ho4; have HB4 := Lib.hid hb4; clear ho4 hb4))
      go_ret2
      exact ⟨_, rfl, HO4.out, HB4.out⟩
    · have hm : mAhead l = ([], (rLay l).2) := by unfold mAhead; rw [if_neg h0, if_pos he]
      rw [hm]
      obtain ⟨E, hE⟩ : ∃ E, (rLay l).2 = E := ⟨_, rfl⟩
      rw [hE] at hL he ⊢
      have hne : (E != 0) = true := by rw [bne_iff_ne]; exact he
      have HL := Lib.hid hL
      obtain ⟨n, hn⟩ : ∃ n, l.length = n := ⟨_, rfl⟩
      rw [hn] at hz hl HL ⊢
      clear hL hm h0 he hE hr hg hok hn
      go_enter Tryz.func59, Tryz.ntmps59
      go_wp2_with (go_at_call 92; refine (HL.out _ HR.out HG.out).mono ?_; rintro e w1 ⟨v4, rfl, ho, hb⟩; have HB1 := Lib.hid hb; obtain ⟨A4, c4, rfl, _, hrd⟩ := Rd.of_own ho; clear ho hb hrd)
      go_ret2
      exact ⟨_, rfl, World.ownsRow_nil _ _ _ _, HB1.out⟩
end Go.Proofs.YtckgjbpgdpcnnaaGreatDoor
