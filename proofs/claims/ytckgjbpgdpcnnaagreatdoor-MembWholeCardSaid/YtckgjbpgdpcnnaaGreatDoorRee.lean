/-
  THE CONTRACTS of package recs, on: Lay.
-/
import Derived.Test.YtckgjbpgdpcnnaaGreatDoorRed
import Derived.Test.YtckgjbpgdpcnnaaGreatDoorRfin
import Derived.Test.YtckgjbpgdpcnnaaGreatDoorMem
namespace Go.Proofs.YtckgjbpgdpcnnaaGreatDoor
set_option linter.all false
set_option linter.unusedVariables false
set_option linter.unusedSimpArgs false
open Go.RowKit Pl
attribute [local go_sem] st_toList st_size

structure RcOk (r : Rec) : Prop where
  key : r.key.length < 4294967281
  val : r.val.length < 4294967281
/-- What is laid of the first records. -/
theorem rLay_snoc (l : List Rec) (r : Rec) (h : (rLay l).2 = 0) : rLay (l ++ [r]) = if (rOne r).2 ≠ 0 then ([], (rOne r).2) else ((rLay l).1 ++ (rOne r).1, 0) := by
  induction l with
  | nil =>
    rw [List.nil_append]
    simp [rLay]
  | cons a l ih =>
    obtain ⟨h1, h2, h3⟩ := rLay_cons a l h
    have := ih h2
    rw [List.cons_append, rLay, if_neg (by rw [h1]; simp), this, h3]
    by_cases he : (rOne r).2 = 0
    · simp [he]
    · simp [he]
theorem rLay_bad (l m : List Rec) (h : (rLay l).2 ≠ 0) : rLay (l ++ m) = ([], (rLay l).2) := by
  induction l with
  | nil => simp [rLay] at h
  | cons a l ih =>
    rw [List.cons_append, rLay]
    rw [rLay] at h
    by_cases h1 : (rOne a).2 = 0
    · rw [if_neg (by rw [h1]; simp)] at h ⊢
      by_cases h2 : (rLay l).2 = 0
      · rw [if_neg (by rw [h2]; simp)] at h
        simp at h
      · rw [ih h2, if_pos h2]
        rw [rLay, if_neg (by rw [h1]; simp), if_pos h2]
    · rw [if_pos h1]
      rw [rLay, if_pos h1]
theorem rLay_all (l : List Rec) (h : (rLay l).2 = 0) : ∀ r ∈ l, rMay r = 0 := by
  induction l with
  | nil => intro r hr; cases hr
  | cons a l ih =>
    obtain ⟨h1, h2, _⟩ := rLay_cons a l h
    intro r hr
    rcases List.mem_cons.1 hr with rfl | hr
    · exact rOne_may _ h1
    · exact ih h2 r hr
theorem rLay_le (l : List Rec) (h : (rLay l).2 = 0) : (rLay l).1.length ≤ 2100 * l.length := rLay_len l (rLay_all l h)
theorem rOne_le (r : Rec) (h : rMay r = 0) : (rOne r).1.length ≤ 3000 := by
  have := rLay_len [r] (by simpa using h)
  rw [show (rLay [r]).1 = (rOne r).1 from by
    have h0 := rLay_ok [r] (by simpa using h)
    obtain ⟨_, _, h3⟩ := rLay_cons r [] h0
    rw [h3]; simp [rLay]] at this
  simp at this
  omega
set_option maxRecDepth 100000 in
set_option maxHeartbeats 4000000 in
theorem recs_Lay (A : Option Addr) (c : Nat) (l : List Rec) (w : World) (hl : l.length ≤ 1000) (hok : ∀ r ∈ l, RcOk r) (hr : RdV w A (rcs l)) (hg : Glob w) : Calls Tryz.prog 92 #[.slice A l.length c] w fun e w' => ∃ v, e = .returned (.tuple #[v, .int .i64 (rLay l).2]) ∧ w'.ownsRow w.heap.size 5 1 v (rLay l).1.length (bcs (rLay l).1) ∧ Below w.heap.size w w' := by
  have HR := Lib.hid hr
  have HOK := Lib.hid hok
  have HG := Lib.hid hg
  obtain ⟨X, hX⟩ : ∃ X, rLay l = X := ⟨_, rfl⟩
  rw [hX]
  have HX := Lib.hid hX
  clear hr hok hg hX
  go_enter Tryz.func92, Tryz.ntmps92
  go_wp2
  go_loopw [4, 11] (fun o i wr => ∃ j : Nat, j ≤ l.length ∧ i = .int .i64 (j : Int) ∧ (rLay (l.take j)).2 = 0 ∧ wr.ownsRow w.heap.size 5 1 o (rLay (l.take j)).1.length (bcs (rLay (l.take j)).1) ∧ Below w.heap.size w wr) (fun _ i _ => l.length - (intOf i).toNat)
  case atStart => exact ⟨0, Nat.zero_le _, rfl, rfl, World.ownsRow_nil _ _ _ _, Below.refl _ _⟩
  case round =>
    obtain ⟨j, hj, rfl, h0, ho, hb⟩ := hrel
    have H0 := Lib.hid h0
    have HO := Lib.hid ho
    have HB := Lib.hid hb
    clear h0 ho hb
    by_cases hlt : j < l.length
    · obtain ⟨r, hr⟩ : ∃ r, l[j]? = some r := ⟨l[j]'hlt, List.getElem?_eq_getElem hlt⟩
      obtain ⟨r1, r2⟩ := rcs_at l j r hr
      obtain ⟨b, o, rfl, hcell⟩ := HR.out (by rw [rcs_length]; omega)
      have e1 := hcell _ _ r1
      have e2 := hcell _ _ r2
      have d1 := (HB.out.cell (p := ⟨b, o + j * 2, none⟩) (World.block_lt_of_cell? w _ e1)).trans e1
      have d2 := (HB.out.cell (p := ⟨b, o + (j * 2 + 1), none⟩) (World.block_lt_of_cell? w _ e2)).trans e2
      rw [← Nat.add_assoc] at d2
      have ht : l.take (j + 1) = l.take j ++ [r] := by rw [List.take_succ_eq_append_getElem hlt]; congr 2; rw [List.getElem?_eq_getElem hlt] at hr; exact Option.some.inj hr
      have hok := HOK.out r (List.mem_of_getElem? hr)
      have hs := rLay_snoc (l.take j) r H0.out
      rw [← ht] at hs
      have HS := Lib.hid hs
      have hO := fun W h => recs_One r W hok.key hok.val h
      clear r1 r2 hr e1 e2 hcell ht hok hs
      have hlp := rLay_le (l.take j) H0.out
      rw [List.length_take] at hlp
      obtain ⟨P, hP⟩ : ∃ P, (rLay (l.take j)).1 = P := ⟨_, rfl⟩
      have ho2 := HO.out
      rw [hP] at ho2 hlp
      have hs := HS.out
      rw [hP] at hs
      have HO1 := Lib.hid ho2
      clear ho2 hP HO
      by_cases he : (rOne r).2 = 0
      · rw [if_neg (by rw [he]; simp)] at hs
        have HS2 := Lib.hid hs
        have hol := rOne_le r (rOne_may r he)
        obtain ⟨O, hOO⟩ : ∃ O, (rOne r).1 = O := ⟨_, rfl⟩
        rw [he, hOO] at hO
        rw [hOO] at HS2 hol
        have HONE := Lib.hid hO
        have hbound : P.length + O.length ≤ 140737488355328 := by omega
        clear hO he hOO hs HS
        go_wp2_with (first | (go_at_call 123; refine (HONE.out _ (HG.out.below (HB.out.alloc HB.out.size _))).mono ?_; rintro e w2 ⟨v2, rfl, ho2, hb2⟩; have HB2 : Hid (Below w.heap.size w w2) := Lib.hid ((HB.out.alloc HB.out.size _).trans (hb2.mono (HB.out.alloc HB.out.size _).size)); have HO2 := Lib.hid (own_later (HO1.out.alloc _) hb2); obtain ⟨A2, c2, rfl, _, hrd2⟩ := Rd.of_own ho2; have HRD2 := Lib.hid hrd2; clear ho2 hb2 hrd2) | (at_builtin; refine app_all (w0 := w) w.heap.size rfl (.tmp 23) (.tmp 24) rfl u4 P.length P O A2 O.length c2 (by rfl) (by rfl) rfl HO2.out HRD2.out HB2.out HB2.out.size hbound ?_; intro v1 w3 ho3 hb3 _ _; have HO3 := Lib.hid ho3; have HB3 := Lib.hid hb3; clear ho3 hb3))
        go_roundw
        case rel => exact ⟨j + 1, by omega, by go_num, by rw [HS2.out], by rw [HS2.out, List.length_append]; exact HO3.out, HB3.out⟩
        case measure => simp [intOf]; omega
      · rw [if_pos he] at hs
        have hx := rLay_bad (l.take (j + 1)) (l.drop (j + 1)) (by rw [hs]; exact he)
        rw [List.take_append_drop, hs, HX.out] at hx
        obtain ⟨E, hE⟩ : ∃ E, (rOne r).2 = E := ⟨_, rfl⟩
        rw [hE] at hO hx he
        have hne : (E != 0) = true := by rw [bne_iff_ne]; exact he
        subst hx
        have HONE := Lib.hid hO
        clear hO he hE hs HS
        go_wp2_with (go_at_call 123; refine (HONE.out _ (HG.out.below (HB.out.alloc HB.out.size _))).mono ?_; rintro e w2 ⟨v2, rfl, ho2, hb2⟩; have HB2 : Hid (Below w.heap.size w w2) := Lib.hid ((HB.out.alloc HB.out.size _).trans (hb2.mono (HB.out.alloc HB.out.size _).size)); obtain ⟨A2, c2, rfl, _, hrd2⟩ := Rd.of_own ho2; clear ho2 hb2 hrd2)
        go_ret2
        exact ⟨_, rfl, World.ownsRow_nil _ _ _ _, HB2.out⟩
    · obtain rfl : j = l.length := by omega
      have h0 := H0.out
      have ho := HO.out
      rw [List.take_length, HX.out] at h0 ho
      obtain ⟨XB, XE⟩ := X
      simp only [] at h0 ho
      subst h0
      have HO1 := Lib.hid ho
      clear ho H0 HO
      go_wp2
      go_ret2
      exact ⟨_, rfl, HO1.out, HB.out⟩
end Go.Proofs.YtckgjbpgdpcnnaaGreatDoor
