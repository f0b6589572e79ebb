/-
  THE CONTRACTS of package head: laying.
-/
import Derived.Test.YtckgjbpgdpcnnaaGreatDoorStrg
import Derived.Test.YtckgjbpgdpcnnaaGreatDoorHsun
namespace Go.Proofs.YtckgjbpgdpcnnaaGreatDoor
set_option linter.all false
set_option linter.unusedVariables false
set_option linter.unusedSimpArgs false
open Go.RowKit Pl

/-! ### parts of a block -/
theorem splice_mid (A X B r : Bs) (at_ : Nat) (hA : A.length = at_) (hX : X.length = r.length) : splice (A ++ (X ++ B)) at_ r = A ++ (r ++ B) := by
  subst hA
  unfold splice
  rw [List.take_left, ← hX, ← List.length_append, ← List.append_assoc A X B, List.drop_left]
theorem splice_part : ∀ (parts : List Bs) (i at_ : Nat) (r : Bs) (hi : i < parts.length) (_ : parts[i].length = r.length) (_ : ((parts.map List.length).take i).sum = at_), splice parts.flatten at_ r = (parts.set i r).flatten
  | [], i, at_, r, hi, _, _ => absurd hi (by simp)
  | p :: parts, 0, at_, r, _, hx, hs => by
    have : at_ = 0 := by simpa using hs.symm
    subst this
    have := splice_mid [] p parts.flatten r 0 rfl hx
    simpa using this
  | p :: parts, i + 1, at_, r, hi, hx, hs => by
    have ih := splice_part parts i (((parts.map List.length).take i).sum) r (by simpa using hi) (by simpa using hx) rfl
    have hs2 : at_ = p.length + ((parts.map List.length).take i).sum := by simpa using hs.symm
    subst hs2
    rw [List.flatten_cons, List.set_cons_succ, List.flatten_cons, ← ih]
    unfold splice
    rw [List.take_length_add_append, Nat.add_assoc, List.drop_length_add_append, List.append_assoc]

/-! ### the layer -/
/-- The layer at block L with its block G of bytes. -/
structure Lyr (w : World) (L G : Nat) (e : Int) (l : Bs) : Prop where
  at_ : w.heap[L]? = some (.cells #[.slice (some ⟨G, 0, none⟩) 512 512, .int .i64 e] 140 (0, 0))
  blk : Blk w G l
  ne : L ≠ G
  len : l.length = 512
theorem Lyr.lt {w : World} {L G : Nat} {e : Int} {l : Bs} (h : Lyr w L G e l) : L < w.heap.size := (Array.getElem?_eq_some_iff.1 h.at_).1
theorem Lyr.below {w w1 : World} {L G : Nat} {e : Int} {l : Bs} (h : Lyr w L G e l) (hb : Below w.heap.size w w1) : Lyr w1 L G e l := ⟨(hb.block L h.lt).trans h.at_, h.blk.below hb, h.ne, h.len⟩
theorem Lyr.cell0 {w : World} {L G : Nat} {e : Int} {l : Bs} (h : Lyr w L G e l) : w.cell? ⟨L, 0, none⟩ = some (.slice (some ⟨G, 0, none⟩) 512 512) := by have := h.at_; simp [World.cell?, this]
theorem Lyr.cell1 {w : World} {L G : Nat} {e : Int} {l : Bs} (h : Lyr w L G e l) : w.cell? ⟨L, 1, none⟩ = some (.int .i64 e) := by have := h.at_; simp [World.cell?, this]
theorem Lyr.frozen {w : World} {L G : Nat} {e : Int} {l : Bs} (h : Lyr w L G e l) (i : Nat) : w.frozen? ⟨L, i, none⟩ = false := by have := h.at_; simp [World.frozen?, this]
theorem Lyr.err {w : World} {L G : Nat} {e : Int} {l : Bs} (h : Lyr w L G e l) (e' : Int) : Lyr (w.setCell ⟨L, 1, none⟩ (.int .i64 e')) L G e' l := by
  have ha := h.at_
  have hb := h.blk
  refine ⟨?_, ?_, h.ne, h.len⟩
  · simp [World.setCell, Array.getElem?_modify, ha]
  · unfold Blk at hb ⊢
    simp [World.setCell, Array.getElem?_modify, h.ne, hb]
theorem Lyr.put {w w' : World} {L G : Nat} {e : Int} {l l' : Bs} (h : Lyr w L G e l) (hk : Blk w' G l') (hb : w'.heap[L]? = w.heap[L]?) (hl : l'.length = 512) : Lyr w' L G e l' := ⟨hb.trans h.at_, hk, h.ne, hl⟩

def stepF (s : Int × Bs) (at_ : Nat) (r : Bs) (e : Int) : Int × Bs := if s.1 = 0 then (e, splice s.2 at_ r) else s

set_option maxRecDepth 100000 in
set_option maxHeartbeats 1000000 in
theorem layer_field (L G B at_ n : Nat) (s : Int × Bs) (e : Int) (r : Bs) (A : Option Addr) (c : Nat) (w : World) (h : Lyr w L G s.1 s.2) (hBL : B ≤ L) (hBG : B ≤ G) (hr : r.length = n) (hrd : Rd (w.setCell ⟨L, 1, none⟩ (.int .i64 e)) A r) (hat : at_ < 512) (hfit : at_ + n ≤ 512) :
    Calls Tryz.prog 125 #[.pointer (some ⟨L, 0, none⟩), .int .i64 at_, .slice A n c, .int .i64 e] w fun en w' => en = .returned (.tuple #[]) ∧ Lyr w' L G (stepF s at_ r e).1 (stepF s at_ r e).2 ∧ Below B w w' := by
  obtain ⟨e0, l⟩ := s
  simp only [] at h
  have c0 := h.cell0
  have c1 := h.cell1
  by_cases h0 : e0 = 0
  · subst h0
    have hst : stepF (0, l) at_ r e = (e, splice l at_ r) := by unfold stepF; rw [if_pos rfl]
    rw [hst]
    have HE := Lib.hid (h.err e)
    have d0 := HE.out.cell0
    have f1 := h.frozen 1
    have hcut := cut_blk .i64 G 0 512 512 at_ (by omega) (by omega)
    rw [Nat.zero_add] at hcut
    have HB := Lib.hid ((Below.refl B w).setCell (p := ⟨L, 1, none⟩) hBL (.int .i64 e))
    have HRD := Lib.hid hrd
    have HR := Lib.hid hr
    have HLEN := Lib.hid h.len
    clear hst hrd hr h
    go_enter Tryz.func125, Tryz.ntmps125
    have HO := Lib.hid (HE.out.blk.own HLEN.out hBG (by omega))
    go_wp2_with (refine cp_own rfl _ _ rfl (some ⟨G, at_, none⟩) A (512 - at_) (512 - at_) n c (by rfl) (by rfl) B G 512 512 at_ l r HO.out HRD.out HR.out (by omega) (fun _ => rfl) hfit ?_; intro w1 hk hb; have HK := Lib.hid hk; have HB2 := Lib.hid hb; clear hk hb)
    go_returns
    have hs : (splice l at_ r).length = 512 := by rw [length_splice _ _ _ (by rw [HR.out, HLEN.out]; exact hfit)]; exact HLEN.out
    exact ⟨rfl, HE.out.put (Blk.of_own HK.out) (HB2.out.block L HE.out.lt (fun e => HE.out.ne (by injection e))) hs, HB.out.grown HB2.out (by have := HE.out.lt; omega) (fun k hk => by injection hk with hk; omega)⟩
  · have hst : stepF (e0, l) at_ r e = (e0, l) := by unfold stepF; rw [if_neg h0]
    rw [hst]
    have hne : (e0 == 0) = false := by simpa using h0
    have H := Lib.hid h
    clear hst h0 h
    go_enter Tryz.func125, Tryz.ntmps125
    go_wp2
    go_returns
    exact ⟨rfl, H.out, Below.refl _ _⟩
theorem own_rd_set {w : World} {base L : Nat} {v : Value} {r : Bs} (h : w.ownsRow base 5 1 v r.length (bcs r)) (hL : L < base) (u : Value) :
    ∃ A c, v = .slice A r.length c ∧ Rd (w.setCell ⟨L, 1, none⟩ u) A r := by
  obtain ⟨A, c, hv, _, _⟩ := Rd.of_own h
  obtain ⟨A', c', hv', _, hr⟩ := Rd.of_own (own_set_other (p := ⟨L, 1, none⟩) h hL u)
  rw [hv] at hv'
  injection hv' with h1 h2 h3
  subst h1
  exact ⟨A, c, hv, hr⟩
theorem sPut_le (t : Bs) (d : Nat) : (sPut t d).1.length ≤ d := by
  unfold sPut
  split
  · simp
  · split
    · simp
    · simp [noughts]; omega
set_option maxRecDepth 100000 in
set_option maxHeartbeats 1000000 in
theorem layer_text (L G B at_ d : Nat) (s : Int × Bs) (t : Bs) (w : World) (h : Lyr w L G s.1 s.2) (hBL : B ≤ L) (hBG : B ≤ G) (h1 : 1 ≤ d) (h2 : d ≤ 512) (hfit : at_ + d ≤ 512) (ht : t.length < 4294967281) (hg : Glob w) :
    Calls Tryz.prog 93 #[.pointer (some ⟨L, 0, none⟩), .int .i64 at_, .int .i64 d, .string (st t)] w fun en w' => en = .returned (.tuple #[]) ∧ Lyr w' L G (stepF s at_ (sPut t d).1 (sPut t d).2).1 (stepF s at_ (sPut t d).1 (sPut t d).2).2 ∧ Below B w w' := by
  have hP := strf_Put (st t) d h1 h2 (by rw [st_size]; exact ht) w hg
  rw [st_data] at hP
  have hle := sPut_le t d
  obtain ⟨r, hr⟩ : ∃ r, sPut t d = r := ⟨_, rfl⟩
  rw [hr] at hP hle
  rw [hr]
  obtain ⟨f, e⟩ := r
  simp only [] at hP hle
  have HP := Lib.hid hP
  have H := Lib.hid h
  have hlt := h.lt
  clear hP h hr hg ht
  go_enter Tryz.func93, Tryz.ntmps93
  go_wp2_with (first | (go_at_call 124; go_must (refine HP.out.mono ?_); rintro en w1 ⟨v, rfl, ho, hb⟩; have HB1 := Lib.hid hb; obtain ⟨A, c, rfl, hrd⟩ := own_rd_set (L := L) ho hlt (.int .i64 e); have HRD := Lib.hid hrd; clear hb ho hrd) | (go_at_call 125; go_must (refine (layer_field L G B at_ f.length s e f A c _ (H.out.below HB1.out) hBL hBG rfl HRD.out (by omega) (by omega)).mono ?_); rintro en w2 ⟨rfl, hl, hb⟩; have HL := Lib.hid hl; have HB2 := Lib.hid hb; clear hl hb))
  go_returns
  exact ⟨rfl, HL.out, (HB1.out.mono (by omega)).trans HB2.out⟩
theorem nPut_le (n : Int) (d : Nat) (hd : d = 8 ∨ d = 12) : (nPut n d).1.length ≤ d := by
  unfold nPut
  split
  · rw [List.length_append, octs_len]; simp; omega
  · split
    · simp
    · exact Nat.le_of_eq (baseB_len n d (by omega))
set_option maxRecDepth 100000 in
set_option maxHeartbeats 1000000 in
theorem layer_number (L G B at_ d : Nat) (s : Int × Bs) (n : Int) (w : World) (h : Lyr w L G s.1 s.2) (hBL : B ≤ L) (hBG : B ≤ G) (hd : d = 8 ∨ d = 12) (hfit : at_ + d ≤ 512) (h0 : -9223372036854775808 ≤ n) (h1 : n ≤ 9223372036854775807) :
    Calls Tryz.prog 94 #[.pointer (some ⟨L, 0, none⟩), .int .i64 at_, .int .i64 d, .int .i64 n] w fun en w' => en = .returned (.tuple #[]) ∧ Lyr w' L G (stepF s at_ (nPut n d).1 (nPut n d).2).1 (stepF s at_ (nPut n d).1 (nPut n d).2).2 ∧ Below B w w' := by
  have hP : Calls Tryz.prog 126 #[.int .i64 n, .int .i64 d] w fun e w' =>
      ∃ v, e = .returned (.tuple #[v, .int .i64 (nPut n d).2]) ∧ w'.ownsRow w.heap.size 5 1 v (nPut n d).1.length (bcs (nPut n d).1) ∧ Below w.heap.size w w' := by
    rcases hd with rfl | rfl
    · exact numf_Put8 n h0 h1 w
    · exact numf_Put12 n h0 h1 w
  have hle := nPut_le n d hd
  obtain ⟨r, hr⟩ : ∃ r, nPut n d = r := ⟨_, rfl⟩
  rw [hr] at hP hle
  rw [hr]
  obtain ⟨f, e⟩ := r
  simp only [] at hP hle
  have HP := Lib.hid hP
  have H := Lib.hid h
  have hlt := h.lt
  have hat : at_ < 512 := by omega
  clear hP h hr hd
  go_enter Tryz.func94, Tryz.ntmps94
  go_wp2_with (first | (go_at_call 126; go_must (refine HP.out.mono ?_); rintro en w1 ⟨v, rfl, ho, hb⟩; have HB1 := Lib.hid hb; obtain ⟨A, c, rfl, hrd⟩ := own_rd_set (L := L) ho hlt (.int .i64 e); have HRD := Lib.hid hrd; clear hb ho hrd) | (go_at_call 125; go_must (refine (layer_field L G B at_ f.length s e f A c _ (H.out.below HB1.out) hBL hBG rfl HRD.out hat (by omega)).mono ?_); rintro en w2 ⟨rfl, hl, hb⟩; have HL := Lib.hid hl; have HB2 := Lib.hid hb; clear hl hb))
  go_returns
  exact ⟨rfl, HL.out, (HB1.out.mono (by omega)).trans HB2.out⟩
end Go.Proofs.YtckgjbpgdpcnnaaGreatDoor
