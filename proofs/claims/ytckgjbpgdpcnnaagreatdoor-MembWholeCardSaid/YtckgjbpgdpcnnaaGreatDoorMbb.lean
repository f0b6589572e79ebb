/-
  THE CONTRACTS of package memb, on: what a kind asks; what may be.
-/
import Derived.Test.YtckgjbpgdpcnnaaGreatDoorMba
namespace Go.Proofs.YtckgjbpgdpcnnaaGreatDoor
set_option linter.all false
set_option linter.unusedVariables false
set_option linter.unusedSimpArgs false
open Go.RowKit Pl
attribute [local go_sem] st_toList st_size

def mbV (m : Member) (A : Option Addr) (c : Nat) : Value := .agg #[.string (st m.path), .int .i64 m.kind, .int .i64 m.meta_.mode, .int .i64 m.meta_.uid, .int .i64 m.meta_.gid, .int .i64 m.meta_.mtime, .string (st m.link), .slice A m.data.length c]
/-- Bounds of a member. -/
structure MbOk (m : Member) : Prop where
  path : m.path.length < 4294967281
  link : m.link.length < 4294967281
  data : m.data.length ≤ 140737488355328
  kind : i64 m.kind
  mode : i64 m.meta_.mode
  uid : i64 m.meta_.uid
  gid : i64 m.meta_.gid
  mtime : i64 m.meta_.mtime
/-- What a kind asks. -/
def mAsk (m : Member) : Int :=
  if m.kind = 1 then (if 4096 < m.data.length then 10 else if m.link ≠ [] then 3 else 0)
  else if m.kind = 4 then (if m.link ≠ [] then 3 else if m.data ≠ [] then 3 else 0)
  else if m.kind = 2 then (if !isPath m.link then 8 else if m.data ≠ [] then 3 else 0)
  else (if m.link = [] ∨ m.link.any (· == 0) = true then 3 else if 300 < m.link.length then 10 else if m.data ≠ [] then 3 else 0)
theorem mMay_ask (m : Member) : mMay m = if !isPath m.path then 8 else if ¬ (1 ≤ m.kind ∧ m.kind ≤ 4) then 11 else if !numbersOk m.meta_ then 10 else mAsk m := rfl
theorem ret_int {k : IntKind} {a b : Int} (h : a = b) : Ending.returned (.int k a) = .returned (.int k b) := by rw [h]
theorem pos_len (d : Bs) (h : d ≠ []) : (0 : Int) < (d.length : Int) := by
  cases d with
  | nil => exact absurd rfl h
  | cons a t => simp only [List.length_cons]; omega
theorem zero_len (d : Bs) (h : ¬ d ≠ []) : (d.length : Int) ≤ 0 := by
  have : d = [] := Decidable.not_not.1 h
  simp [this]
set_option maxRecDepth 100000 in
set_option maxHeartbeats 2000000 in
theorem isKind_file (m : Member) (A : Option Addr) (c : Nat) (w : World) (ok : MbOk m) (hk : m.kind = 1) (hg : Glob w) : Calls Tryz.prog 88 #[mbV m A c] w fun e w' => e = .returned (.int .i64 (mAsk m)) ∧ Below w.heap.size w w' := by
  have hd := ok.data
  have hl := ok.link
  obtain ⟨p, k, ⟨a, b, g, t⟩, ln, d⟩ := m
  unfold mbV mAsk
  simp only [] at hk hd hl ⊢
  subst hk
  clear ok
  by_cases h1 : 4096 < d.length
  · rw [if_pos rfl, if_pos h1]
    have h2 : (4096 : Int) < (d.length : Int) := by omega
    clear h1
    go_enter Tryz.func88, Tryz.ntmps88
    go_wp2
    go_ret
    exact ⟨rfl, by go_grown⟩
  · by_cases h3 : ln ≠ []
    · rw [if_pos rfl, if_neg h1, if_pos h3]
      have h2 : (d.length : Int) ≤ 4096 := by omega
      have hE : ln.isEmpty = false := by simpa using h3
      clear h1 h3
      go_enter Tryz.func88, Tryz.ntmps88
      go_wp2
      go_ret
      exact ⟨rfl, by go_grown⟩
    · rw [if_pos rfl, if_neg h1, if_neg h3]
      have h2 : (d.length : Int) ≤ 4096 := by omega
      have hE : ln.isEmpty = true := by simpa using h3
      clear h1 h3
      go_enter Tryz.func88, Tryz.ntmps88
      go_wp2
      go_ret
      exact ⟨rfl, by go_grown⟩
set_option maxRecDepth 100000 in
set_option maxHeartbeats 2000000 in
theorem isKind_dir (m : Member) (A : Option Addr) (c : Nat) (w : World) (ok : MbOk m) (hk : m.kind = 4) (hg : Glob w) : Calls Tryz.prog 88 #[mbV m A c] w fun e w' => e = .returned (.int .i64 (mAsk m)) ∧ Below w.heap.size w w' := by
  have hd := ok.data
  have hl := ok.link
  obtain ⟨p, k, ⟨a, b, g, t⟩, ln, d⟩ := m
  unfold mbV mAsk
  simp only [] at hk hd hl ⊢
  subst hk
  clear ok
  by_cases h3 : ln ≠ []
  · rw [if_neg (by omega), if_pos rfl, if_pos h3]
    have hE : ln.isEmpty = false := by simpa using h3
    clear h3
    go_enter Tryz.func88, Tryz.ntmps88
    go_wp2
    go_ret
    exact ⟨rfl, by go_grown⟩
  · by_cases h4 : d ≠ []
    · rw [if_neg (by omega), if_pos rfl, if_neg h3, if_pos h4]
      have hE : ln.isEmpty = true := by simpa using h3
      have h2 : (0 : Int) < (d.length : Int) := pos_len _ h4
      clear h3 h4
      go_enter Tryz.func88, Tryz.ntmps88
      go_wp2
      go_ret
      exact ⟨rfl, by go_grown⟩
    · rw [if_neg (by omega), if_pos rfl, if_neg h3, if_neg h4]
      have hE : ln.isEmpty = true := by simpa using h3
      have h2 : (d.length : Int) ≤ 0 := zero_len _ h4
      clear h3 h4
      go_enter Tryz.func88, Tryz.ntmps88
      go_wp2
      go_ret
      exact ⟨rfl, by go_grown⟩
set_option maxRecDepth 100000 in
set_option maxHeartbeats 2000000 in
theorem isKind_hard (m : Member) (A : Option Addr) (c : Nat) (w : World) (ok : MbOk m) (hk : m.kind = 2) (hg : Glob w) : Calls Tryz.prog 88 #[mbV m A c] w fun e w' => e = .returned (.int .i64 (mAsk m)) ∧ Below w.heap.size w w' := by
  have hd := ok.data
  have hl := ok.link
  obtain ⟨p, k, ⟨a, b, g, t⟩, ln, d⟩ := m
  unfold mbV mAsk
  simp only [] at hk hd hl ⊢
  subst hk
  clear ok
  have hP := fun W h => ppath_May ln W h
  cases hB : isPath ln with
  | false =>
    rw [hB] at hP
    have HP := Lib.hid hP
    have HG := Lib.hid hg
    rw [if_neg (by omega), if_neg (by omega), if_pos rfl, if_pos (by rfl : (!false) = true)]
    clear hP hg
    go_enter Tryz.func88, Tryz.ntmps88
    go_wp2_with (go_at_call 86; refine (HP.out _ (HG.out.below ((Below.refl _ _).alloc (Nat.le_refl _) _))).mono ?_; rintro e w1 ⟨rfl, hb⟩; have HB : Hid (Below w.heap.size w w1) := Lib.hid (((Below.refl _ w).alloc (Nat.le_refl _) _).trans (hb.mono (by simp))); have c7 := (hb.cell (p := ⟨w.heap.size, 7, none⟩) (by simp)).trans (show _ = some (Value.slice A d.length c) from by simp [World.cell?_alloc_new]); clear hb)
    go_ret
    exact ⟨rfl, HB.out⟩
  | true =>
    rw [hB] at hP
    have HP := Lib.hid hP
    have HG := Lib.hid hg
    by_cases h4 : d ≠ []
    · rw [if_neg (by omega), if_neg (by omega), if_pos rfl, if_neg (by simp), if_pos h4]
      have h2 : (0 : Int) < (d.length : Int) := pos_len _ h4
      clear h4 hP hg
      go_enter Tryz.func88, Tryz.ntmps88
      go_wp2_with (go_at_call 86; refine (HP.out _ (HG.out.below ((Below.refl _ _).alloc (Nat.le_refl _) _))).mono ?_; rintro e w1 ⟨rfl, hb⟩; have HB : Hid (Below w.heap.size w w1) := Lib.hid (((Below.refl _ w).alloc (Nat.le_refl _) _).trans (hb.mono (by simp))); have c7 := (hb.cell (p := ⟨w.heap.size, 7, none⟩) (by simp)).trans (show _ = some (Value.slice A d.length c) from by simp [World.cell?_alloc_new]); clear hb)
      go_ret
      exact ⟨rfl, HB.out⟩
    · rw [if_neg (by omega), if_neg (by omega), if_pos rfl, if_neg (by simp), if_neg h4]
      have h2 : (d.length : Int) ≤ 0 := zero_len _ h4
      clear h4 hP hg
      go_enter Tryz.func88, Tryz.ntmps88
      go_wp2_with (go_at_call 86; refine (HP.out _ (HG.out.below ((Below.refl _ _).alloc (Nat.le_refl _) _))).mono ?_; rintro e w1 ⟨rfl, hb⟩; have HB : Hid (Below w.heap.size w w1) := Lib.hid (((Below.refl _ w).alloc (Nat.le_refl _) _).trans (hb.mono (by simp))); have c7 := (hb.cell (p := ⟨w.heap.size, 7, none⟩) (by simp)).trans (show _ = some (Value.slice A d.length c) from by simp [World.cell?_alloc_new]); clear hb)
      go_ret
      exact ⟨rfl, HB.out⟩
set_option maxRecDepth 100000 in
set_option maxHeartbeats 2000000 in
theorem isKind_sym (m : Member) (A : Option Addr) (c : Nat) (w : World) (ok : MbOk m) (hk : m.kind = 3) (hg : Glob w) : Calls Tryz.prog 88 #[mbV m A c] w fun e w' => e = .returned (.int .i64 (mAsk m)) ∧ Below w.heap.size w w' := by
  have hd := ok.data
  have hl := ok.link
  obtain ⟨p, k, ⟨a, b, g, t⟩, ln, d⟩ := m
  unfold mbV mAsk
  simp only [] at hk hd hl ⊢
  subst hk
  clear ok
  by_cases h1 : ln = []
  · rw [if_neg (by omega), if_neg (by omega), if_neg (by omega), if_pos (.inl h1)]
    have hE : ln.isEmpty = true := by simpa using h1
    clear h1
    go_enter Tryz.func88, Tryz.ntmps88
    go_wp2
    go_ret
    exact ⟨rfl, by go_grown⟩
  · have hC := fun W h => lib_Contains (st ln) 0 W (by rw [st_size]; exact hl) h
    rw [st_data] at hC
    have HG := Lib.hid hg
    have hE : ln.isEmpty = false := by simpa using h1
    cases hz : ln.any (· == 0) with
    | true =>
      rw [hz] at hC
      have HC := Lib.hid hC
      rw [if_neg (by omega), if_neg (by omega), if_neg (by omega), if_pos (.inr rfl)]
      clear hC hg hz h1
      go_enter Tryz.func88, Tryz.ntmps88
      go_wp2_with (go_at_call 119; refine (HC.out _ (HG.out.below ((Below.refl _ _).alloc (Nat.le_refl _) _))).mono ?_; rintro e w' ⟨rfl, rfl⟩)
      go_ret
      exact ⟨rfl, by go_grown⟩
    | false =>
      rw [hz] at hC
      have HC := Lib.hid hC
      have hn : ¬ (ln = [] ∨ false = true) := by rintro (h | h); exact h1 h; cases h
      by_cases h3 : 300 < ln.length
      · rw [if_neg (by omega), if_neg (by omega), if_neg (by omega), if_neg hn, if_pos h3]
        have h2 : (300 : Int) < (ln.length : Int) := by omega
        clear hC hg hz h1 h3 hn
        go_enter Tryz.func88, Tryz.ntmps88
        go_wp2_with (go_at_call 119; refine (HC.out _ (HG.out.below ((Below.refl _ _).alloc (Nat.le_refl _) _))).mono ?_; rintro e w' ⟨rfl, rfl⟩)
        go_ret
        exact ⟨rfl, by go_grown⟩
      · by_cases h4 : d ≠ []
        · rw [if_neg (by omega), if_neg (by omega), if_neg (by omega), if_neg hn, if_neg h3, if_pos h4]
          have h2 : (ln.length : Int) ≤ 300 := by omega
          have h5 : (0 : Int) < (d.length : Int) := pos_len _ h4
          clear hC hg hz h1 h3 h4 hn
          go_enter Tryz.func88, Tryz.ntmps88
          go_wp2_with (go_at_call 119; refine (HC.out _ (HG.out.below ((Below.refl _ _).alloc (Nat.le_refl _) _))).mono ?_; rintro e w' ⟨rfl, rfl⟩)
          go_ret
          exact ⟨rfl, by go_grown⟩
        · rw [if_neg (by omega), if_neg (by omega), if_neg (by omega), if_neg hn, if_neg h3, if_neg h4]
          have h2 : (ln.length : Int) ≤ 300 := by omega
          have h5 : (d.length : Int) ≤ 0 := zero_len _ h4
          clear hC hg hz h1 h3 h4 hn
          go_enter Tryz.func88, Tryz.ntmps88
          go_wp2_with (go_at_call 119; refine (HC.out _ (HG.out.below ((Below.refl _ _).alloc (Nat.le_refl _) _))).mono ?_; rintro e w' ⟨rfl, rfl⟩)
          go_ret
          exact ⟨rfl, by go_grown⟩
theorem memb_isKind (m : Member) (A : Option Addr) (c : Nat) (w : World) (ok : MbOk m) (hk : 1 ≤ m.kind ∧ m.kind ≤ 4) (hg : Glob w) : Calls Tryz.prog 88 #[mbV m A c] w fun e w' => e = .returned (.int .i64 (mAsk m)) ∧ Below w.heap.size w w' := by
  have hh : m.kind = 1 ∨ m.kind = 2 ∨ m.kind = 3 ∨ m.kind = 4 := by omega
  rcases hh with h | h | h | h
  · exact isKind_file m A c w ok h hg
  · exact isKind_hard m A c w ok h hg
  · exact isKind_sym m A c w ok h hg
  · exact isKind_dir m A c w ok h hg
end Go.Proofs.YtckgjbpgdpcnnaaGreatDoor
