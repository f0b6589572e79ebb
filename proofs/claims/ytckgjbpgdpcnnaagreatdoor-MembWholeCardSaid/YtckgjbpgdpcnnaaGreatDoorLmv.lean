/-
  What is laid of a member (plain law); thwartlaw08: far, theirs.
-/
import Derived.Test.YtckgjbpgdpcnnaaGreatDoorPureF
import Derived.Test.YtckgjbpgdpcnnaaGreatDoorAlv
namespace Go.Proofs.YtckgjbpgdpcnnaaGreatDoor.Pl
set_option linter.all false
set_option linter.unusedVariables false
set_option linter.unusedSimpArgs false

/-- What is laid ahead of a member's own header. -/
def mPre (m : Member) : Bs := if mRecs m = [] then [] else (hdLay (paxHd (rLay (mRecs m)).1.length)).1 ++ bFill (rLay (mRecs m)).1
theorem bFill_length (l : Bs) : (bFill l).length = l.length + bPad l.length := by
  unfold bFill
  simp [noughts]
theorem bFill_own (l : Bs) : (bFill l).length = (l.length + 511) / 512 * 512 := by
  rw [bFill_length]
  unfold bPad
  omega
theorem mPre_len (m : Member) (f : May m) : (mPre m).length % 512 = 0 ∧ (mRecs m = [] → (mPre m).length = 0) ∧ (mRecs m ≠ [] → 512 ≤ (mPre m).length) := by
  unfold mPre
  split
  · rename_i e
    exact ⟨rfl, fun _ => rfl, fun h => absurd e h⟩
  · rename_i e
    have h1 := hdLay_len _ (hdLay_ok _ (paxHd_fits (rLay (mRecs m)).1.length))
    have h2 := bFill_own (rLay (mRecs m)).1
    rw [List.length_append, h1, h2]
    exact ⟨by omega, fun h => absurd h e, fun _ => by omega⟩
theorem mLay_parts (m : Member) (h : mMay m = 0) : (mLay m).1 = mPre m ++ (hdLay (mHeader m)).1 ++ bFill m.data ∧ (mLay m).2 = 0 ∧ (hdLay (mHeader m)).1.length = 512 := by
  rw [mLay_eq m h]
  exact ⟨rfl, rfl, hdLay_len _ (hdLay_ok _ (mHeader_fits m (mMay_facts m h)))⟩
theorem whole_cut (P H F : Bs) (h : H.length = 512) : ((P ++ H ++ F).drop P.length).take 512 = H := by
  rw [List.append_assoc, List.drop_left, ← h, List.take_left]
theorem whole_data (P H F : Bs) (k : Nat) (h : H.length = 512) : ((P ++ H ++ F).drop (P.length + 512)).take k = F.take k := by
  have : P.length + 512 = (P ++ H).length := by rw [List.length_append, h]
  rw [this, List.drop_left]
theorem bFill_take (l : Bs) : (bFill l).take l.length = l := by
  unfold bFill
  rw [List.take_left]
end Go.Proofs.YtckgjbpgdpcnnaaGreatDoor.Pl
namespace Go.Proofs.YtckgjbpgdpcnnaaGreatDoor
set_option linter.all false
set_option linter.unusedVariables false
set_option linter.unusedSimpArgs false
open Go.RowKit Pl
attribute [local go_sem] st_toList st_size

theorem theirs08_results (tmps : Array Value) (w : World) (b : Nat) (a0 a1 a2 a3 a4 a5 a6 a7 : Value) (h2 : tmps.getD 2 undef = .pointer (some ⟨b, 0, none⟩)) (h : Cel w b #[a0, a1, a2, a3, a4, a5, a6, a7] 38) :
    (results Tryz.f18 tmps).run Tryz.prog w = .ok (.agg #[a0, a1, a2, a3, a4, a5, a6, a7]) w := by
  have d0 := h.cell 0 a0 rfl
  have d1 := h.cell 1 a1 rfl
  have d2 := h.cell 2 a2 rfl
  have d3 := h.cell 3 a3 rfl
  have d4 := h.cell 4 a4 rfl
  have d5 := h.cell 5 a5 rfl
  have d6 := h.cell 6 a6 rfl
  have d7 := h.cell 7 a7 rfl
  have h3 : tmps[2]?.getD undef = .pointer (some ⟨b, 0, none⟩) := by rw [← h2]; simp
  simp [results, Tryz.results18, h3, d0, d1, d2, d3, d4, d5, d6, d7, go_sem]
set_option maxRecDepth 100000 in
set_option maxHeartbeats 4000000 in
theorem theirs08 (m : Member) (A : Option Addr) (c : Nat) (w : World) : Calls Tryz.prog 18 #[mbV m A c] w fun e w' => e = .returned (mbV m A c) ∧ Below w.heap.size w w' := by
  obtain ⟨p, k, ⟨mo, u, g, t⟩, ln, d⟩ := m
  unfold mbV
  simp only []
  go_enter Tryz.func18, Tryz.ntmps18
  go_wp2
  have hc := Cel.new (w.alloc (.cells #[.string (st p), .int .i64 k, .int .i64 mo, .int .i64 u, .int .i64 g, .int .i64 t, .string (st ln), .slice A d.length c] 45)) #[.string (st p), .int .i64 k, .int .i64 mo, .int .i64 u, .int .i64 g, .int .i64 t, .string (st ln), .slice A d.length c] 38
  rw [World.size_alloc] at hc
  refine bodyPost_ret (theirs08_results _ _ (w.heap.size + 1) _ _ _ _ _ _ _ _ (by rfl) hc) rfl ?_
  exact ⟨rfl, ((Below.refl w.heap.size w).alloc (Nat.le_refl _) _).alloc (by simp) _⟩
set_option maxRecDepth 100000 in
theorem far08 (m : Member) (A : Option Addr) (c : Nat) (w : World) : Calls Tryz.prog 20 #[mbV m A c] w fun e w' => e = .returned (.bool (decide (600 < m.path.length ∨ 600 < m.link.length ∨ 5000 < m.data.length))) ∧ Below w.heap.size w w' := by
  obtain ⟨R, hR⟩ : ∃ R, decide (600 < m.path.length ∨ 600 < m.link.length ∨ 5000 < m.data.length) = R := ⟨_, rfl⟩
  rw [hR]
  obtain ⟨p, k, ⟨mo, u, g, t⟩, ln, d⟩ := m
  simp only [] at hR
  have HR := Lib.hid hR
  unfold mbV
  simp only []
  have hb : ∀ o, Below w.heap.size w (w.alloc o) := fun o => (Below.refl _ _).alloc (Nat.le_refl _) o
  have HB := Lib.hid hb
  by_cases h1 : 600 < p.length
  · have e1 : decide ((600 : Int) < (p.length : Int)) = true := by simp; omega
    have hT : R = true := by rw [← hR]; simp [h1]
    subst hT
    clear hR HR hb h1
    go_enter Tryz.func20, Tryz.ntmps20
    go_wp2
    go_ret
    exact ⟨rfl, HB.out _⟩
  · have e1 : decide ((600 : Int) < (p.length : Int)) = false := by simp; omega
    by_cases h2 : 600 < ln.length
    · have e2 : decide ((600 : Int) < (ln.length : Int)) = true := by simp; omega
      have hT : R = true := by rw [← hR]; simp [h2]
      subst hT
      clear hR HR hb h1 h2
      go_enter Tryz.func20, Tryz.ntmps20
      go_wp2
      go_ret
      exact ⟨rfl, HB.out _⟩
    · have e2 : decide ((600 : Int) < (ln.length : Int)) = false := by simp; omega
      by_cases h3 : 5000 < d.length
      · have e3 : decide ((5000 : Int) < (d.length : Int)) = true := by simp; omega
        have hT : R = true := by rw [← hR]; simp [h3]
        subst hT
        clear hR HR hb h1 h2 h3
        go_enter Tryz.func20, Tryz.ntmps20
        go_wp2
        go_ret
        exact ⟨rfl, HB.out _⟩
      · have e3 : decide ((5000 : Int) < (d.length : Int)) = false := by simp; omega
        have hT : R = false := by rw [← hR]; simp; omega
        subst hT
        clear hR HR hb h1 h2 h3
        go_enter Tryz.func20, Tryz.ntmps20
        go_wp2
        go_ret
        exact ⟨rfl, HB.out _⟩
end Go.Proofs.YtckgjbpgdpcnnaaGreatDoor
