/-
  RANGES OVER A FUNCTION whose iterator keeps its state in a cell (strings.SplitSeq), or reads memory (slices.Backward).
-/
import Derived.RangeFuncNested
import Derived.RangeFuncBound
import Derived.RangeFuncCalls
import Derived.RangeFuncLeaves
import Derived.RangeFuncBox
import Derived.Shelf.Abstract
import Derived.Shelf.RegionOpen
import Derived.WalkKit
import Derived.OwnWalkIn
import Derived.TacticsInMore
import Derived.LoopNIn
import Derived.LoopIn
import Derived.Test.YtckgjbpgdpcnnaaGreatDoorStrg
import Derived.Test.YtckgjbpgdpcnnaaGreatDoorPureF
namespace Go.Proofs.YtckgjbpgdpcnnaaGreatDoor
set_option linter.all false
set_option linter.unusedVariables false
set_option linter.unusedSimpArgs false
open Go.RowKit Pl

/-- The contract of an iterator that keeps its state in the cell of block Bs: whatever J is abides its stores there. -/
def SeqSt {α : Type} (F : Fence) (n : Nat) (P : Program) (g : Nat) (lb : Array Value) (encs : α → Array Value) (Kp : World → World → Prop) (S Sp : List α → Prop) (Z : List α) (w : World) (Bs : Nat) : Prop :=
  ∀ (l : Nat) (J Jx : List α → World → Prop) (W : World), Below w.heap.size w W → AbidesFrom W.heap.size J → AbidesFrom W.heap.size Jx → (∀ s W1 v, J s W1 → J s (W1.setCell ⟨Bs, 0, none⟩ v)) →
    (∀ pre x W1, J pre W1 → pre ++ [x] <+: Z → YieldAt F (n - 1) P l (encs x) W1 fun e W' =>
      (e = .returned (.bool true) ∧ J (pre ++ [x]) W' ∧ Kp W1 W') ∨ (e = .returned (.bool false) ∧ Jx (pre ++ [x]) W')) →
    J [] W →
    CallsIn F n P g (#[.func (.yield l) #[] #[]] ++ lb) W fun e W' => (∃ v, e = .returned v) ∧ ((∃ xs, S xs ∧ J xs W') ∨ (∃ pre, Sp pre ∧ Jx pre W'))

theorem other_set {W : World} {k b : Nat} {o : Obj} (h : W.heap[k]? = some o) (hb : k ≠ b) (v : Value) : (W.setCell ⟨b, 0, none⟩ v).heap[k]? = some o := (Below.heap_setCell W ⟨b, 0, none⟩ v k hb).trans h

variable {F : Fence} {n : Nat} {P : Program}
/-- The statement 'for x := range seq' over such an iterator. -/
theorem rangeFunc_st {α : Type} {g : Operand} {ps : Array Tmp} {assign body : Code} {Q : Exit → Act → World → Prop} {a : Act} {w : World}
    (hro : F.round = none) (h1 : 1 ≤ n) {gf : Nat} {lb : Array Value} (hg : a.eval g = .func (.func gf) #[] lb) (hFg : F.fn gf) (eg : ∀ args w, (callFunc gf args).run P w = .ok (.enter gf args) w)
    {encs : α → Array Value} {Kp : World → World → Prop} {S Sp : List α → Prop} {Z : List α} {Bs : Nat} (hseq : SeqSt F (n - 1) P gf lb encs Kp S Sp Z w Bs) (hBs : Bs < w.heap.size)
    (hKt : ∀ {A B C : World}, Kp A B → Kp B C → Kp A C) (hKb : ∀ (W : World) (l : Nat) (o' : Obj), w.heap.size ≤ l → Kp W (W.putObj l o')) (hps : ∀ x, (encs x).size = ps.size)
    (I : List α → World → Prop) (Ix : List α → World → Prop) (hI : OwnFrom w.heap.size I) (hIx : OwnFrom w.heap.size Ix) (hIs : ∀ s W v, I s W → I s (W.setCell ⟨Bs, 0, none⟩ v)) (h0 : I [] w) (a₁ : α → Act)
    (hassign : ∀ (l : Nat) (x : α) (W : World) (K : Act → World → Prop), K (a₁ x) W →
      assign.wpIn (F.inRound l) (n - 1 - 1) P (Exit.then K (fun _ _ _ => False)) { tmps := (ps.zip (encs x)).foldl (fun t (p, v) => t.setIfInBounds p v) a.tmps, defers := [] } W)
    (hbody : ∀ (l : Nat) (pre : List α) (x : α) (W : World), I pre W → pre ++ [x] <+: Z → body.wpIn (F.inRound l) (n - 1 - 1) P (ownPostK Kp I (fun c xs W' => c = .ret ∧ Ix xs W') (pre ++ [x]) W) (a₁ x) W)
    (hdone : ∀ (D : Nat) (xs : List α) (W : World), w.heap.size ≤ D → S xs → I xs W → W.heap[D]? = some (.deferred (some [])) → Q .normal { a with defers := { target := .collected D, args := #[] } :: a.defers } W)
    (hstop : ∀ (D : Nat) (pre : List α) (W : World), w.heap.size ≤ D → Sp pre → Ix pre W → W.heap[D]? = some (.deferred (some [])) → Code.ret.wpIn F n P Q { a with defers := { target := .collected D, args := #[] } :: a.defers } W) :
    (Code.rangeFunc g ps assign body).wpIn F n P Q a w := by
  refine wpIn_rangeFunc fun fn hfn => ?_
  rw [hro]
  obtain ⟨R, hR⟩ : ∃ R : LoopState → Option Code → Loop, R = fun s p => { state := s, pending := p, fn, tmps := a.tmps, params := ps, assign, body, defers := w.heap.size } := ⟨_, rfl⟩
  obtain ⟨D, hD⟩ : ∃ D, w.heap.size = D := ⟨_, rfl⟩
  obtain ⟨L, hL⟩ : ∃ L, w.heap.size + 1 = L := ⟨_, rfl⟩
  obtain ⟨U, hU⟩ : ∃ U, (w.alloc (.deferred (some []))).alloc (.loop (R .ready none)) = U := ⟨_, rfl⟩
  have uL : U.heap[L]? = some (.loop (R .ready none)) := by
    have := World.alloc_heap_new (w.alloc (.deferred (some []))) (.loop (R .ready none))
    rw [World.size_alloc, hL, hU] at this
    exact this
  have uD : U.heap[D]? = some (.deferred (some [])) := by
    rw [← hU, ← hD]
    exact (Below.heap_alloc _ _ _ (by simp)).trans (World.alloc_heap_new w _)
  have uI : I [] U := by rw [← hU]; exact hI.alloc _ (hI.alloc _ h0)
  have uS : U.heap.size = w.heap.size + 2 := by rw [← hU]; simp
  have uB : Below w.heap.size w U := by rw [← hU]; exact ((Below.refl _ w).alloc (Nat.le_refl _) _).alloc (by simp) _
  refine ⟨L, [{ target := .collected D, args := #[] }], U, { target := .fn (.func gf) lb, args := #[.func (.yield L) #[] #[]] }, U, gf, #[.func (.yield L) #[] #[]] ++ lb, U, ?_, ?_, ?_, ?_, fun _ => h1, ?_⟩
  · rw [← hU, hR, ← hL, ← hD]; exact run_enterLoop_outer _ _ _ _ _
  · simp only [resolve, hg]
    simp [go_sem]
  · intro f' hf'
    simp [Target.leads] at hf'
    subst hf'
    exact hFg
  · simp [invoke, go_sem, eg]
  have turn : ∀ {A : World} {row : Option Nat}, (∀ r, row = some r → U.heap.size ≤ r ∧ ∃ o : Obj, A.heap[r]? = some o ∧ o.isWalk = true) → ∀ r, row = some r → w.heap.size ≤ r ∧ ∃ o : Obj, A.heap[r]? = some o ∧ o.isCells = false := fun h r e => by
    obtain ⟨h1, o, ho, hw⟩ := h r e
    exact ⟨by omega, o, ho, Obj.not_cells_of_walk hw⟩
  refine (hseq L (fun s W => I s W ∧ W.heap[L]? = some (.loop (R .ready none)) ∧ W.heap[D]? = some (.deferred (some []))) (fun s W => Ix s W ∧ W.heap[L]? = some (.loop (R .done (some .ret))) ∧ W.heap[D]? = some (.deferred (some []))) U uB
    (fun s A B row h hg' hr => ⟨hI s A B row h.1 hg' (turn hr), (grownBy_keeps hg' (fun r e => (hr r e).2) h.2.1 rfl).trans h.2.1, (grownBy_keeps hg' (fun r e => (hr r e).2) h.2.2 rfl).trans h.2.2⟩)
    (fun s A B row h hg' hr => ⟨hIx s A B row h.1 hg' (turn hr), (grownBy_keeps hg' (fun r e => (hr r e).2) h.2.1 rfl).trans h.2.1, (grownBy_keeps hg' (fun r e => (hr r e).2) h.2.2 rfl).trans h.2.2⟩)
    (fun s A v h => ⟨hIs s A v h.1, other_set h.2.1 (by omega) v, other_set h.2.2 (by omega) v⟩) ?_ ⟨uI, uL, uD⟩).mono ?_
  · rintro pre x W ⟨wI, wL, wD⟩ hN
    have hlt : L < W.heap.size := (Array.getElem?_eq_some_iff.1 wL).1
    have hy := run_yield (P := P) (args := encs x) wL (by rw [hR]; exact hps x)
    rw [hR] at hy
    refine ⟨fn, _, assign, body, hy, roundIn_of_wpIn hfn (hassign _ x W _ ⟨_, run_beginRound wL (by rw [hR]), ?_⟩)⟩
    obtain ⟨V, hV⟩ : ∃ V, W.putObj L (.loop { R .ready none with state := .busy }) = V := ⟨_, rfl⟩
    have vL : V.heap[L]? = some (.loop { R .ready none with state := .busy }) := by rw [← hV]; exact World.putObj_heap_same hlt
    have vD : V.heap[D]? = some (.deferred (some [])) := by rw [← hV]; exact (World.putObj_heap_other (by omega)).trans wD
    have vI : I pre V := by rw [← hV]; exact hI.putObj _ wI (by omega) wL rfl
    have vK : Kp W V := by rw [← hV]; exact hKb _ _ _ (by omega)
    rw [hV]
    refine wpIn_mono (hbody L pre x V vI hN) ?_
    have fin : ∀ (jump : Option Code) (X : World), KeepsOthers V X → (Instr.endRound L jump).run P X = .ok (.bool jump.isNone) (X.putObj L (.loop (R (if jump.isNone then .ready else .done) jump))) ∧ X.heap[L]? = some (.loop { R .ready none with state := .busy }) ∧
        (X.putObj L (.loop (R (if jump.isNone then .ready else .done) jump))).heap[L]? = some (.loop (R (if jump.isNone then .ready else .done) jump)) ∧ (X.putObj L (.loop (R (if jump.isNone then .ready else .done) jump))).heap[D]? = some (.deferred (some [])) := fun jump X hX => by
      have xL := hX.same _ _ vL rfl
      have hr := run_endRound (P := P) jump xL
      rw [hR] at hr ⊢
      exact ⟨hr, by rw [hR] at xL; exact xL, World.putObj_heap_same (Array.getElem?_eq_some_iff.1 xL).1, (World.putObj_heap_other (by omega)).trans (hX.same _ _ vD rfl)⟩
    rintro e a3 X hp
    cases e with
    | normal =>
      obtain ⟨hX, hKX, hIX⟩ := hp
      obtain ⟨q1, q2, q3, q4⟩ := fin none X hX
      exact ⟨_, _, q1, .inl ⟨rfl, ⟨hI.putObj _ hIX (by omega) q2 rfl, q3, q4⟩, hKt (hKt vK hKX) (hKb _ _ _ (by omega))⟩⟩
    | ret =>
      obtain ⟨hX, _, hIX⟩ := hp
      obtain ⟨q1, q2, q3, q4⟩ := fin (some .ret) X hX
      exact ⟨_, _, q1, .inr ⟨rfl, hIx.putObj _ hIX (by omega) q2 rfl, q3, q4⟩⟩
    | exit id => exact absurd hp.2.1 (by simp)
    | goto t => exact absurd hp.2.1 (by simp)
    | panic ch => exact hp.elim
    | outgrown => exact hp.elim
  · rintro e X ⟨⟨v, rfl⟩, (⟨xs, hS, hIX, xL, xD⟩ | ⟨pre, hSp, hIX, xL, xD⟩)⟩
    · exact ⟨none, _, by have := run_endLoop (P := P) xL (by rw [hR]; simp); rw [hR] at this; exact this, by rw [← hD]; exact hdone _ xs _ (Nat.le_refl _) hS (hI.putObj _ hIX (by omega) xL rfl) (by rw [hD]; exact (World.putObj_heap_other (by omega)).trans xD)⟩
    · exact ⟨some .ret, _, by have := run_endLoop (P := P) xL (by rw [hR]; simp); rw [hR] at this; exact this, by rw [← hD]; exact hstop _ pre _ (Nat.le_refl _) hSp (hIx.putObj _ hIX (by omega) xL rfl) (by rw [hD]; exact (World.putObj_heap_other (by omega)).trans xD)⟩
end Go.Proofs.YtckgjbpgdpcnnaaGreatDoor
