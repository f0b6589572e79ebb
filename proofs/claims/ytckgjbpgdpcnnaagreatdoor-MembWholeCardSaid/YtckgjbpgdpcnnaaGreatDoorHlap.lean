/-
  THE PLAIN LAW OF head.Lay: what the ten fields lay is the header.
-/
import Derived.Test.YtckgjbpgdpcnnaaGreatDoorHlay
namespace Go.Proofs.YtckgjbpgdpcnnaaGreatDoor
set_option linter.all false
set_option linter.unusedVariables false
set_option linter.unusedSimpArgs false
open Go.RowKit Pl

def chainFold (L : List (Nat × Bs × Int)) (s : Int × Bs) : Int × Bs := L.foldl (fun s x => stepF s x.1 x.2.1 x.2.2) s
theorem fold_stays : ∀ (L : List (Nat × Bs × Int)) (s : Int × Bs), s.1 ≠ 0 → chainFold L s = s
  | [], s, _ => rfl
  | x :: L, s, h => by
    have e : stepF s x.1 x.2.1 x.2.2 = s := by unfold stepF; rw [if_neg h]
    show chainFold L (stepF s x.1 x.2.1 x.2.2) = s
    rw [e]
    exact fold_stays L s h
theorem fold_err : ∀ (L : List (Nat × Bs × Int)) (s : Int × Bs), s.1 = 0 → (chainFold L s).1 = firstE (L.map fun x => x.2.2)
  | [], s, h => by simpa [chainFold, firstE] using h
  | x :: L, s, h => by
    have e : stepF s x.1 x.2.1 x.2.2 = (x.2.2, splice s.2 x.1 x.2.1) := by unfold stepF; rw [if_pos h]
    show (chainFold L (stepF s x.1 x.2.1 x.2.2)).1 = _
    rw [e]
    by_cases hx : x.2.2 = 0
    · rw [fold_err L _ hx]
      unfold firstE
      simp [hx]
    · rw [fold_stays L _ hx]
      unfold firstE
      simp [hx]
theorem fold_ok : ∀ (L : List (Nat × Bs × Int)) (s : Int × Bs), s.1 = 0 → (∀ x ∈ L, x.2.2 = 0) → (chainFold L s).2 = L.foldl (fun l x => splice l x.1 x.2.1) s.2
  | [], s, _, _ => rfl
  | x :: L, s, h, hL => by
    have e : stepF s x.1 x.2.1 x.2.2 = (x.2.2, splice s.2 x.1 x.2.1) := by unfold stepF; rw [if_pos h]
    show (chainFold L (stepF s x.1 x.2.1 x.2.2)).2 = _
    rw [e, fold_ok L _ (hL x (by simp)) (fun y hy => hL y (by simp [hy]))]
    rfl
theorem firstE_zero (L : List Int) (h : firstE L = 0) : ∀ x ∈ L, x = 0 := by
  unfold firstE at h
  intro x hx
  cases hf : L.find? (· != 0) with
  | none =>
    have := List.find?_eq_none.1 hf x hx
    simpa using this
  | some y =>
    rw [hf] at h
    have := List.find?_some hf
    simp at h this
    exact absurd h this

theorem splice_parts (Ls : List Nat) (parts : List Bs) (hL : parts.map List.length = Ls) (i at_ : Nat) (r : Bs) (hi : Ls[i]? = some r.length) (hs : (Ls.take i).sum = at_) :
    splice parts.flatten at_ r = (parts.set i r).flatten ∧ (parts.set i r).map List.length = Ls := by
  subst hL
  rw [List.getElem?_map] at hi
  obtain ⟨x, hx, hx2⟩ := Option.map_eq_some_iff.1 hi
  obtain ⟨hlt, hx3⟩ := List.getElem?_eq_some_iff.1 hx
  refine ⟨splice_part parts i at_ r hlt (by rw [hx3]; exact hx2) hs, ?_⟩
  rw [List.map_set]
  apply List.ext_getElem?
  intro j
  rw [List.getElem?_set]
  split
  · next h => subst h; simp [hx2, hx3, hlt]
  · rfl

def chainL (h : Header) : List (Nat × Bs × Int) := [(345, sPut h.pre 155), (0, sPut h.name 100), (157, sPut h.link 100), (100, nPut h.meta_.mode 8), (108, nPut h.meta_.uid 8), (116, nPut h.meta_.gid 8), (124, nPut h.size 12), (136, nPut h.meta_.mtime 12), (329, nPut 0 8), (337, nPut 0 8)]
theorem chain_fold (h : Header) : chain h = chainFold (chainL h) (0, noughts 512) := rfl
theorem nPut0 : nPut 0 8 = ([48, 48, 48, 48, 48, 48, 48, 0], 0) := by decide +kernel
theorem chain_err (h : Header) : (chain h).1 = firstE [(sPut h.pre 155).2, (sPut h.name 100).2, (sPut h.link 100).2, (nPut h.meta_.mode 8).2, (nPut h.meta_.uid 8).2, (nPut h.meta_.gid 8).2, (nPut h.size 12).2, (nPut h.meta_.mtime 12).2] := by
  rw [chain_fold, fold_err _ _ rfl]
  unfold firstE chainL
  simp only [List.map_cons, List.map_nil, nPut0]
  rw [show ([(sPut h.pre 155).2, (sPut h.name 100).2, (sPut h.link 100).2, (nPut h.meta_.mode 8).2, (nPut h.meta_.uid 8).2, (nPut h.meta_.gid 8).2, (nPut h.size 12).2, (nPut h.meta_.mtime 12).2, 0, 0] : List Int) = [(sPut h.pre 155).2, (sPut h.name 100).2, (sPut h.link 100).2, (nPut h.meta_.mode 8).2, (nPut h.meta_.uid 8).2, (nPut h.meta_.gid 8).2, (nPut h.size 12).2, (nPut h.meta_.mtime 12).2] ++ [0, 0] from rfl, List.find?_append]
  simp
theorem sPut_len (t : Bs) (d : Nat) : (sPut t d).2 = 0 → (sPut t d).1.length = d := by
  unfold sPut
  split
  · intro h; exact absurd h (by decide)
  · split
    · intro h; exact absurd h (by decide)
    · intro _
      simp [noughts]
      omega
def partLens : List Nat := [100, 8, 8, 8, 12, 12, 8, 1, 100, 8, 64, 8, 8, 155, 12]
theorem set_splice (l : Bs) (i : Nat) (x : UInt8) (h : i < l.length) : l.set i x = splice l i [x] := by
  unfold splice
  rw [List.set_eq_take_append_cons_drop, if_pos h]
  rfl
set_option maxRecDepth 100000 in
theorem chain_ok (h : Header) (he : (chain h).1 = 0) : splice ((chain h).2.set 156 h.type) 257 ustar =
    (sPut h.name 100).1 ++ (nPut h.meta_.mode 8).1 ++ (nPut h.meta_.uid 8).1 ++ (nPut h.meta_.gid 8).1 ++ (nPut h.size 12).1 ++ (nPut h.meta_.mtime 12).1
        ++ noughts 8 ++ [h.type] ++ (sPut h.link 100).1 ++ ustar ++ noughts 64 ++ (nPut 0 8).1 ++ (nPut 0 8).1 ++ (sPut h.pre 155).1 ++ noughts 12 ∧ (chain h).2.length = 512 := by
  have hz := firstE_zero _ (by rw [← chain_err]; exact he)
  have hall : ∀ x ∈ chainL h, x.2.2 = 0 := by
    intro x hx
    have h00 : (nPut 0 8).2 = 0 := by rw [nPut0]
    unfold chainL at hx
    simp only [List.mem_cons, List.not_mem_nil, or_false] at hx
    rcases hx with rfl | rfl | rfl | rfl | rfl | rfl | rfl | rfl | rfl | rfl
    all_goals first | exact h00 | exact hz _ (by simp)
  have e : (chain h).2 = (chainL h).foldl (fun l x => splice l x.1 x.2.1) (noughts 512) := by rw [chain_fold, fold_ok _ _ rfl hall]
  have lp := sPut_len h.pre 155 (hz _ (by simp))
  have ln := sPut_len h.name 100 (hz _ (by simp))
  have lk := sPut_len h.link 100 (hz _ (by simp))
  have nl : ∀ (n : Int) (d : Nat), (d = 8 ∨ d = 12) → (nPut n d).2 = 0 → (nPut n d).1.length = d := fun n d hd h0 => by
    rcases nPut_len n d hd with h | h
    · exact h.2
    · exact absurd h0 h.1
  have lm := nl h.meta_.mode 8 (by omega) (hz _ (by simp))
  have lu := nl h.meta_.uid 8 (by omega) (hz _ (by simp))
  have lg := nl h.meta_.gid 8 (by omega) (hz _ (by simp))
  have lz := nl h.size 12 (by omega) (hz _ (by simp))
  have lt := nl h.meta_.mtime 12 (by omega) (hz _ (by simp))
  have l0 := nl 0 8 (by omega) (by rw [nPut0])
  clear hz hall nl
  obtain ⟨ty, hty⟩ : ∃ ty, h.type = ty := ⟨_, rfl⟩
  unfold chainL at e
  simp only [List.foldl_cons, List.foldl_nil] at e
  generalize (sPut h.pre 155).1 = p at *
  generalize (sPut h.name 100).1 = n at *
  generalize (sPut h.link 100).1 = k at *
  generalize (nPut h.meta_.mode 8).1 = m at *
  generalize (nPut h.meta_.uid 8).1 = u at *
  generalize (nPut h.meta_.gid 8).1 = g at *
  generalize (nPut h.size 12).1 = z at *
  generalize (nPut h.meta_.mtime 12).1 = t at *
  generalize (nPut 0 8).1 = o at *
  have hP0 : noughts 512 = (partLens.map noughts).flatten := by decide +kernel
  obtain ⟨e1, k1⟩ := splice_parts partLens (partLens.map noughts) (by decide +kernel) 13 345 p (by rw [lp]; rfl) rfl
  obtain ⟨e2, k2⟩ := splice_parts partLens _ k1 0 0 n (by rw [ln]; rfl) rfl
  obtain ⟨e3, k3⟩ := splice_parts partLens _ k2 8 157 k (by rw [lk]; rfl) rfl
  obtain ⟨e4, k4⟩ := splice_parts partLens _ k3 1 100 m (by rw [lm]; rfl) rfl
  obtain ⟨e5, k5⟩ := splice_parts partLens _ k4 2 108 u (by rw [lu]; rfl) rfl
  obtain ⟨e6, k6⟩ := splice_parts partLens _ k5 3 116 g (by rw [lg]; rfl) rfl
  obtain ⟨e7, k7⟩ := splice_parts partLens _ k6 4 124 z (by rw [lz]; rfl) rfl
  obtain ⟨e8, k8⟩ := splice_parts partLens _ k7 5 136 t (by rw [lt]; rfl) rfl
  obtain ⟨e9, k9⟩ := splice_parts partLens _ k8 11 329 o (by rw [l0]; rfl) rfl
  obtain ⟨e10, k10⟩ := splice_parts partLens _ k9 12 337 o (by rw [l0]; rfl) rfl
  obtain ⟨e11, k11⟩ := splice_parts partLens _ k10 7 156 [ty] rfl rfl
  obtain ⟨e12, k12⟩ := splice_parts partLens _ k11 9 257 ustar rfl rfl
  rw [hP0, e1, e2, e3, e4, e5, e6, e7, e8, e9, e10] at e
  have hlen : (chain h).2.length = 512 := by
    rw [e, List.length_flatten, k10]
    rfl
  refine ⟨?_, hlen⟩
  rw [set_splice _ _ _ (by rw [hlen]; omega), e, hty, e11, e12]
  simp [partLens, List.set]
theorem head_Lay (h : Header) (hh : HdOk h) (w : World) (hg : Glob w) :
    Calls Tryz.prog 60 #[hdV h] w fun e w' => ∃ v, e = .returned (.tuple #[v, .int .i64 (hdLay h).2]) ∧ w'.ownsRow w.heap.size 5 1 v (hdLay h).1.length (bcs (hdLay h).1) ∧ Below w.heap.size w w' := by
  by_cases ht : isType h.type = true
  · by_cases he : (chain h).1 = 0
    · by_cases hb : hdBelow h = true
      · have hr : hdLay h = ([], 10) := by
          unfold hdLay
          rw [ht, ← chain_err, he]
          unfold hdBelow at hb
          rw [decide_eq_true_eq] at hb
          simp [hb]
        rw [hr]
        exact (hlay_big h hh w hg ht he hb).mono fun e w' ⟨h1, h2⟩ => ⟨_, h1, World.ownsRow_nil _ _ _ _, h2⟩
      · have hb2 : hdBelow h = false := by simpa using hb
        have hr : hdLay h = (hPut (splice ((chain h).2.set 156 h.type) 257 ustar), 0) := by
          rw [(chain_ok h he).1]
          unfold hdLay
          rw [ht, ← chain_err, he]
          unfold hdBelow at hb2
          rw [decide_eq_false_iff_not] at hb2
          simp only [Bool.not_true, Bool.false_eq_true, ↓reduceIte, ne_eq, not_true_eq_false, hb2]
        have hl : (hPut (splice ((chain h).2.set 156 h.type) 257 ustar)).length = 512 := by
          have h1 : (splice ((chain h).2.set 156 h.type) 257 ustar).length = 512 := by
            have hu : ustar.length = 8 := rfl
            rw [length_splice _ _ _ (by rw [List.length_set, (chain_ok h he).2, hu]; omega), List.length_set, (chain_ok h he).2]
          unfold hPut
          simp only [List.length_append, List.length_take, List.length_drop, octs_len, h1]
          rfl
        rw [hr]
        simp only [hl]
        exact (hlay_ok h hh w hg ht he hb2)
    · have hr : hdLay h = ([], (chain h).1) := by
        rw [chain_err] at he ⊢
        unfold hdLay
        rw [ht]
        simp [he]
      rw [hr]
      exact (hlay_err h hh w hg ht he).mono fun e w' ⟨h1, h2⟩ => ⟨_, h1, World.ownsRow_nil _ _ _ _, h2⟩
  · have ht2 : isType h.type = false := by simpa using ht
    have hr : hdLay h = ([], 11) := by unfold hdLay; rw [ht2]; rfl
    rw [hr]
    exact (hlay_kind h w ht2).mono fun e w' ⟨h1, h2⟩ => ⟨_, h1, World.ownsRow_nil _ _ _ _, h2⟩
end Go.Proofs.YtckgjbpgdpcnnaaGreatDoor
