/-
  What every row of this seat shares: the listed variables give what the walks ask; a member, a row of bytes that come in, opened.
-/
import Derived.Test.YtckgjbpgdpcnnaaGreatDoorTie
import Derived.Test.YtckgjbpgdpcnnaaGreatDoorLibs
import Derived.ProofKit
import Derived.OpenShut
import Derived.LaidMore
import Derived.Lay
import Derived.SevenTiedAt
import Derived.Stop.Joined
import Derived.Stop.LaidErr
import Derived.Shelf.Vars
import Derived.Lib.LaidTab
import Derived.Test.YtckgjbpgdpcnnaaGreatDoorMbb
namespace Go.Proofs.YtckgjbpgdpcnnaaGreatDoor
set_option linter.all false
set_option linter.unusedVariables false
set_option linter.unusedSimpArgs false
open Go.ChangeShapes Go.WideShapes Go.ChangeAt Go.RowKit

theorem ownKnob_none : ownKnob Tryz.prog.godebug = none := by kernel_rfl
theorem laidOutB_ok : laidOutB Tryz.prog = true := by kernel_rfl
noncomputable def laidL : List (String × DataW Unit) := [("math/bits.deBruijn32tab", Rows.laid_math_bits_deBruijn32tab), ("math/bits.deBruijn64tab", Rows.laid_math_bits_deBruijn64tab), ("internal/strconv.uint64pow10", Rows.laid_internal_strconv_uint64pow10), ("unicode/utf8.acceptRanges", Rows.laid_unicode_utf8_acceptRanges), ("unicode/utf8.first", Rows.laid_unicode_utf8_first)]
theorem pow10_data : (Rows.laid_internal_strconv_uint64pow10 : DataW Unit) = Lib.tabData .u64 Lib.pow10Tab := by rfl
theorem maxLen_some {W : World} (h : W.ShapedOpen Tryz.prog) : ∃ m : Int, W.cell? ⟨0, 0, none⟩ = some (.int .i64 m) :=
  cell_of_shapedOpen_int (t := 3) (zero := #[.int .i64 0]) h (of_decide_eq_true (by kernel_rfl)) (by kernel_rfl) rfl (by kernel_rfl) (by kernel_rfl) Tryz.underlying3
theorem glob_of {W : World} (h : laidMetH Tryz.prog laidL W) (hs : W.ShapedOpen Tryz.prog) : Glob W := by
  rw [MakeChecks.laidMetH_plain _ _ _ (by kernel_rfl)] at h
  have h3 := laidMet.tail (laidMet.tail h)
  rw [pow10_data] at h3
  have ht : Lib.TabIs Tryz.prog W "internal/strconv.uint64pow10" .u64 Lib.pow10Tab := Lib.tabIs_of_head (t := 253) (e := 233) (n := 20) tab_named (by kernel_rfl) Tryz.underlying253 Tryz.underlying233 (by kernel_rfl) (by kernel_rfl) h3
  exact ⟨maxLen_some hs, ht, World.block_lt_of_cell? W _ (Lib.TabIs.cell ht tab_named 0 (by rw [Lib.pow10Tab_length]; decide))⟩
/-- The wrap that keeps both the condition and the shape. -/
theorem returns_laid {H : Type} {enc : TypeId × Value → H} {a : Assume} {C : Checked} {os : Os} {f : FuncId} {fn : Func} {s : ChangeSpec} {conds : List PathCond} {apart fresh handsOn again : Bool} {l : List (String × DataW Unit)}
    (own : ownKnob C.prog.godebug = none) (started : os.Started) (noInit : C.prog.inits.idxOf? f = none) (hfn : C.prog.funcs[f]? = some fn)
    (witness : ∃ (w : World) (tape : Tape) (i : Input), w.os = os ∧ (w.forCall tape i).Shaped C.prog ∧ i.vars = [] ∧ Input.okWide C.prog (w.forCall tape i) .any w.heap.size f i ∧
      ((s.pre enc C.prog fn conds apart (w.forCall tape i).memory i.args ∧ laidMetH C.prog l (w.forCall tape i).memory) ∧ sizedMet enc C.prog fn (OpenSpec.ofChange s) apart (w.forCall tape i).memory i.args) ∧ a.holds C.prog (lone (Frame.enter C.prog f i.args .normal) [] (w.forCall tape i)))
    (contract : ∀ (W : World) (base : Nat) (args : Array Value) (ds gs : List (DataW H)) (before : List MemPlace),
      (∀ (j : Nat) t v, fn.params[j]? = some t → args[j]? = some v → Value.okWide C.prog W .any base t v) →
      DataW.Whole enc C.prog fn.params.toList s.vars apart W args.toList ds gs before →
      (DataW.weightsEach C.prog (fn.params.toList ++ s.plain.varTypes C.prog) (ds ++ gs)).all (· ≤ reachBytes) = true →
      laidMetH C.prog l W → W.ShapedOpen C.prog →
      Calls C.prog f args W fun e W' => ∃ v, e = .returned v ∧ s.post enc C.prog fn apart fresh handsOn again W args v W') :
    ReturnsInHanded a C os f .any (fun w args => (s.pre enc C.prog fn conds apart w args ∧ laidMetH C.prog l w) ∧ sizedMet enc C.prog fn (OpenSpec.ofChange s) apart w args) (s.post enc C.prog fn apart fresh handsOn again) := by
  refine returnsInHanded_of_calls own started noInit witness ?_
  intro w tape i _ hsh _ hok hpre _
  obtain ⟨_, _, _, fn', hfn', _, _, _, _, hval⟩ := hok
  have e : fn' = fn := Option.some.inj (hfn'.symm.trans hfn)
  subst e
  obtain ⟨⟨⟨ds, gs, before, hw, _⟩, hx⟩, hz⟩ := hpre
  have hw' := DataW.Whole.of_heap (w' := w.forCall tape i) (by rfl) hw
  refine (contract (w.forCall tape i) w.heap.size i.args ds gs before hval hw' (hz.weights hw) (laidMetH.of_heap (by rfl) hx) hsh).mono fun e W' ⟨v, he, hp⟩ => ?_
  subst he
  exact ChangeSpec.post_blind hp
theorem laid_witness (os : Os) (args : Array Value) : laidMetH Tryz.prog laidL ((World.laidAll Tryz.prog os laidL).forCall (fun _ _ => 0) ⟨#[], args, []⟩).memory := by
  rw [MakeChecks.laidMetH_plain _ _ _ (by kernel_rfl)]
  exact laidMet_laidAll _ (by kernel_rfl) (by kernel_rfl)
end Go.Proofs.YtckgjbpgdpcnnaaGreatDoor
namespace Go.Proofs.YtckgjbpgdpcnnaaGreatDoor
set_option linter.all false
set_option linter.unusedVariables false
set_option linter.unusedSimpArgs false
open Go.ChangeShapes Go.WideShapes Go.ChangeAt Go.RowKit Pl

theorem i64_wf {x : Int} (h : (Lit.int .i64 x).wf = true) : i64 x := by
  have h1 : IntKind.i64.min = -9223372036854775808 := rfl
  have h2 : IntKind.i64.max = 9223372036854775807 := rfl
  simp only [Lit.wf, Bool.and_eq_true, decide_eq_true_eq] at h
  constructor <;> (show _ ≤ _) <;> omega
theorem u8_wf {x : Int} (h : (Lit.int .u8 x).wf = true) : 0 ≤ x ∧ x < 256 := by
  have h1 : IntKind.u8.min = 0 := rfl
  have h2 : IntKind.u8.max = 255 := rfl
  simp only [Lit.wf, Bool.and_eq_true, decide_eq_true_eq] at h
  omega
theorem cells5_one : Tryz.prog.cellsOf 5 = 1 := by kernel_rfl
section
variable {H : Type} {enc : TypeId × Value → H}
/-- A row of bytes that came in. -/
theorem open_row {W : World} {fuel : Nat} {v : Value} {x : DataW H × List MemPlace} (h : DataW.trod enc Tryz.prog W 0 (fun _ => true) true fuel 31 [v] = some x) :
    ∃ (A : Option Addr) (l : Bs) (c : Nat), v = .slice A l.length c ∧ Rd W A l := by
  rcases open_ints Tryz.underlying31 Tryz.underlying5 cells5_one h with ⟨hcs, _⟩ | ⟨a, len, cap, zs, hcs, _, hl, hm, hz, _, hcell, hwz⟩
  · injection hcs with h1
    exact ⟨none, [], 0, h1, Rd.nil _ _⟩
  · injection hcs with h1
    simp only [if_true] at hz
    have hlen : ((zs.take len).map fun n => UInt8.ofNat n.toNat).length = len := by simp; omega
    refine ⟨some a, (zs.take len).map fun n => UInt8.ofNat n.toNat, cap, by rw [hlen]; exact h1, fun h0 => ?_⟩
    rw [hlen] at h0
    obtain ⟨b, o, spot⟩ := a
    have hspot : spot = none := by simpa [Addr.add] using World.cell?_spot (hcell 0 (by omega))
    subst hspot
    refine ⟨b, o, rfl, fun j y hy => ?_⟩
    have hj := (List.getElem?_eq_some_iff.1 hy).1
    rw [hlen] at hj
    have hc := hcell j (by omega)
    have e2 : (⟨b, o, none⟩ : Addr).add j = ⟨b, o + j, none⟩ := by unfold Addr.add; split <;> simp_all
    rw [e2] at hc
    rw [hc]
    rw [List.getElem?_map, List.getElem?_take_of_lt hj, List.getElem?_eq_getElem (by omega)] at hy
    simp only [Option.map_some, Option.some.injEq] at hy
    have hw := u8_wf (hwz _ (List.getElem_mem (by omega : j < zs.length)))
    rw [← hy, List.getD_eq_getElem?_getD, List.getElem?_eq_getElem (by omega), Option.getD_some, UInt8.toNat_ofNat']
    congr 2
    omega
theorem cells45 : Tryz.prog.cellsOf 45 = 8 := by kernel_rfl
theorem cells27 : Tryz.prog.cellsOf 27 = 4 := by kernel_rfl
theorem cells9 : Tryz.prog.cellsOf 9 = 1 := by kernel_rfl
theorem cells3 : Tryz.prog.cellsOf 3 = 1 := by kernel_rfl
theorem cells2 : Tryz.prog.cellsOf 2 = 1 := by kernel_rfl
theorem cells31 : Tryz.prog.cellsOf 31 = 1 := by kernel_rfl
set_option maxRecDepth 100000 in
/-- A member that came in. -/
theorem open_member {W : World} {base : Nat} {v : Value} {d : DataW H} {p : List MemPlace} (hval : Value.okWide Tryz.prog W .any base 45 v) (h : DataW.Trod enc Tryz.prog W 0 (fun _ => true) true 45 v d p) :
    ∃ (m : Member) (A : Option Addr) (c : Nat), v = mbV m A c ∧ i64 m.kind ∧ i64 m.meta_.mode ∧ i64 m.meta_.uid ∧ i64 m.meta_.gid ∧ i64 m.meta_.mtime ∧ Rd W A m.data := by
  obtain ⟨cs, rfl, hsz⟩ := okWide_struct Tryz.underlying45 hval
  obtain ⟨fuel, hf⟩ := h
  obtain ⟨l⟩ := cs
  rw [cells45] at hsz
  obtain ⟨xs, n, _, _, hl, hxl, hat⟩ := DataW.trod_struct Tryz.underlying45 hf
  have e0 : (Value.agg ⟨l⟩).cells.toList = l := by simp [Value.cells]
  rw [e0] at hat
  match l, hsz with
  | [v0, v1, v2, v3, v4, v5, v6, v7], _ =>
    match xs, hxl with
    | [y0, y1, y2, y3, y4], _ =>
      have h0 := hat 0 { name := "Path", type := 9, offset := 0, embedded := false, tag := "", pkgPath := "", byteOffset := 0 } rfl
      have h1 := hat 1 { name := "Kind", type := 3, offset := 1, embedded := false, tag := "", pkgPath := "", byteOffset := 16 } rfl
      have h2 := hat 2 { name := "Meta", type := 27, offset := 2, embedded := false, tag := "", pkgPath := "", byteOffset := 24 } rfl
      have h3 := hat 3 { name := "Link", type := 9, offset := 6, embedded := false, tag := "", pkgPath := "", byteOffset := 56 } rfl
      have h4 := hat 4 { name := "Data", type := 31, offset := 7, embedded := false, tag := "", pkgPath := "", byteOffset := 72 } rfl
      simp only [cells9, cells3, cells27, cells31] at h0 h1 h2 h3 h4
      obtain ⟨s0, hs0, _⟩ := DataW.trod_string Tryz.underlying9 h0
      obtain ⟨k1, hk1, _, w1⟩ := DataW.trod_int Tryz.underlying3 h1
      obtain ⟨s3, hs3, _⟩ := DataW.trod_string Tryz.underlying9 h3
      obtain ⟨A, ld, c, hA, hr⟩ := open_row (v := v7) h4
      obtain ⟨zs, n2, _, _, _, hzl, hbt⟩ := DataW.trod_struct Tryz.underlying27 h2
      match zs, hzl with
      | [z0, z1, z2, z3], _ =>
        have g0 := hbt 0 { name := "Mode", type := 2, offset := 0, embedded := false, tag := "", pkgPath := "", byteOffset := 0 } rfl
        have g1 := hbt 1 { name := "Uid", type := 2, offset := 1, embedded := false, tag := "", pkgPath := "", byteOffset := 8 } rfl
        have g2 := hbt 2 { name := "Gid", type := 2, offset := 2, embedded := false, tag := "", pkgPath := "", byteOffset := 16 } rfl
        have g3 := hbt 3 { name := "Mtime", type := 2, offset := 3, embedded := false, tag := "", pkgPath := "", byteOffset := 24 } rfl
        simp only [cells2] at g0 g1 g2 g3
        obtain ⟨a0, ha0, _, q0⟩ := DataW.trod_int Tryz.underlying2 g0
        obtain ⟨a1, ha1, _, q1⟩ := DataW.trod_int Tryz.underlying2 g1
        obtain ⟨a2, ha2, _, q2⟩ := DataW.trod_int Tryz.underlying2 g2
        obtain ⟨a3, ha3, _, q3⟩ := DataW.trod_int Tryz.underlying2 g3
        simp at hs0 hk1 hs3 ha0 ha1 ha2 ha3
        subst hs0 hk1 hs3 ha0 ha1 ha2 ha3 hA
        exact ⟨⟨s0.data.toList, k1, ⟨a0, a1, a2, a3⟩, s3.data.toList, ld⟩, A, c, by unfold mbV; simp only [st_of], i64_wf w1, i64_wf q0, i64_wf q1, i64_wf q2, i64_wf q3, hr⟩
end
end Go.Proofs.YtckgjbpgdpcnnaaGreatDoor
