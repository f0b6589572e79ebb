/-
  THE PLAIN FUNCTIONS of layers 6 to 9 (records, blocks, members, archives): lists of bytes alone: no Go, no memory.
-/
import Derived.Test.YtckgjbpgdpcnnaaGreatDoorPureA
import Derived.Lib.ItoaNum
namespace Go.Proofs.YtckgjbpgdpcnnaaGreatDoor.Pl
set_option linter.all false
set_option linter.unusedVariables false
set_option linter.unusedSimpArgs false

/-! ### recs -/
structure Rec where
  key : Bs
  val : Bs
def keyBad (k : Bs) : Bool := k.any fun c => c == 61 || c == 10 || c == 0
def rMay (r : Rec) : Int := if r.key = [] ∨ 60 < r.key.length ∨ keyBad r.key = true then 3 else if 2000 < r.val.length then 10 else 0
def rText (r : Rec) : Bs := [32] ++ r.key ++ [61] ++ r.val ++ [10]
/-- The length that counts its own digits: the first n of rest + 1 .. that tells itself. -/
def selfLen (rest : Nat) : Nat :=
  if rest + 1 < 10 then rest + 1 else if rest + 2 < 100 then rest + 2 else if rest + 3 < 1000 then rest + 3 else rest + 4
def rLen (r : Rec) : Nat := if rMay r ≠ 0 then 0 else selfLen (rText r).length
def rOne (r : Rec) : Bs × Int := if rMay r ≠ 0 then ([], rMay r) else (Lib.itoa (rLen r) ++ rText r, 0)
def rLay : List Rec → Bs × Int
  | [] => ([], 0)
  | r :: l => if (rOne r).2 ≠ 0 then ([], (rOne r).2) else if (rLay l).2 ≠ 0 then ([], (rLay l).2) else ((rOne r).1 ++ (rLay l).1, 0)
def isDig (c : UInt8) : Bool := decide (48 ≤ c.toNat ∧ c.toNat ≤ 57)
def decVal (l : Bs) : Int := l.foldl (fun n c => n * 10 + ((c.toNat : Int) - 48)) 0
/-- The length that bytes begin with, and how many digits it has. -/
def rLength (b : Bs) : Int × Int :=
  match findAt 32 b 0 with
  | none => (0, 0)
  | some i =>
    let h := b.take i
    if h = [] ∨ 4 < h.length ∨ h.headD 0 = 48 ∨ ¬ h.all isDig then (0, 0) else (decVal h, h.length)
def noRec : Rec := ⟨[], []⟩
def rFirst (b : Bs) : Rec × Int × Int :=
  let n := (rLength b).1
  let d := (rLength b).2
  if d = 0 then (noRec, 0, 3)
  else if n > b.length then (noRec, 0, 4)
  else if n < d + 2 then (noRec, 0, 3)
  else
    let body := (b.take n.toNat).drop (d + 1).toNat
    let ends := body.getLast? = some 10
    let s := if ends then body.dropLast else body
    match findAt 61 s 0 with
    | none => (noRec, 0, 3)
    | some i =>
      let r : Rec := ⟨s.take i, s.drop (i + 1)⟩
      if ¬ ends ∨ (rLen r : Int) ≠ n then (noRec, 0, 3) else (r, n, 0)
def rParseAux : Nat → Bs → List Rec × Int
  | 0, _ => ([], 0)
  | k + 1, b =>
    if b = [] then ([], 0)
    else
      let f := rFirst b
      if f.2.2 ≠ 0 then ([], f.2.2)
      else
        let r := rParseAux k (b.drop f.2.1.toNat)
        if r.2 ≠ 0 then ([], r.2) else (f.1 :: r.1, 0)
def rParse (b : Bs) : List Rec × Int := rParseAux (b.length + 1) b
def rFind (l : List Rec) (key : Bs) : Option Bs := (l.reverse.find? fun r => r.key == key).map (·.val)

/-! ### blocks -/
def bCount (n : Int) : Int := if n < 1 then 0 else (n - 1) / 512 + 1
def bPad (n : Nat) : Nat := (512 - n % 512) % 512
def bFill (b : Bs) : Bs := b ++ noughts (bPad b.length)
def bOpen (b : Bs) (size : Int) : Bs × Int :=
  if size < 0 then ([], 1) else if bCount size > b.length / 512 then ([], 4) else (b.take size.toNat, 0)

/-! ### memb -/
structure Member where
  path : Bs
  kind : Int
  meta_ : Meta
  link : Bs
  data : Bs
def noMember : Member := ⟨[], 0, ⟨0, 0, 0, 0⟩, [], []⟩
def mType (k : Int) : UInt8 := if k = 1 then 48 else if k = 2 then 49 else if k = 3 then 50 else if k = 4 then 53 else 0
def mKind (c : UInt8) : Int := if c = 48 then 1 else if c = 49 then 2 else if c = 50 then 3 else if c = 53 then 4 else 0
def numbersOk (m : Meta) : Bool := decide (0 ≤ m.mode ∧ m.mode ≤ 4095 ∧ 0 ≤ m.uid ∧ m.uid ≤ 1099511627775 ∧ 0 ≤ m.gid ∧ m.gid ≤ 1099511627775 ∧ -1125899906842624 ≤ m.mtime ∧ m.mtime ≤ 1125899906842624)
def mMay (m : Member) : Int :=
  if !isPath m.path then 8
  else if ¬ (1 ≤ m.kind ∧ m.kind ≤ 4) then 11
  else if !numbersOk m.meta_ then 10
  else if m.kind = 1 then (if 4096 < m.data.length then 10 else if m.link ≠ [] then 3 else 0)
  else if m.kind = 4 then (if m.link ≠ [] then 3 else if m.data ≠ [] then 3 else 0)
  else if m.kind = 2 then (if !isPath m.link then 8 else if m.data ≠ [] then 3 else 0)
  else (if m.link = [] ∨ m.link.any (· == 0) = true then 3 else if 300 < m.link.length then 10 else if m.data ≠ [] then 3 else 0)
def kPath : Bs := [112, 97, 116, 104]
def kLink : Bs := [108, 105, 110, 107, 112, 97, 116, 104]
def mRecs (m : Member) : List Rec := (if (split m.path).isNone then [⟨kPath, m.path⟩] else []) ++ (if 100 < m.link.length then [⟨kLink, m.link⟩] else [])
def paxName : Bs := [112, 97, 120]
def mAhead (l : List Rec) : Bs × Int :=
  if l = [] then ([], 0)
  else if (rLay l).2 ≠ 0 then ([], (rLay l).2)
  else
    let h := hdLay ⟨[], paxName, ⟨0, 0, 0, 0⟩, (rLay l).1.length, 120, []⟩
    (h.1 ++ bFill (rLay l).1, h.2)
def mHeader (m : Member) : Header :=
  match split m.path with
  | some (p, n) => ⟨p, n, m.meta_, m.data.length, mType m.kind, m.link.take 100⟩
  | none => ⟨[], m.path.take 100, m.meta_, m.data.length, mType m.kind, m.link.take 100⟩
def mLay (m : Member) : Bs × Int :=
  if mMay m ≠ 0 then ([], mMay m)
  else if (mAhead (mRecs m)).2 ≠ 0 then ([], (mAhead (mRecs m)).2)
  else if (hdLay (mHeader m)).2 ≠ 0 then ([], (hdLay (mHeader m)).2)
  else ((mAhead (mRecs m)).1 ++ (hdLay (mHeader m)).1 ++ bFill m.data, 0)
def hdPath (h : Header) : Bs := sJoin h.pre h.name
def mFrom (h : Header) (l : List Rec) (data : Bs) : Member × Int :=
  let p := (rFind l kPath).getD (hdPath h)
  let k := (rFind l kLink).getD h.link
  let kind := mKind h.type
  if kind = 0 then (noMember, 11)
  else
    let m : Member := ⟨p, kind, h.meta_, if kind = 1 ∨ kind = 4 then [] else k, if kind = 1 then data else []⟩
    if mMay m ≠ 0 then (noMember, mMay m) else (m, 0)

/-! ### arch -/
def aBody : List Member → Bs × Int
  | [] => ([], 0)
  | m :: l => if (mLay m).2 ≠ 0 then ([], (mLay m).2) else if (aBody l).2 ≠ 0 then ([], (aBody l).2) else ((mLay m).1 ++ (aBody l).1, 0)
def aLay (l : List Member) : Bs × Int :=
  if 64 < l.length then ([], 5) else if (aBody l).2 ≠ 0 then ([], (aBody l).2) else ((aBody l).1 ++ noughts 1024, 0)

end Go.Proofs.YtckgjbpgdpcnnaaGreatDoor.Pl
