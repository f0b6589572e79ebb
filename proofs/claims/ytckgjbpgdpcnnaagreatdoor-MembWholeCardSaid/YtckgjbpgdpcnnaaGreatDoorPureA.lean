/-
  THE PLAIN FUNCTIONS of layers 1 to 9 (numbers, texts, sums, paths, headers, records, blocks, members, archives): lists of bytes alone: no Go, no memory.
-/
namespace Go.Proofs.YtckgjbpgdpcnnaaGreatDoor.Pl
set_option linter.all false
set_option linter.unusedVariables false
set_option linter.unusedSimpArgs false

/-- Bytes; a text is its bytes. -/
abbrev Bs := List UInt8

def noughts (n : Nat) : Bs := List.replicate n 0

/-! ### numf -/
/-- The digit of n at 8^k, as a byte. -/
def octDig (n k : Nat) : UInt8 := UInt8.ofNat (48 + n / 8 ^ k % 8)
def octs (n d : Nat) : Bs := (List.range d).map fun i => octDig n (d - 1 - i)
/-- The byte of n (below 0, too) at 256^k. -/
def b256 (n : Int) (k : Nat) : UInt8 := UInt8.ofNat (n / 2 ^ (min (8 * k) 63) % 256).toNat
def baseB (n : Int) (w : Nat) : Bs := (if n < 0 then 255 else 128) :: (List.range (w - 1)).map fun i => b256 n (w - 2 - i)
def most (d : Nat) : Nat := 8 ^ d - 1
def isPlain (n : Int) (w : Nat) : Bool := decide (0 ≤ n ∧ n ≤ (most (w - 1) : Nat))
def nPut (n : Int) (w : Nat) : Bs × Int :=
  if isPlain n w then (octs n.toNat (w - 1) ++ [0], 0)
  else if w = 8 ∧ ¬ (-72057594037927936 ≤ n ∧ n < 72057594037927936) then ([], 10)
  else (baseB n w, 0)
/-- What octal digits tell. -/
def octVal (l : Bs) : Int := l.foldl (fun n c => n * 8 + ((c.toNat : Int) - 48)) 0
def isOct (c : UInt8) : Bool := decide (48 ≤ c.toNat ∧ c.toNat ≤ 55)
def isPad (c : UInt8) : Bool := c == 32 || c == 0
/-- A number of base 256: what is left, and the number so far. -/
def ubLoop (fill : UInt8) : Bs → Int → Int × Int
  | [], n => (n, 0)
  | x :: r, n => if (7 < r.length ∧ x ≠ fill) ∨ (r.length = 7 ∧ decide (128 ≤ x.toNat) ≠ decide (128 ≤ fill.toNat)) then (0, 10) else ubLoop fill r (n * 256 + (x.toNat : Int))
def unbase (first : UInt8) (l : Bs) : Int × Int := if first = 255 then ubLoop 255 l (-1) else ubLoop 0 l 0
def nGet (b : Bs) : Int × Int :=
  if b.length ≠ 8 ∧ b.length ≠ 12 then (0, 1)
  else if b.headD 0 = 128 ∨ b.headD 0 = 255 then unbase (b.headD 0) (b.drop 1)
  else
    let rest := b.dropWhile (· == 32)
    let d := rest.takeWhile isOct
    if d = [] ∨ ¬ (rest.drop d.length).all isPad then (0, 3)
    else (octVal d, 0)

/-! ### strf -/
def sPut (s : Bs) (w : Nat) : Bs × Int :=
  if s.any (· == 0) then ([], 3) else if s.length > w then ([], 10) else (s ++ noughts (w - s.length), 0)
def loose (b : Bs) : Bs := b.takeWhile (· != 0)
def sGet (b : Bs) : Bs × Int :=
  let s := loose b
  if (b.drop s.length).all (· == 0) then (s, 0) else ([], 3)
/-- The first place of c in l from place i on. -/
def findAt (c : UInt8) : Bs → Nat → Option Nat
  | [], _ => none
  | x :: l, i => if x = c then some i else findAt c l (i + 1)
def splitAux (path : Bs) : Nat → Nat → Option (Bs × Bs)
  | 0, _ => none
  | k + 1, at_ =>
    match findAt 47 (path.drop at_) 0 with
    | none => none
    | some i =>
      let prefix_ := path.take (at_ + i)
      let name := path.drop (at_ + i + 1)
      if prefix_.length > 155 ∨ name = [] then none
      else if prefix_ ≠ [] ∧ name.length ≤ 100 then some (prefix_, name)
      else splitAux path k (at_ + i + 1)
def split (path : Bs) : Option (Bs × Bs) :=
  if path ≠ [] ∧ path.length ≤ 100 then some ([], path) else splitAux path (path.length + 1) 0
def sJoin (p n : Bs) : Bs := if p = [] then n else p ++ 47 :: n

/-! ### hsum -/
def total (l : Bs) : Nat := (l.map UInt8.toNat).sum
/-- The sum of a block. -/
def hsum (b : Bs) : Nat := total (b.take 148) + 256 + total (b.drop 156)
def hPut (b : Bs) : Bs := b.take 148 ++ octs (hsum b) 6 ++ [0, 32] ++ b.drop 156
def told (b : Bs) : Int × Int :=
  let r := nGet ((b.drop 148).take 8)
  if r.2 ≠ 0 then (0, r.2) else if r.1 < 0 ∨ r.1 > 1048576 then (0, 3) else (r.1, 0)
def hCheck (b : Bs) : Int :=
  if b.length ≠ 512 then 1
  else if (told b).2 ≠ 0 then (told b).2
  else if (hsum b : Int) ≠ (told b).1 then 9 else 0
def hZero (b : Bs) : Bool := b.length == 512 && b.all (· == 0)

/-! ### ppath -/
def cuts : Bs → List Bs
  | [] => [[]]
  | c :: l => if c = 47 then [] :: cuts l else match cuts l with
    | [] => [[c]]
    | p :: r => (c :: p) :: r
def isName (s : Bs) : Bool := !s.isEmpty && decide (s.length ≤ 60) && s != [46] && s != [46, 46] && s.all (fun c => c != 0 && c != 47)
def isPath (s : Bs) : Bool := decide (s.length ≤ 300) && (cuts s).all isName

/-! ### head -/
structure Meta where
  mode : Int
  uid : Int
  gid : Int
  mtime : Int
structure Header where
  pre : Bs
  name : Bs
  meta_ : Meta
  size : Int
  type : UInt8
  link : Bs
def isType (c : UInt8) : Bool := c == 48 || c == 49 || c == 50 || c == 53 || c == 120 || c == 103
/-- The first error that is none of 0. -/
def firstE (l : List Int) : Int := (l.find? (· != 0)).getD 0
def ustar : Bs := [117, 115, 116, 97, 114, 0, 48, 48]
def hdLay (h : Header) : Bs × Int :=
  if !isType h.type then ([], 11)
  else
    let e := firstE [(sPut h.pre 155).2, (sPut h.name 100).2, (sPut h.link 100).2, (nPut h.meta_.mode 8).2, (nPut h.meta_.uid 8).2, (nPut h.meta_.gid 8).2, (nPut h.size 12).2, (nPut h.meta_.mtime 12).2]
    if e ≠ 0 then ([], e)
    else if h.meta_.mode < 0 ∨ h.meta_.uid < 0 ∨ h.meta_.gid < 0 ∨ h.size < 0 then ([], 10)
    else
      let b := (sPut h.name 100).1 ++ (nPut h.meta_.mode 8).1 ++ (nPut h.meta_.uid 8).1 ++ (nPut h.meta_.gid 8).1 ++ (nPut h.size 12).1 ++ (nPut h.meta_.mtime 12).1
        ++ noughts 8 ++ [h.type] ++ (sPut h.link 100).1 ++ ustar ++ noughts 64 ++ (nPut 0 8).1 ++ (nPut 0 8).1 ++ (sPut h.pre 155).1 ++ noughts 12
      (hPut b, 0)
def fieldB (b : Bs) (at_ w : Nat) : Bs := (b.drop at_).take w
def noHeader : Header := ⟨[], [], ⟨0, 0, 0, 0⟩, 0, 0, []⟩
def hdParse (b : Bs) : Header × Int :=
  if hCheck b ≠ 0 then (noHeader, hCheck b)
  else if fieldB b 257 8 ≠ ustar then (noHeader, 3)
  else
    let p := sGet (fieldB b 345 155); let n := sGet (fieldB b 0 100); let k := sGet (fieldB b 157 100)
    let m := nGet (fieldB b 100 8); let u := nGet (fieldB b 108 8); let g := nGet (fieldB b 116 8); let z := nGet (fieldB b 124 12); let t := nGet (fieldB b 136 12)
    let e := firstE [p.2, n.2, k.2, m.2, u.2, g.2, z.2, t.2]
    let ty := if b.getD 156 0 = 0 then 48 else b.getD 156 0
    if e ≠ 0 then (noHeader, e)
    else if !isType ty then (noHeader, 11)
    else if m.1 < 0 ∨ u.1 < 0 ∨ g.1 < 0 ∨ z.1 < 0 then (noHeader, 10)
    else (⟨p.1, n.1, ⟨m.1, u.1, g.1, t.1⟩, z.1, ty, k.1⟩, 0)

end Go.Proofs.YtckgjbpgdpcnnaaGreatDoor.Pl
