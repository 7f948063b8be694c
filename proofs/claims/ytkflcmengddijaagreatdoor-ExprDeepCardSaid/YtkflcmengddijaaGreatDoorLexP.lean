/-
  Cutting a text, plainly: what the code's and the document's functions of layer 6 compute.
-/
import Derived.Test.YtkflcmengddijaaGreatDoorBase
import Derived.Lib.ParseIntB
namespace Go.Proofs.YtkflcmengddijaaGreatDoor.Lx
set_option linter.unusedVariables false
set_option linter.unusedSimpArgs false

def isLetter (c : UInt8) : Bool := (decide (97 ≤ c.toNat) && decide (c.toNat ≤ 122)) || c.toNat == 95
def isDigit (c : UInt8) : Bool := decide (48 ≤ c.toNat) && decide (c.toNat ≤ 57)
def isPart (c : UInt8) : Bool := isLetter c || isDigit c
def isBlank (c : UInt8) : Bool := c.toNat == 32 || c.toNat == 10

/-- The words that are no names. -/
def words : List (List UInt8) := [[108, 101, 116], [115, 101, 99, 114, 101, 116], [98, 117, 102], [105, 102], [101, 108, 115, 101], [119, 104, 105, 108, 101], [102, 111, 114], [118, 105, 101, 119], [101, 100, 105, 116], [109, 111, 118, 101], [111, 112, 101, 110], [99, 97, 108, 108], [115, 101, 97, 108], [102, 110], [114, 101, 116, 117, 114, 110], [110, 117, 109]]
/-- The signs, the longer ones first. -/
def signs : List (List UInt8) := [[62, 62, 62], [46, 46], [42, 94], [60, 60], [62, 62], [60, 36], [40], [41], [123], [125], [91], [93], [44], [59], [61], [35], [43], [45], [42], [47], [37], [38], [124], [94], [60]]

/-- A token. -/
structure STok where
  k : Int
  text : List UInt8
  num : Int
  at' : Int
deriving DecidableEq

/-- The number that digits spell, if they may be one. -/
def numOf (p : List UInt8) : Option Nat :=
  match Lib.parseUintB 64 p with
  | .ok u => if p.head? = some 48 ∧ 1 < p.length then none else some u
  | _ => none
def signOf (s : List UInt8) : List UInt8 := (signs.find? fun x => x.isPrefixOf s).getD []
/-- The token with which a text begins, its place left open, and how long its piece is; or the error. -/
def next (s : List UInt8) : Except Int (STok × Nat) :=
  let p := s.takeWhile isDigit
  if p ≠ [] then
    match numOf p with
    | some u => .ok (⟨3, [], u, 0⟩, p.length)
    | none => .error 7
  else
    let q := s.takeWhile isPart
    if q ≠ [] then
      if 16 < q.length then .error 5
      else if words.contains q then .ok (⟨2, q, 0, 0⟩, q.length)
      else .ok (⟨1, q, 0, 0⟩, q.length)
    else
      let g := signOf s
      if g = [] then .error 7 else .ok (⟨4, g, 0, 0⟩, g.length)
def isName (s : List UInt8) : Bool := !s.isEmpty && decide (s.length ≤ 16) && (s.head?.map isLetter).getD false && !words.contains s && s.all isPart

/-- The tokens of what is left of a text, from a place on; with so much fuel. -/
def scan : Nat → List UInt8 → Nat → Except (Int × Int) (List STok)
  | 0, _, at' => .ok [⟨5, [], 0, at'⟩]
  | f + 1, s, at' =>
    let b := (s.takeWhile isBlank).length
    let r := s.drop b
    if r = [] then .ok [⟨5, [], 0, (at' + b : Nat)⟩]
    else match next r with
      | .error e => .error ((at' + b : Nat), e)
      | .ok (t, n) => (scan f (r.drop n) (at' + b + n)).map fun l => { t with at' := (at' + b : Nat) } :: l
/-- The tokens of a text; or where there is none, and why. -/
def cut (s : List UInt8) : Except (Int × Int) (List STok) := if 16384 < s.length then .error (0, 5) else scan (s.length + 1) s 0
end Go.Proofs.YtkflcmengddijaaGreatDoor.Lx
