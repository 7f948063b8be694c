/-
  Programs of steps as plain data, and how they lie in memory.
-/
import Derived.Test.YtoabiignjkcdmaaGreatBase
namespace Go.Proofs.YtoabiignjkcdmaaGreat
open Go.RowKit
set_option linter.unusedVariables false
set_option linter.unusedSimpArgs false

/-- A step. -/
structure SOp where
  k : Int
  fn : Int
  d : Int
  a : Int
  b : Int
  imm : Int

/-- What is handed in. -/
structure SHanded where
  buf : Bool
  sec : Bool
  mu : Bool
  d : Int
  len : Int

/-- A block. -/
structure SBlock where
  ops : List SOp
  e : Int
  a : Int
  go : Int
  els : Int

/-- A program of steps. -/
structure SIr where
  sec : List Bool
  par : List SHanded
  blk : List SBlock

def SOp.cells (o : SOp) : List Value := [.int .u8 o.k, .int .u8 o.fn, .int .i64 o.d, .int .i64 o.a, .int .i64 o.b, .int .u64 o.imm]
def SOp.val (o : SOp) : Value := .agg #[.int .u8 o.k, .int .u8 o.fn, .int .i64 o.d, .int .i64 o.a, .int .i64 o.b, .int .u64 o.imm]
def SHanded.cells (h : SHanded) : List Value := [.bool h.buf, .bool h.sec, .bool h.mu, .int .i64 h.d, .int .i64 h.len]
def kOp : Kd SOp := Kd.flat 6 SOp.cells (fun _ => rfl)
def kHanded : Kd SHanded := Kd.flat 5 SHanded.cells (fun _ => rfl)

def kBlock : Kd SBlock where
  sz := 5
  K := fun w x cs => ∃ A cap, cs = [.slice A x.ops.length cap, .int .u8 x.e, .int .i64 x.a, .int .i64 x.go, .int .i64 x.els] ∧ x.ops.length ≤ maxLen ∧ kOp.Row w A x.ops
  len := by rintro _ _ _ ⟨A, cap, rfl, _⟩; rfl
  mono := by
    rintro _ _ _ _ ⟨A, cap, e, hm, hr⟩ hb
    exact ⟨A, cap, e, hm, hr.mono hb⟩

/-- A block as a value. -/
def SBlock.At (x : SBlock) (w : World) (v : Value) : Prop :=
  ∃ A cap, v = .agg #[.slice A x.ops.length cap, .int .u8 x.e, .int .i64 x.a, .int .i64 x.go, .int .i64 x.els] ∧ x.ops.length ≤ maxLen ∧ kOp.Row w A x.ops

/-- A program as a value. -/
def SIr.At (p : SIr) (w : World) (v : Value) : Prop :=
  ∃ S c1 P c2 B c3, v = .agg #[.slice S p.sec.length c1, .slice P p.par.length c2, .slice B p.blk.length c3] ∧
    (p.sec.length ≤ maxLen ∧ p.par.length ≤ maxLen ∧ p.blk.length ≤ maxLen) ∧ kBool.Row w S p.sec ∧ kHanded.Row w P p.par ∧ kBlock.Row w B p.blk

theorem SBlock.At.mono {x : SBlock} {w w' : World} {v : Value} (h : x.At w v) (hb : Below w.heap.size w w') : x.At w' v := by
  obtain ⟨A, cap, e, hm, hr⟩ := h
  exact ⟨A, cap, e, hm, hr.mono hb⟩
theorem SIr.At.mono {p : SIr} {w w' : World} {v : Value} (h : p.At w v) (hb : Below w.heap.size w w') : p.At w' v := by
  obtain ⟨S, c1, P, c2, B, c3, e, hm, h1, h2, h3⟩ := h
  exact ⟨S, c1, P, c2, B, c3, e, hm, h1.mono hb, h2.mono hb, h3.mono hb⟩

/-! ### What may be -/
def varB (n : Nat) (v : Int) (is : Bool) : Bool := if is then decide (0 ≤ v) && decide (v < (n : Int)) else v == 0
def varS (p : SIr) (v : Int) (is : Bool) : Bool := varB p.sec.length v is
def secS (p : SIr) (v : Int) : Bool := p.sec.getD v.toNat false


/-- The table of fields: of each kind from 0 to 13: fn, d, a, b, imm, publicA, publicB, flows, publicD. -/
def kindBits : List Bool := [
  false, false, false, false, false, false, false, false, false,
  false, true, false, false, true, false, false, false, false,
  false, true, true, false, false, false, false, true, false,
  true, true, true, true, false, false, false, true, false,
  true, true, true, false, false, true, false, false, false,
  true, false, true, true, false, true, false, false, false,
  false, false, true, true, false, true, true, false, false,
  false, false, true, true, false, true, true, false, false,
  false, false, true, false, false, true, false, false, false,
  true, true, true, false, false, true, false, false, true,
  false, false, true, true, false, true, true, false, false,
  false, false, true, false, false, true, false, false, false,
  false, true, true, false, false, false, false, false, false,
  false, false, false, false, false, false, false, false, false]
def kf (k : Int) (j : Nat) : Bool := kindBits.getD (k.toNat * 9 + j) false

/-- May a step of a kind be, its variables being there, by whether A, B and D are secret? -/
def opE (k fn : Int) (a b d : Bool) : Bool := (k == 3 && (decide (fn < 1) || decide (14 < fn) || decide (13 ≤ fn) && (a || b))) || (k == 4 && fn == 1 && !d) || (k == 5 && fn == 0 && b)
def opG (k fn : Int) : Bool := k != 3 && (decide (1 < fn) || fn == 1 && !kf k 0)
def opT (k fn : Int) (a b d : Bool) : Bool := !opE k fn a b d && !opG k fn && !(kf k 5 && a || kf k 6 && b || kf k 8 && d || kf k 7 && (a || b) && !d)
def opV (n : Nat) (k d a b imm : Int) : Bool := !varB n d (kf k 1) || !varB n a (kf k 2) || !varB n b (kf k 3) || (!kf k 4 && imm != 0)
/-- May a step be? -/
def opS (p : SIr) (o : SOp) : Bool :=
  if o.k < 1 ∨ 13 < o.k then false
  else if opV p.sec.length o.k o.d o.a o.b o.imm = true then false
  else opT o.k o.fn (kf o.k 2 && secS p o.a) (kf o.k 3 && secS p o.b) (kf o.k 1 && secS p o.d)
theorem varB_in {n : Nat} {v : Int} (h : varB n v true = true) : 0 ≤ v ∧ v < (n : Int) := by simpa [varB] using h

end Go.Proofs.YtoabiignjkcdmaaGreat
