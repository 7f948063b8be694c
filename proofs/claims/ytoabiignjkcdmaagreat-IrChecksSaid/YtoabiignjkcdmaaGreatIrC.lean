/-
  Which programs of steps may be, as plain words.
-/
import Derived.Test.YtoabiignjkcdmaaGreatIrW3
namespace Go.Proofs.YtoabiignjkcdmaaGreat
open Go.RowKit
set_option linter.unusedVariables false
set_option linter.unusedSimpArgs false

def handS (p : SIr) (h : SHanded) : Bool :=
  varB p.sec.length h.d true && varB p.sec.length h.len h.buf && !(h.mu && !h.buf) && secS p h.d == (h.sec && !h.buf) && !(h.buf && secS p h.len)
def metS (l : List SHanded) : List Int := l.flatMap fun h => if h.buf then [h.d, h.len] else [h.d]
def sumOps (bs : List SBlock) : Nat := (bs.map fun b => b.ops.length).sum
def paramsS (p : SIr) : Bool := p.par.all (handS p) && decide (p.par.length ≤ 8) && decide (metS p.par).Nodup
def blockS (p : SIr) (b : SBlock) : Bool := endS p b && b.ops.all (opS p)
def headS (p : SIr) : Bool := decide (p.sec.length ≤ 4096) && decide (1 ≤ p.blk.length) && decide (p.blk.length ≤ 4096) && paramsS p
/-- May a program be? -/
def checkS (p : SIr) : Bool := headS p && decide (sumOps p.blk ≤ 32768) && p.blk.all (blockS p)

/-- The word ir.Check answers. -/
def checkN (p : SIr) : Int := if checkS p then 0 else 2

theorem kBlock_at {w : World} {A : Option Addr} {xs : List SBlock} (h : kBlock.Row w A xs) (i : Nat) (hi : i < xs.length) : ∃ b o O c, A = some ⟨b, o, none⟩ ∧
    w.cell? ⟨b, o + i * 5, none⟩ = some (.slice O xs[i].ops.length c) ∧ w.cell? ⟨b, o + i * 5 + 1, none⟩ = some (.int .u8 xs[i].e) ∧ w.cell? ⟨b, o + i * 5 + 2, none⟩ = some (.int .i64 xs[i].a) ∧
    w.cell? ⟨b, o + i * 5 + 3, none⟩ = some (.int .i64 xs[i].go) ∧ w.cell? ⟨b, o + i * 5 + 4, none⟩ = some (.int .i64 xs[i].els) ∧ xs[i].ops.length ≤ maxLen ∧ kOp.Row w O xs[i].ops := by
  obtain ⟨b, o, cs, e, ⟨O, c, rfl, hm, hr⟩, h2⟩ := h.at i hi
  exact ⟨b, o, O, c, e, h2 0 (by simp), h2 1 (by simp), h2 2 (by simp), h2 3 (by simp), h2 4 (by simp), hm, hr⟩
end Go.Proofs.YtoabiignjkcdmaaGreat
