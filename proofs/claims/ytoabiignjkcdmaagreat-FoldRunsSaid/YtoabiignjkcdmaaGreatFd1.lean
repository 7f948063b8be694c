/-
  Lemmas (texts Base IrBase Open IrW1), each proved without a condition beyond its own hypotheses.
-/
import Derived.WalkKit
import Derived.Lib.Hide
import Derived.WalkSpells
import Derived.WalkLawsBesides
import Derived.ProofKit
import Derived.Deep.Slices
import Derived.Deep.QuietTactic
import Derived.BigQuiet
import Derived.Deep.DeepCutAuto
import Derived.Deep.WholeRow
import Derived.Deep.CutBlock
import Derived.Deep.Light
import Derived.Deep.RegionHeld3
import Derived.Test.YtoabiignjkcdmaaGreatRows
import Derived.OpenShut
import Derived.ShutString
import Derived.ChangeOld
import Derived.Below
import Derived.SizedLaws
import Derived.Carry
import Derived.Deep.DeepHandedRow
namespace Go.Proofs.YtoabiignjkcdmaaGreat
open Go.RowKit
set_option linter.unusedVariables false
set_option linter.unusedSimpArgs false

/-- A cell that was there is there. -/
theorem cm {w w' : World} {a : Addr} {v : Value} (h : w.cell? a = some v) (hb : Below w.heap.size w w') : w'.cell? a = some v := (hb.cell (World.block_lt_of_cell? w a h)).trans h
/-- .. and may be written just if it might. -/
theorem fm {w w' : World} {a : Addr} {v : Value} {t : Bool} (hf : w.frozen? a = t) (h : w.cell? a = some v) (hb : Below w.heap.size w w') : w'.frozen? a = t := (hb.frozen (World.block_lt_of_cell? w a h)).trans hf
/-- One world behind another. -/
theorem bt {w w1 w2 : World} (h : Below w.heap.size w w1) (k : Below w1.heap.size w1 w2) : Below w.heap.size w w2 := h.trans (k.mono h.size)
theorem bt' {B : Nat} {w w1 w2 : World} (h : Below B w w1) (hB : B ≤ w1.heap.size) (k : Below w1.heap.size w1 w2) : Below B w w2 := h.trans (k.mono hB)

/-- A kind of data: how many cells one takes, and which cells stand for which datum. What is read so is read so in every later world. -/
structure Kd (α : Type) where
  sz : Nat
  K : World → α → List Value → Prop
  len : ∀ {w x cs}, K w x cs → cs.length = sz
  mono : ∀ {w w' x cs}, K w x cs → Below w.heap.size w w' → K w' x cs

/-- A kind that leads nowhere: its cells are written out. -/
def Kd.flat {α : Type} (n : Nat) (f : α → List Value) (h : ∀ x, (f x).length = n) : Kd α where
  sz := n
  K := fun _ x cs => cs = f x
  len := by rintro _ x _ rfl; exact h x
  mono := by rintro _ _ _ _ h _; exact h

/-- xs lie as a row from A on. -/
def Kd.Row {α : Type} (k : Kd α) (w : World) (A : Option Addr) (xs : List α) : Prop :=
  xs = [] ∨ ∃ b o, A = some ⟨b, o, none⟩ ∧ ∀ i (h : i < xs.length), ∃ cs, k.K w xs[i] cs ∧ ∀ j (hj : j < cs.length), w.cell? ⟨b, o + i * k.sz + j, none⟩ = some cs[j]

theorem Kd.Row.mono {α : Type} {k : Kd α} {w w' : World} {A : Option Addr} {xs : List α} (h : k.Row w A xs) (hb : Below w.heap.size w w') : k.Row w' A xs := by
  rcases h with h | ⟨b, o, e, hc⟩
  · exact .inl h
  · refine .inr ⟨b, o, e, fun i hi => ?_⟩
    obtain ⟨cs, h1, h2⟩ := hc i hi
    exact ⟨cs, k.mono h1 hb, fun j hj => cm (h2 j hj) hb⟩

theorem Kd.Row.drewN {α : Type} {k : Kd α} {w : World} {A : Option Addr} {xs : List α} (h : k.Row w A xs) (n : Nat) : k.Row (w.drewN n) A xs := h.mono ⟨rfl, rfl, rfl, Nat.le_refl _, fun _ _ => rfl⟩

/-- A slice of a kind: nil, empty or not; no longer than any slice may be. -/
def Kd.slice {α : Type} (k : Kd α) : Kd (List α) where
  sz := 1
  K := fun w xs cs => ∃ A cap, cs = [.slice A xs.length cap] ∧ xs.length ≤ maxLen ∧ k.Row w A xs
  len := by rintro _ _ _ ⟨A, cap, rfl, _⟩; rfl
  mono := by
    rintro _ _ _ _ ⟨A, cap, e, hm, hr⟩ hb
    exact ⟨A, cap, e, hm, hr.mono hb⟩

/-- The row's element i, its cells by their addresses. -/
theorem Kd.Row.at {α : Type} {k : Kd α} {w : World} {A : Option Addr} {xs : List α} (h : k.Row w A xs) (i : Nat) (hi : i < xs.length) :
    ∃ b o cs, A = some ⟨b, o, none⟩ ∧ k.K w xs[i] cs ∧ ∀ j (hj : j < cs.length), w.cell? ⟨b, o + i * k.sz + j, none⟩ = some cs[j] := by
  rcases h with h | ⟨b, o, e, hc⟩
  · subst h; simp at hi
  · obtain ⟨cs, h1, h2⟩ := hc i hi
    exact ⟨b, o, cs, e, h1, h2⟩

def kBool : Kd Bool := Kd.flat 1 (fun x => [.bool x]) (fun _ => rfl)
def kU64 : Kd Int := Kd.flat 1 (fun x => [.int .u64 x]) (fun _ => rfl)
def kStr : Kd ByteArray := Kd.flat 1 (fun x => [.string x]) (fun _ => rfl)

theorem bcell {W w1 : World} (hb : Below W.heap.size W w1) : (∀ b o, b < W.heap.size → w1.cell? ⟨b, o, none⟩ = W.cell? ⟨b, o, none⟩) ∧ (∀ b o, b < W.heap.size → w1.frozen? ⟨b, o, none⟩ = W.frozen? ⟨b, o, none⟩) :=
  ⟨fun b o h => hb.cell (p := ⟨b, o, none⟩) h, fun b o h => hb.frozen (p := ⟨b, o, none⟩) h⟩
theorem kBool_at {w : World} {A : Option Addr} {xs : List Bool} (h : kBool.Row w A xs) (i : Nat) (hi : i < xs.length) : ∃ b o, A = some ⟨b, o, none⟩ ∧ w.cell? ⟨b, o + i, none⟩ = some (.bool xs[i]) := by
  obtain ⟨b, o, cs, e, h1, h2⟩ := h.at i hi
  obtain rfl : cs = [.bool xs[i]] := h1
  exact ⟨b, o, e, by simpa [kBool, Kd.flat] using h2 0 (by simp)⟩
/-! ### A block of cells known whole -/
/-- Block n holds just these cells. -/
def Bk (w : World) (n : Nat) (cs : Array Value) (t : TypeId) : Prop := w.heap[n]? = some (.cells cs t (0, 0))
theorem Bk.lt {w : World} {n : Nat} {cs : Array Value} {t : TypeId} (h : Bk w n cs t) : n < w.heap.size := (Array.getElem?_eq_some_iff.1 h).1
theorem Bk.mono {w w' : World} {n : Nat} {cs : Array Value} {t : TypeId} (h : Bk w n cs t) (hb : Below w.heap.size w w') : Bk w' n cs t := (hb.block n h.lt).trans h
theorem Bk.new (w : World) (cs : Array Value) (t : TypeId) : Bk (w.alloc (.cells cs t)) w.heap.size cs t := heap_alloc_new w _
theorem Bk.newAt {w : World} {n : Nat} (cs : Array Value) (t : TypeId) (hn : n = w.heap.size) : Bk (w.alloc (.cells cs t)) n cs t := by subst hn; exact heap_alloc_new w _
theorem Bk.alloc {w : World} {n : Nat} {cs : Array Value} {t : TypeId} (h : Bk w n cs t) (o : Obj) : Bk (w.alloc o) n cs t := (Below.heap_alloc w o n h.lt).trans h
theorem Bk.drew {w : World} {n : Nat} {cs : Array Value} {t : TypeId} (h : Bk w n cs t) : Bk w.drew n cs t := h
theorem Bk.cell {w : World} {n : Nat} {cs : Array Value} {t : TypeId} (h : Bk w n cs t) (j : Nat) : w.cell? ⟨n, j, none⟩ = cs[j]? := by
  have h' : w.heap[n]? = some (.cells cs t (0, 0)) := h
  simp [World.cell?, h']
theorem Bk.free {w : World} {n : Nat} {cs : Array Value} {t : TypeId} (h : Bk w n cs t) (j : Nat) : w.frozen? ⟨n, j, none⟩ = false := by
  have h' : w.heap[n]? = some (.cells cs t (0, 0)) := h
  simp [World.frozen?, h']
theorem Bk.set {w : World} {n : Nat} {cs : Array Value} {t : TypeId} (h : Bk w n cs t) (i : Nat) (v : Value) : Bk (w.setCell ⟨n, i, none⟩ v) n (cs.setIfInBounds i v) t := heap_setCell_same w n i cs t v h
theorem Bk.other {w : World} {n : Nat} {cs : Array Value} {t : TypeId} (h : Bk w n cs t) {a : Addr} (ha : n ≠ a.block) (v : Value) : Bk (w.setCell a v) n cs t := (heap_setCell_other w a n v ha).trans h
theorem Bk.grown {w w' : World} {n : Nat} {cs : Array Value} {t : TypeId} (h : Bk w n cs t) {row : Option Nat} (hg : w.grownBy w' row) (hr : some n ≠ row) : Bk w' n cs t := (hg.block n h.lt hr).trans h

/-- The same behind a draw, and behind a block and a draw. -/
theorem Bk.monoD {w w' : World} {n : Nat} {cs : Array Value} {t : TypeId} (h : Bk w n cs t) (hb : Below w.drew.heap.size w.drew w') : Bk w' n cs t := Bk.mono (w := w.drew) h hb
theorem Bk.monoAD {w w' : World} {o : Obj} {n : Nat} {cs : Array Value} {t : TypeId} (h : Bk w n cs t) (hb : Below (w.alloc o).drew.heap.size (w.alloc o).drew w') : Bk w' n cs t := Bk.mono (w := (w.alloc o).drew) (h.alloc o) hb
theorem Bk.newAD {w w' : World} {n : Nat} {cs : Array Value} {t : TypeId} (hb : Below (w.alloc (.cells cs t)).drew.heap.size (w.alloc (.cells cs t)).drew w') (hn : n = w.heap.size) : Bk w' n cs t := Bk.mono (w := (w.alloc (.cells cs t)).drew) (Bk.newAt cs t hn) hb
theorem btD {B : Nat} {w w1 w2 : World} (h : Below B w w1) (hB : B ≤ w1.heap.size) (k : Below w1.drew.heap.size w1.drew w2) : Below B w w2 := bt' (w1 := w1.drew) h.drew hB k
theorem btAD {B : Nat} {w w1 w2 : World} {o : Obj} (h : Below B w w1) (hB : B ≤ w1.heap.size) (k : Below (w1.alloc o).drew.heap.size (w1.alloc o).drew w2) : Below B w w2 := bt' (w1 := (w1.alloc o).drew) (h.alloc hB o).drew (Nat.le_trans hB (by show _ ≤ (w1.alloc o).heap.size; rw [World.size_alloc]; omega)) k

section
variable {P : Program} {ops : Array Oper} {Q : Exit → Act → World → Prop} {rest : List Oper} {a : Act} {w : World} {o : Oper}
/-- An operation whose run is known, at the walk: it yields a value. -/
theorem wpList_run (hg : o.guard = none) (v : Value) (w' : World) (hrun : (execOp a.eval o).run P w = .ok (.value v) w') (h : wpList P ops Q rest (a.put o.dst v) w') : wpList P ops Q (o :: rest) a w :=
  wpList_plain hg fun K hK => by unfold Oper.wp; rw [hrun]; exact hK _ _ h
/-- .. a value, and the world stays. -/
theorem wpList_same (hg : o.guard = none) (v : Value) (hrun : (execOp a.eval o).run P w = .ok (.value v) w) (h : wpList P ops Q rest (a.put o.dst v) w) : wpList P ops Q (o :: rest) a w := wpList_run hg v w hrun h
/-- .. it yields nothing. -/
theorem wpList_run0 (hg : o.guard = none) (w' : World) (hrun : (execOp a.eval o).run P w = .ok .skip w') (h : wpList P ops Q rest (a.put o.dst undef) w') : wpList P ops Q (o :: rest) a w :=
  wpList_plain hg fun K hK => by unfold Oper.wp; rw [hrun]; exact hK _ _ h
/-- A whole array of a type's own, stored into the block that was made last. -/
theorem wpList_store_new (hg : o.guard = none) (t : TypeId) (p x : Operand) (ho : o.op = .store t p x) (c c' : Array Value) (w0 : World) (hp : a.eval p = .pointer (some ⟨w0.heap.size, 0, none⟩)) (hx : a.eval x = .agg c')
    (hi : (P.info? t).map (·.size) = some c'.size) (hs : c.size = c'.size) (h1 : c'.all (·.oneCell') = true) (hw : w = w0.alloc (.cells c t)) (h : wpList P ops Q rest (a.put o.dst undef) (w0.alloc (.cells c' t))) : wpList P ops Q (o :: rest) a w := by
  subst hw
  refine wpList_run0 hg _ ?_ h
  unfold execOp
  simp only [ho, hp, hx, Sem.run_bind, run_storeAt_new w0 t c c' hi hs h1, Result.andThen_ok, Sem.run_pure]
end

/-! ### Rows of the call's own -/
theorem grown_of_below {w w1 : World} (h : Below w.heap.size w w1) (row : Option Nat) : w.grownBy w1 row := ⟨h.os, h.tape, h.output, h.size, fun i hi _ => h.block i hi⟩
theorem own_below {w w1 : World} {base : Nat} {e : TypeId} {size n : Nat} {v : Value} {xs : List Value} (h : w.ownsRow base e size v n xs) (hb : Below w.heap.size w w1) : w1.ownsRow base e size v n xs :=
  h.kept (grown_of_below hb none) (by cases v.ownBlock <;> simp)
theorem own_base {w : World} {base : Nat} {e : TypeId} {size n : Nat} {v : Value} {xs : List Value} (h : w.ownsRow base e size v n xs) {k : Nat} (hk : k < base) : some k ≠ v.ownBlock := by
  intro hv
  rcases h.2 with ⟨rfl, _⟩ | ⟨g, cap, cur, rfl, hb, _⟩
  · simp [Value.ownBlock] at hv
  · have : k = g := by simpa [Value.ownBlock] using hv
    omega
theorem own_lt {w : World} {base : Nat} {e : TypeId} {size n : Nat} {v : Value} {xs : List Value} (h : w.ownsRow base e size v n xs) {k : Nat} (hk : w.heap.size ≤ k) : some k ≠ v.ownBlock := by
  intro hv
  rcases h.2 with ⟨rfl, _⟩ | ⟨g, cap, cur, rfl, hb, hh, _⟩
  · simp [Value.ownBlock] at hv
  · have : k = g := by simpa [Value.ownBlock] using hv
    have := (Array.getElem?_eq_some_iff.1 hh).1
    omega
theorem own_from {w : World} {base : Nat} {e : TypeId} {size n : Nat} {v : Value} {xs : List Value} (h : w.ownsRow base e size v n xs) : ∀ k, v.ownBlock = some k → base ≤ k := by
  intro k hk
  rcases Nat.lt_or_ge k base with hl | hl
  · exact absurd hk.symm (own_base h hl)
  · exact hl

theorem ret_bool {a b : Bool} (h : a = b) : Ending.returned (.bool a) = .returned (.bool b) := by rw [h]
theorem ret_int {k : IntKind} {a b : Int} (h : a = b) : Ending.returned (.int k a) = .returned (.int k b) := by rw [h]

end Go.Proofs.YtoabiignjkcdmaaGreat

namespace Go.Proofs.YtoabiignjkcdmaaGreat
open Go.RowKit
set_option linter.unusedVariables false
set_option linter.unusedSimpArgs false

/-- A step. -/
structure SOp where
  k : Int
  fn : Int
  d : Int
  a : Int
  b : Int
  imm : Int

/-- What is handed in. -/
structure SHanded where
  buf : Bool
  sec : Bool
  mu : Bool
  d : Int
  len : Int

/-- A block. -/
structure SBlock where
  ops : List SOp
  e : Int
  a : Int
  go : Int
  els : Int

/-- A program of steps. -/
structure SIr where
  sec : List Bool
  par : List SHanded
  blk : List SBlock

def SOp.cells (o : SOp) : List Value := [.int .u8 o.k, .int .u8 o.fn, .int .i64 o.d, .int .i64 o.a, .int .i64 o.b, .int .u64 o.imm]
def SOp.val (o : SOp) : Value := .agg #[.int .u8 o.k, .int .u8 o.fn, .int .i64 o.d, .int .i64 o.a, .int .i64 o.b, .int .u64 o.imm]
def SHanded.cells (h : SHanded) : List Value := [.bool h.buf, .bool h.sec, .bool h.mu, .int .i64 h.d, .int .i64 h.len]
def kOp : Kd SOp := Kd.flat 6 SOp.cells (fun _ => rfl)
def kHanded : Kd SHanded := Kd.flat 5 SHanded.cells (fun _ => rfl)

def kBlock : Kd SBlock where
  sz := 5
  K := fun w x cs => ∃ A cap, cs = [.slice A x.ops.length cap, .int .u8 x.e, .int .i64 x.a, .int .i64 x.go, .int .i64 x.els] ∧ x.ops.length ≤ maxLen ∧ kOp.Row w A x.ops
  len := by rintro _ _ _ ⟨A, cap, rfl, _⟩; rfl
  mono := by
    rintro _ _ _ _ ⟨A, cap, e, hm, hr⟩ hb
    exact ⟨A, cap, e, hm, hr.mono hb⟩

/-- A block as a value. -/
def SBlock.At (x : SBlock) (w : World) (v : Value) : Prop :=
  ∃ A cap, v = .agg #[.slice A x.ops.length cap, .int .u8 x.e, .int .i64 x.a, .int .i64 x.go, .int .i64 x.els] ∧ x.ops.length ≤ maxLen ∧ kOp.Row w A x.ops

/-- A program as a value. -/
def SIr.At (p : SIr) (w : World) (v : Value) : Prop :=
  ∃ S c1 P c2 B c3, v = .agg #[.slice S p.sec.length c1, .slice P p.par.length c2, .slice B p.blk.length c3] ∧
    (p.sec.length ≤ maxLen ∧ p.par.length ≤ maxLen ∧ p.blk.length ≤ maxLen) ∧ kBool.Row w S p.sec ∧ kHanded.Row w P p.par ∧ kBlock.Row w B p.blk

theorem SBlock.At.mono {x : SBlock} {w w' : World} {v : Value} (h : x.At w v) (hb : Below w.heap.size w w') : x.At w' v := by
  obtain ⟨A, cap, e, hm, hr⟩ := h
  exact ⟨A, cap, e, hm, hr.mono hb⟩
theorem SIr.At.mono {p : SIr} {w w' : World} {v : Value} (h : p.At w v) (hb : Below w.heap.size w w') : p.At w' v := by
  obtain ⟨S, c1, P, c2, B, c3, e, hm, h1, h2, h3⟩ := h
  exact ⟨S, c1, P, c2, B, c3, e, hm, h1.mono hb, h2.mono hb, h3.mono hb⟩

/-! ### What may be -/
def varB (n : Nat) (v : Int) (is : Bool) : Bool := if is then decide (0 ≤ v) && decide (v < (n : Int)) else v == 0
def secS (p : SIr) (v : Int) : Bool := p.sec.getD v.toNat false


/-- The table of fields: of each kind from 0 to 13: fn, d, a, b, imm, publicA, publicB, flows, publicD. -/
def kindBits : List Bool := [
  false, false, false, false, false, false, false, false, false,
  false, true, false, false, true, false, false, false, false,
  false, true, true, false, false, false, false, true, false,
  true, true, true, true, false, false, false, true, false,
  true, true, true, false, false, true, false, false, false,
  true, false, true, true, false, true, false, false, false,
  false, false, true, true, false, true, true, false, false,
  false, false, true, true, false, true, true, false, false,
  false, false, true, false, false, true, false, false, false,
  true, true, true, false, false, true, false, false, true,
  false, false, true, true, false, true, true, false, false,
  false, false, true, false, false, true, false, false, false,
  false, true, true, false, false, false, false, false, false,
  false, false, false, false, false, false, false, false, false]
def kf (k : Int) (j : Nat) : Bool := kindBits.getD (k.toNat * 9 + j) false

/-- May a step of a kind be, its variables being there, by whether A, B and D are secret? -/
def opE (k fn : Int) (a b d : Bool) : Bool := (k == 3 && (decide (fn < 1) || decide (14 < fn) || decide (13 ≤ fn) && (a || b))) || (k == 4 && fn == 1 && !d) || (k == 5 && fn == 0 && b)
def opG (k fn : Int) : Bool := k != 3 && (decide (1 < fn) || fn == 1 && !kf k 0)
def opT (k fn : Int) (a b d : Bool) : Bool := !opE k fn a b d && !opG k fn && !(kf k 5 && a || kf k 6 && b || kf k 8 && d || kf k 7 && (a || b) && !d)
def opV (n : Nat) (k d a b imm : Int) : Bool := !varB n d (kf k 1) || !varB n a (kf k 2) || !varB n b (kf k 3) || (!kf k 4 && imm != 0)
/-- May a step be? -/
def opS (p : SIr) (o : SOp) : Bool :=
  if o.k < 1 ∨ 13 < o.k then false
  else if opV p.sec.length o.k o.d o.a o.b o.imm = true then false
  else opT o.k o.fn (kf o.k 2 && secS p o.a) (kf o.k 3 && secS p o.b) (kf o.k 1 && secS p o.d)
theorem varB_in {n : Nat} {v : Int} (h : varB n v true = true) : 0 ≤ v ∧ v < (n : Int) := by simpa [varB] using h

end Go.Proofs.YtoabiignjkcdmaaGreat

namespace Go.Proofs.YtoabiignjkcdmaaGreat
open Go.RowKit Go.ChangeShapes Go.WideShapes Go.ChangeAt
set_option linter.unusedVariables false
set_option linter.unusedSimpArgs false

/-- Data of a type lie as a kind says, and have a property. -/
def Opens {α : Type} (P : Program) (t : TypeId) (k : Kd α) (Q : α → Prop) : Prop :=
  ∀ {H : Type} (enc : TypeId × Value → H) (w : World) (sp : Nat → Bool) (fuel : Nat) (cs : List Value) (x : DataW H × List MemPlace),
    DataW.trod enc P w 0 sp true fuel t cs = some x → (∀ n ∈ x.1.weights P t, n ≤ reachBytes) → ∃ a, k.K w a cs ∧ Q a

section
variable {P : Program} {t e : TypeId}
theorem opens_int {K : IntKind} (f : Int → List Value) (hf : ∀ x, (f x).length = 1) (he : ∀ x, f x = [.int K x]) (ht : P.underlying t = some (.int K)) : Opens P t (Kd.flat 1 f hf) (fun x => (Lit.int K x).wf = true) := by
  intro H enc w sp fuel cs x h _
  obtain ⟨n, rfl, _, hw⟩ := DataW.trod_int ht h
  exact ⟨n, (he n).symm, hw⟩
theorem opens_bool (ht : P.underlying t = some .bool) : Opens P t kBool (fun _ => True) := by
  intro H enc w sp fuel cs x h _
  obtain ⟨b, rfl, _⟩ := DataW.trod_bool ht h
  exact ⟨b, rfl, trivial⟩
theorem opens_str (ht : P.underlying t = some .string) : Opens P t kStr (fun s => s.size ≤ reachBytes) := by
  intro H enc w sp fuel cs x h hw
  obtain ⟨s, rfl, rfl, _⟩ := DataW.trod_string ht h
  refine ⟨s, rfl, ?_⟩
  have := hw s.data.toList.length (by simp [DataW.weights])
  simpa using this
theorem weights_all {H : Type} {l : List (DataW H)} {d : DataW H} (hd : d ∈ l) : ∀ n ∈ d.weights P e, n ∈ DataW.weightsAll P e l := by
  induction l with
  | nil => cases hd
  | cons a r ih =>
    intro n hn
    rw [DataW.weightsAll, List.mem_append]
    rcases List.mem_cons.1 hd with rfl | h
    · exact .inl hn
    · exact .inr (ih h n hn)
theorem addr_add2 (b o i j : Nat) : ((⟨b, o, none⟩ : Addr).add i).add j = ⟨b, o + i + j, none⟩ := by
  simp only [Addr.add]
  split <;> split <;> simp_all
theorem spot_none {w : World} {a : Addr} {v : Value} (h : w.cell? a = some v) : a.spot = none := by
  unfold World.cell? at h
  split at h
  · split at h
    · cases h
    · rename_i hs; simpa using hs
  · cases h
theorem collect {α : Type} {R : Nat → α → Prop} : ∀ (n : Nat), (∀ i (hi : i < n), ∃ z, R i z) → ∃ L : List α, L.length = n ∧ ∀ i (hi : i < L.length), R i L[i]
  | 0, _ => ⟨[], rfl, fun i hi => absurd hi (by simp)⟩
  | m + 1, hex => by
    obtain ⟨L, h1, h2⟩ := collect m (fun i hi => hex i (by omega))
    obtain ⟨z, h3⟩ := hex m (by omega)
    refine ⟨L ++ [z], by simp [h1], fun i hi => ?_⟩
    by_cases he : i < L.length
    · rw [List.getElem_append_left he]; exact h2 i he
    · have : i = L.length := by simp at hi; omega
      subst this
      simp only [List.getElem_append_right (Nat.le_refl _), Nat.sub_self, List.getElem_cons_zero]
      rw [h1]; exact h3
theorem opens_slice {α : Type} {k : Kd α} {Q : α → Prop} (hsz : 0 < k.sz) (hk : Opens P e k Q) (ht : P.underlying t = some (.slice e)) (hs : P.cellsOf e = k.sz) :
    Opens P t k.slice (fun l => l.length * P.bytesOf e ≤ reachBytes ∧ ∀ a ∈ l, Q a) := by
  intro H enc w sp fuel cs x h hw
  rcases DataW.trod_slice ht h with ⟨rfl, rfl⟩ | ⟨a, len, cap, elems, rest, n, rfl, rfl, rfl, _, hl, hc, hel, hat, _, _⟩
  · exact ⟨[], ⟨none, 0, rfl, by unfold maxLen; simp, .inl rfl⟩, by simp, by simp⟩
  · have hwt : (elems.length + rest.length) * P.bytesOf e ≤ reachBytes := by
      have := hw ((elems.length + rest.length) * P.bytesOf e) (by simp [DataW.weights, ht])
      exact this
    have hwe : ∀ y ∈ elems, ∀ n ∈ y.1.weights P e, n ≤ reachBytes := fun y hy n hn => hw n (by
      simp only [DataW.weights, ht, List.mem_cons, List.mem_append]
      exact .inr (.inl (weights_all (List.mem_map_of_mem hy) n hn)))
    have hex : ∀ i (hi : i < len), ∃ z, (∃ ds, w.cells? 0 (a.add (i * P.cellsOf e)) (P.cellsOf e) = some ds ∧ k.K w z ds) ∧ Q z := by
      intro i hi
      have h1 := hat i hi
      rw [List.getElem?_eq_getElem (by omega), Option.bind_eq_some_iff] at h1
      obtain ⟨ds, h2, h3⟩ := h1
      obtain ⟨z, hz, hq⟩ := hk enc w sp n ds _ h3 (hwe _ (List.getElem_mem _))
      exact ⟨z, ⟨ds, h2, hz⟩, hq⟩
    obtain ⟨L, hLl, hL⟩ := collect len hex
    refine ⟨L, ⟨some a, cap, by rw [hLl], by omega, ?_⟩, ?_, ?_⟩
    · by_cases h0 : L = []
      · exact .inl h0
      · have hpos : 0 < L.length := List.length_pos_iff.2 h0
        right
        obtain ⟨ds0, h1, h2⟩ := (hL 0 hpos).1
        obtain ⟨_, h3, h4⟩ := World.cells?_some h1
        have h5 := h4 0 (by omega)
        rw [Nat.zero_mul] at h5
        have h6 : ((a.add 0).add 0) = a := by simp [Addr.add]
        rw [h6, List.getElem?_eq_getElem (by omega)] at h5
        have hsp := spot_none h5
        obtain ⟨b, o, s⟩ := a
        cases hsp
        refine ⟨b, o, rfl, fun i hi => ?_⟩
        obtain ⟨ds, g1, g2⟩ := (hL i hi).1
        obtain ⟨_, g3, g4⟩ := World.cells?_some g1
        refine ⟨ds, g2, fun j hj => ?_⟩
        have g5 := g4 j (by omega)
        rw [addr_add2, List.getElem?_eq_getElem hj] at g5
        rw [← hs]
        exact g5
    · have : L.length * P.bytesOf e ≤ (elems.length + rest.length) * P.bytesOf e := Nat.mul_le_mul_right _ (by omega)
      omega
    · intro b hb
      obtain ⟨i, hi, rfl⟩ := List.getElem_of_mem hb
      exact (hL i hi).2

/-- A struct's field, by its place. -/
theorem open_struct {H : Type} {enc : TypeId × Value → H} {w : World} {sp : Nat → Bool} {fs : Array Field} {fuel : Nat} {cs : List Value} {x : DataW H × List MemPlace} (ht : P.underlying t = some (.struct fs))
    (h : DataW.trod enc P w 0 sp true fuel t cs = some x) (hw : ∀ n ∈ x.1.weights P t, n ≤ reachBytes) :
    cs.length = P.cellsOf t ∧ ∃ n, ∀ (i : Nat) (f : Field), fs[i]? = some f → ∃ y, DataW.trod enc P w 0 sp true n f.type ((cs.drop f.offset).take (P.cellsOf f.type)) = some y ∧ ∀ n ∈ y.1.weights P f.type, n ≤ reachBytes := by
  obtain ⟨xs, n, rfl, rfl, hl, hx, hf⟩ := DataW.trod_struct ht h
  refine ⟨hl, n, fun i f hi => ?_⟩
  have h1 := hf i f hi
  have hi' : i < xs.length := by rw [hx]; exact (Array.getElem?_eq_some_iff.1 hi).1
  rw [List.getElem?_eq_getElem hi'] at h1
  refine ⟨_, h1, fun m hm => hw m ?_⟩
  simp only [DataW.weights, ht]
  exact DataW.weights_mem_each (j := i) (by simp [List.getElem?_map, hi]) (by simp [List.getElem?_map, List.getElem?_eq_getElem hi']) m hm
theorem fld {H : Type} {enc : TypeId × Value → H} {w : World} {sp : Nat → Bool} {fs : Array Field} {n : Nat} {cs : List Value}
    (hf : ∀ (i : Nat) (f : Field), fs[i]? = some f → ∃ y, DataW.trod enc P w 0 sp true n f.type ((cs.drop f.offset).take (P.cellsOf f.type)) = some y ∧ ∀ n ∈ y.1.weights P f.type, n ≤ reachBytes)
    (i : Nat) (f : Field) (hi : fs[i]? = some f) (ty off c : Nat) (h1 : f.type = ty) (h2 : f.offset = off) (h3 : P.cellsOf ty = c) :
    ∃ y, DataW.trod enc P w 0 sp true n ty ((cs.drop off).take c) = some y ∧ ∀ n ∈ y.1.weights P ty, n ≤ reachBytes := by
  subst h1; subst h2; subst h3
  exact hf i f hi
end

/-! ### This seat's types -/
theorem list6 {α : Type} {l : List α} (h : l.length = 6) : ∃ a b c d e f, l = [a, b, c, d, e, f] := by
  match l, h with
  | [a, b, c, d, e, f], _ => exact ⟨a, b, c, d, e, f, rfl⟩
theorem list5 {α : Type} {l : List α} (h : l.length = 5) : ∃ a b c d e, l = [a, b, c, d, e] := by
  match l, h with
  | [a, b, c, d, e], _ => exact ⟨a, b, c, d, e, rfl⟩
theorem list3 {α : Type} {l : List α} (h : l.length = 3) : ∃ a b c, l = [a, b, c] := by
  match l, h with
  | [a, b, c], _ => exact ⟨a, b, c, rfl⟩

theorem cellsOp : Tryz.prog.cellsOf 54 = 6 := by kernel_rfl
theorem cellsU8 : Tryz.prog.cellsOf 5 = 1 := by kernel_rfl
theorem cellsInt : Tryz.prog.cellsOf 3 = 1 := by kernel_rfl
theorem cellsU64 : Tryz.prog.cellsOf 46 = 1 := by kernel_rfl
theorem cellsBool : Tryz.prog.cellsOf 4 = 1 := by kernel_rfl

def SOp.wf (o : SOp) : Prop := (Lit.int .u8 o.k).wf = true ∧ (Lit.int .u8 o.fn).wf = true ∧ (Lit.int .i64 o.d).wf = true ∧ (Lit.int .i64 o.a).wf = true ∧ (Lit.int .i64 o.b).wf = true ∧ (Lit.int .u64 o.imm).wf = true

theorem opens_op : Opens Tryz.prog 54 kOp SOp.wf := by
  intro H enc w sp fuel cs x h hw
  obtain ⟨hl, n, hf⟩ := open_struct Tryz.underlying54 h hw
  obtain ⟨c0, c1, c2, c3, c4, c5, rfl⟩ := list6 (hl.trans cellsOp)
  obtain ⟨y0, h0, -⟩ := fld hf 0 _ rfl 5 0 1 rfl rfl cellsU8
  obtain ⟨y1, h1, -⟩ := fld hf 1 _ rfl 5 1 1 rfl rfl cellsU8
  obtain ⟨y2, h2, -⟩ := fld hf 2 _ rfl 3 2 1 rfl rfl cellsInt
  obtain ⟨y3, h3, -⟩ := fld hf 3 _ rfl 3 3 1 rfl rfl cellsInt
  obtain ⟨y4, h4, -⟩ := fld hf 4 _ rfl 3 4 1 rfl rfl cellsInt
  obtain ⟨y5, h5, -⟩ := fld hf 5 _ rfl 46 5 1 rfl rfl cellsU64
  simp only [List.drop_succ_cons, List.drop_zero, List.take_succ_cons, List.take_zero] at h0 h1 h2 h3 h4 h5
  obtain ⟨k, e0, -, w0⟩ := DataW.trod_int Tryz.underlying5 h0
  obtain ⟨fn, e1, -, w1⟩ := DataW.trod_int Tryz.underlying5 h1
  obtain ⟨d, e2, -, w2⟩ := DataW.trod_int Tryz.underlying3 h2
  obtain ⟨a, e3, -, w3⟩ := DataW.trod_int Tryz.underlying3 h3
  obtain ⟨b, e4, -, w4⟩ := DataW.trod_int Tryz.underlying3 h4
  obtain ⟨imm, e5, -, w5⟩ := DataW.trod_int Tryz.underlying46 h5
  simp only [List.cons.injEq, and_true] at e0 e1 e2 e3 e4 e5
  subst e0; subst e1; subst e2; subst e3; subst e4; subst e5
  exact ⟨⟨k, fn, d, a, b, imm⟩, rfl, w0, w1, w2, w3, w4, w5⟩

/-! ### The frame of a law's row -/
theorem trodAll_below {H : Type} {enc : TypeId × Value → H} {P : Program} (hl : laidOutB P = true) {W W' : World} (hb : Below W.heap.size W W') : ∀ {ts : List TypeId} {vs : List Value} {ds : List (DataW H)} {ps : List MemPlace},
    (∀ t ∈ ts, P.readableRec t = true ∧ t < P.types.size) → DataW.TrodAll enc P W 0 (fun _ => true) true ts vs ds ps →
    DataW.TrodAll enc P W' 0 (fun b => decide (b < W.heap.size)) true ts vs ds ps
  | [], [], [], _, _, h => h
  | t :: ts, v :: vs, d :: ds, _, ht, h => by
    obtain ⟨p, q, h1, h2, rfl⟩ := h
    refine ⟨p, q, Below.trod hl (ht t (by simp)).1 (ht t (by simp)).2 h1 hb ?_, trodAll_below hl hb (fun t' h' => ht t' (by simp [h'])) h2, rfl⟩
    obtain ⟨m, hm⟩ := h1
    exact DataW.trod_lt m _ _ _ hm
  | [], [], _ :: _, _, _, h => h.elim
  | [], _ :: _, _, _, _, h => h.elim
  | _ :: _, [], _, _, _, h => h.elim
  | _ :: _, _ :: _, [], _, _, h => h.elim
theorem laidOut : laidOutB Tryz.prog = true := by kernel_rfl
theorem own : ownKnob Tryz.prog.godebug = none := by kernel_rfl
end Go.Proofs.YtoabiignjkcdmaaGreat

namespace Go.Proofs.YtoabiignjkcdmaaGreat
open Go.RowKit
set_option linter.unusedVariables false
set_option linter.unusedSimpArgs false

set_option maxHeartbeats 400000 in
theorem variable_c {S : Option Addr} {n c : Nat} {p2 p3 : Value} (v : Int) (is : Bool) (w : World) :
    Calls Tryz.prog 44 #[.agg #[.slice S n c, p2, p3], .int .i64 v, .bool is] w fun e w' => e = .returned (.bool (varB n v is)) ∧ Below w.heap.size w w' := by
  go_enter Tryz.func44, Tryz.ntmps44
  go_wp2
  all_goals
    go_ret
    refine ⟨?_, (Below.refl _ _).alloc (Nat.le_refl _) _⟩
    simp [varB, *]
    try omega

set_option maxHeartbeats 400000 in
theorem endBlock_c {b : Nat} {B : Option Addr} {n c : Nat} (v : Int) (w : World) (h0 : w.cell? ⟨b, 2, none⟩ = some (.slice B n c)) :
    Calls Tryz.prog 48 #[.int .i64 v, .pointer (some ⟨b, 0, none⟩)] w fun e w' => e = .returned (.bool (decide (0 ≤ v) && decide (v < (n : Int)))) ∧ w = w' := by
  go_enter Tryz.func48, Tryz.ntmps48
  go_wp2
  all_goals
    go_ret
    refine ⟨?_, rfl⟩
    simp [*]
    try omega

set_option maxHeartbeats 400000 in
theorem opSecret_c {b : Nat} {S : Option Addr} {sec : List Bool} {c : Nat} (v : Int) (is : Bool) (w : World) (h0 : w.cell? ⟨b, 0, none⟩ = some (.slice S sec.length c)) (hs : kBool.Row w S sec)
    (hv : is = true → 0 ≤ v ∧ v < (sec.length : Int)) :
    Calls Tryz.prog 51 #[.int .i64 v, .bool is, .pointer (some ⟨b, 0, none⟩)] w fun e w' => e = .returned (.bool (is && sec.getD v.toNat false)) ∧ w = w' := by
  cases is with
  | false =>
    go_enter Tryz.func51, Tryz.ntmps51
    go_wp2
    go_ret
    exact ⟨rfl, rfl⟩
  | true =>
    obtain ⟨h1, h2⟩ := hv rfl
    have h5 : v.toNat < sec.length := by omega
    obtain ⟨sb, so, rfl, h4⟩ := kBool_at hs v.toNat h5
    clear hs
    go_enter Tryz.func51, Tryz.ntmps51
    go_wp2
    go_ret
    exact ⟨by simp, rfl⟩

def kindCells : Value := .agg (kindBits.map Value.bool).toArray

def kindZero : Array Value := Array.replicate 126 (.bool false)
set_option maxRecDepth 100000 in
set_option maxHeartbeats 1000000 in
theorem kinds_c (w : World) : Calls Tryz.prog 50 #[] w fun e w' => e = .returned kindCells ∧ Below w.heap.size w w' := by
  go_enter Tryz.func50, Tryz.ntmps50
  go_wp2_with (first
    | (with_reducible refine wpList_run (o := ⟨some 0, .alloc _, _, _, _, _⟩) rfl (.pointer (some ⟨w.heap.size, 0, none⟩)) (w.alloc (.cells kindZero 95)) (by kernel_rfl) ?_)
    | (with_reducible refine wpList_same (o := ⟨some 14, .build _ _, _, _, _, _⟩) rfl kindCells (by kernel_rfl) ?_)
    | (with_reducible refine wpList_store_new rfl _ _ _ rfl kindZero (kindBits.map Value.bool).toArray w rfl rfl (by kernel_rfl) (by kernel_rfl) (by kernel_rfl) rfl ?_))
  refine bodyPost_ret (v := kindCells) ?_ rfl ⟨rfl, (Below.refl _ _).alloc (Nat.le_refl _) _⟩
  exact results_cell_row rfl _ _ w.heap.size 95 _ (0, 0) (.array 14 94) rfl (heap_alloc_last _ _) (by kernel_rfl) rfl (by kernel_rfl)

end Go.Proofs.YtoabiignjkcdmaaGreat
