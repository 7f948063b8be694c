/-
  How values and rows of cells stand for plain data: the words that all walks of this seat use.
-/
import Derived.WalkKit
import Derived.Lib.Hide
import Derived.WalkSpells
import Derived.WalkLawsBesides
import Derived.ProofKit
import Derived.Deep.Slices
import Derived.Deep.QuietTactic
import Derived.BigQuiet
import Derived.Deep.DeepCutAuto
import Derived.Deep.WholeRow
import Derived.Deep.CutBlock
import Derived.Deep.Light
import Derived.Deep.RegionHeld3
namespace Go.Proofs.YtoabiignjkcdmaaGreat
open Go.RowKit
set_option linter.unusedVariables false
set_option linter.unusedSimpArgs false

/-- A cell that was there is there. -/
theorem cm {w w' : World} {a : Addr} {v : Value} (h : w.cell? a = some v) (hb : Below w.heap.size w w') : w'.cell? a = some v := (hb.cell (World.block_lt_of_cell? w a h)).trans h
/-- .. and may be written just if it might. -/
theorem fm {w w' : World} {a : Addr} {v : Value} {t : Bool} (hf : w.frozen? a = t) (h : w.cell? a = some v) (hb : Below w.heap.size w w') : w'.frozen? a = t := (hb.frozen (World.block_lt_of_cell? w a h)).trans hf
/-- One world behind another. -/
theorem bt {w w1 w2 : World} (h : Below w.heap.size w w1) (k : Below w1.heap.size w1 w2) : Below w.heap.size w w2 := h.trans (k.mono h.size)
theorem bt' {B : Nat} {w w1 w2 : World} (h : Below B w w1) (hB : B ≤ w1.heap.size) (k : Below w1.heap.size w1 w2) : Below B w w2 := h.trans (k.mono hB)

/-- A kind of data: how many cells one takes, and which cells stand for which datum. What is read so is read so in every later world. -/
structure Kd (α : Type) where
  sz : Nat
  K : World → α → List Value → Prop
  len : ∀ {w x cs}, K w x cs → cs.length = sz
  mono : ∀ {w w' x cs}, K w x cs → Below w.heap.size w w' → K w' x cs

/-- A kind that leads nowhere: its cells are written out. -/
def Kd.flat {α : Type} (n : Nat) (f : α → List Value) (h : ∀ x, (f x).length = n) : Kd α where
  sz := n
  K := fun _ x cs => cs = f x
  len := by rintro _ x _ rfl; exact h x
  mono := by rintro _ _ _ _ h _; exact h

/-- xs lie as a row from A on. -/
def Kd.Row {α : Type} (k : Kd α) (w : World) (A : Option Addr) (xs : List α) : Prop :=
  xs = [] ∨ ∃ b o, A = some ⟨b, o, none⟩ ∧ ∀ i (h : i < xs.length), ∃ cs, k.K w xs[i] cs ∧ ∀ j (hj : j < cs.length), w.cell? ⟨b, o + i * k.sz + j, none⟩ = some cs[j]

theorem Kd.Row.mono {α : Type} {k : Kd α} {w w' : World} {A : Option Addr} {xs : List α} (h : k.Row w A xs) (hb : Below w.heap.size w w') : k.Row w' A xs := by
  rcases h with h | ⟨b, o, e, hc⟩
  · exact .inl h
  · refine .inr ⟨b, o, e, fun i hi => ?_⟩
    obtain ⟨cs, h1, h2⟩ := hc i hi
    exact ⟨cs, k.mono h1 hb, fun j hj => cm (h2 j hj) hb⟩

theorem Kd.Row.drewN {α : Type} {k : Kd α} {w : World} {A : Option Addr} {xs : List α} (h : k.Row w A xs) (n : Nat) : k.Row (w.drewN n) A xs := h.mono ⟨rfl, rfl, rfl, Nat.le_refl _, fun _ _ => rfl⟩

/-- A slice of a kind: nil, empty or not; no longer than any slice may be. -/
def Kd.slice {α : Type} (k : Kd α) : Kd (List α) where
  sz := 1
  K := fun w xs cs => ∃ A cap, cs = [.slice A xs.length cap] ∧ xs.length ≤ maxLen ∧ k.Row w A xs
  len := by rintro _ _ _ ⟨A, cap, rfl, _⟩; rfl
  mono := by
    rintro _ _ _ _ ⟨A, cap, e, hm, hr⟩ hb
    exact ⟨A, cap, e, hm, hr.mono hb⟩

/-- The row's element i, its cells by their addresses. -/
theorem Kd.Row.at {α : Type} {k : Kd α} {w : World} {A : Option Addr} {xs : List α} (h : k.Row w A xs) (i : Nat) (hi : i < xs.length) :
    ∃ b o cs, A = some ⟨b, o, none⟩ ∧ k.K w xs[i] cs ∧ ∀ j (hj : j < cs.length), w.cell? ⟨b, o + i * k.sz + j, none⟩ = some cs[j] := by
  rcases h with h | ⟨b, o, e, hc⟩
  · subst h; simp at hi
  · obtain ⟨cs, h1, h2⟩ := hc i hi
    exact ⟨b, o, cs, e, h1, h2⟩

def kBool : Kd Bool := Kd.flat 1 (fun x => [.bool x]) (fun _ => rfl)
def kInt : Kd Int := Kd.flat 1 (fun x => [.int .i64 x]) (fun _ => rfl)
def kU64 : Kd Int := Kd.flat 1 (fun x => [.int .u64 x]) (fun _ => rfl)
def kStr : Kd ByteArray := Kd.flat 1 (fun x => [.string x]) (fun _ => rfl)

theorem bcell {W w1 : World} (hb : Below W.heap.size W w1) : (∀ b o, b < W.heap.size → w1.cell? ⟨b, o, none⟩ = W.cell? ⟨b, o, none⟩) ∧ (∀ b o, b < W.heap.size → w1.frozen? ⟨b, o, none⟩ = W.frozen? ⟨b, o, none⟩) :=
  ⟨fun b o h => hb.cell (p := ⟨b, o, none⟩) h, fun b o h => hb.frozen (p := ⟨b, o, none⟩) h⟩
theorem kBool_at {w : World} {A : Option Addr} {xs : List Bool} (h : kBool.Row w A xs) (i : Nat) (hi : i < xs.length) : ∃ b o, A = some ⟨b, o, none⟩ ∧ w.cell? ⟨b, o + i, none⟩ = some (.bool xs[i]) := by
  obtain ⟨b, o, cs, e, h1, h2⟩ := h.at i hi
  obtain rfl : cs = [.bool xs[i]] := h1
  exact ⟨b, o, e, by simpa [kBool, Kd.flat] using h2 0 (by simp)⟩
theorem kInt_at {w : World} {A : Option Addr} {xs : List Int} (h : kInt.Row w A xs) (i : Nat) (hi : i < xs.length) : ∃ b o, A = some ⟨b, o, none⟩ ∧ w.cell? ⟨b, o + i, none⟩ = some (.int .i64 xs[i]) := by
  obtain ⟨b, o, cs, e, h1, h2⟩ := h.at i hi
  obtain rfl : cs = [.int .i64 xs[i]] := h1
  exact ⟨b, o, e, by simpa [kInt, Kd.flat] using h2 0 (by simp)⟩

/-! ### A block of cells known whole -/
/-- Block n holds just these cells. -/
def Bk (w : World) (n : Nat) (cs : Array Value) (t : TypeId) : Prop := w.heap[n]? = some (.cells cs t (0, 0))
theorem heap_get_alloc (w : World) (o : Obj) (k : Nat) : (w.alloc o).heap[k]? = if k = w.heap.size then some o else w.heap[k]? := by
  show (w.heap.push o)[k]? = _
  rw [Array.getElem?_push]
theorem heap_drew' (w : World) : w.drew.heap = w.heap := rfl
theorem Bk.lt {w : World} {n : Nat} {cs : Array Value} {t : TypeId} (h : Bk w n cs t) : n < w.heap.size := (Array.getElem?_eq_some_iff.1 h).1
theorem Bk.mono {w w' : World} {n : Nat} {cs : Array Value} {t : TypeId} (h : Bk w n cs t) (hb : Below w.heap.size w w') : Bk w' n cs t := (hb.block n h.lt).trans h
theorem Bk.monoB {w w' : World} {n B : Nat} {cs : Array Value} {t : TypeId} (h : Bk w n cs t) (hb : Below B w w') (hB : n < B) : Bk w' n cs t := (hb.block n hB).trans h
theorem Bk.new (w : World) (cs : Array Value) (t : TypeId) : Bk (w.alloc (.cells cs t)) w.heap.size cs t := heap_alloc_new w _
theorem Bk.newAt {w : World} {n : Nat} (cs : Array Value) (t : TypeId) (hn : n = w.heap.size) : Bk (w.alloc (.cells cs t)) n cs t := by subst hn; exact heap_alloc_new w _
theorem Bk.alloc {w : World} {n : Nat} {cs : Array Value} {t : TypeId} (h : Bk w n cs t) (o : Obj) : Bk (w.alloc o) n cs t := (Below.heap_alloc w o n h.lt).trans h
theorem Bk.drew {w : World} {n : Nat} {cs : Array Value} {t : TypeId} (h : Bk w n cs t) : Bk w.drew n cs t := h
theorem Bk.cell {w : World} {n : Nat} {cs : Array Value} {t : TypeId} (h : Bk w n cs t) (j : Nat) : w.cell? ⟨n, j, none⟩ = cs[j]? := by
  have h' : w.heap[n]? = some (.cells cs t (0, 0)) := h
  simp [World.cell?, h']
theorem Bk.free {w : World} {n : Nat} {cs : Array Value} {t : TypeId} (h : Bk w n cs t) (j : Nat) : w.frozen? ⟨n, j, none⟩ = false := by
  have h' : w.heap[n]? = some (.cells cs t (0, 0)) := h
  simp [World.frozen?, h']
theorem Bk.set {w : World} {n : Nat} {cs : Array Value} {t : TypeId} (h : Bk w n cs t) (i : Nat) (v : Value) : Bk (w.setCell ⟨n, i, none⟩ v) n (cs.setIfInBounds i v) t := heap_setCell_same w n i cs t v h
theorem Bk.other {w : World} {n : Nat} {cs : Array Value} {t : TypeId} (h : Bk w n cs t) {a : Addr} (ha : n ≠ a.block) (v : Value) : Bk (w.setCell a v) n cs t := (heap_setCell_other w a n v ha).trans h
theorem Bk.grown {w w' : World} {n : Nat} {cs : Array Value} {t : TypeId} (h : Bk w n cs t) {row : Option Nat} (hg : w.grownBy w' row) (hr : some n ≠ row) : Bk w' n cs t := (hg.block n h.lt hr).trans h

/-- The same behind a draw, and behind a block and a draw. -/
theorem Bk.monoD {w w' : World} {n : Nat} {cs : Array Value} {t : TypeId} (h : Bk w n cs t) (hb : Below w.drew.heap.size w.drew w') : Bk w' n cs t := Bk.mono (w := w.drew) h hb
theorem Bk.monoAD {w w' : World} {o : Obj} {n : Nat} {cs : Array Value} {t : TypeId} (h : Bk w n cs t) (hb : Below (w.alloc o).drew.heap.size (w.alloc o).drew w') : Bk w' n cs t := Bk.mono (w := (w.alloc o).drew) (h.alloc o) hb
theorem Bk.newAD {w w' : World} {n : Nat} {cs : Array Value} {t : TypeId} (hb : Below (w.alloc (.cells cs t)).drew.heap.size (w.alloc (.cells cs t)).drew w') (hn : n = w.heap.size) : Bk w' n cs t := Bk.mono (w := (w.alloc (.cells cs t)).drew) (Bk.newAt cs t hn) hb
theorem btD {B : Nat} {w w1 w2 : World} (h : Below B w w1) (hB : B ≤ w1.heap.size) (k : Below w1.drew.heap.size w1.drew w2) : Below B w w2 := bt' (w1 := w1.drew) h.drew hB k
theorem btAD {B : Nat} {w w1 w2 : World} {o : Obj} (h : Below B w w1) (hB : B ≤ w1.heap.size) (k : Below (w1.alloc o).drew.heap.size (w1.alloc o).drew w2) : Below B w w2 := bt' (w1 := (w1.alloc o).drew) (h.alloc hB o).drew (Nat.le_trans hB (by show _ ≤ (w1.alloc o).heap.size; rw [World.size_alloc]; omega)) k

section
variable {P : Program} {ops : Array Oper} {Q : Exit → Act → World → Prop} {rest : List Oper} {a : Act} {w : World} {o : Oper}
/-- An operation whose run is known, at the walk: it yields a value. -/
theorem wpList_run (hg : o.guard = none) (v : Value) (w' : World) (hrun : (execOp a.eval o).run P w = .ok (.value v) w') (h : wpList P ops Q rest (a.put o.dst v) w') : wpList P ops Q (o :: rest) a w :=
  wpList_plain hg fun K hK => by unfold Oper.wp; rw [hrun]; exact hK _ _ h
/-- .. a value, and the world stays. -/
theorem wpList_same (hg : o.guard = none) (v : Value) (hrun : (execOp a.eval o).run P w = .ok (.value v) w) (h : wpList P ops Q rest (a.put o.dst v) w) : wpList P ops Q (o :: rest) a w := wpList_run hg v w hrun h
/-- .. it yields nothing. -/
theorem wpList_run0 (hg : o.guard = none) (w' : World) (hrun : (execOp a.eval o).run P w = .ok .skip w') (h : wpList P ops Q rest (a.put o.dst undef) w') : wpList P ops Q (o :: rest) a w :=
  wpList_plain hg fun K hK => by unfold Oper.wp; rw [hrun]; exact hK _ _ h
/-- A whole array of a type's own, stored into the block that was made last. -/
theorem wpList_store_new (hg : o.guard = none) (t : TypeId) (p x : Operand) (ho : o.op = .store t p x) (c c' : Array Value) (w0 : World) (hp : a.eval p = .pointer (some ⟨w0.heap.size, 0, none⟩)) (hx : a.eval x = .agg c')
    (hi : (P.info? t).map (·.size) = some c'.size) (hs : c.size = c'.size) (h1 : c'.all (·.oneCell') = true) (hw : w = w0.alloc (.cells c t)) (h : wpList P ops Q rest (a.put o.dst undef) (w0.alloc (.cells c' t))) : wpList P ops Q (o :: rest) a w := by
  subst hw
  refine wpList_run0 hg _ ?_ h
  unfold execOp
  simp only [ho, hp, hx, Sem.run_bind, run_storeAt_new w0 t c c' hi hs h1, Result.andThen_ok, Sem.run_pure]
end

/-! ### Rows of the call's own -/
theorem grown_of_below {w w1 : World} (h : Below w.heap.size w w1) (row : Option Nat) : w.grownBy w1 row := ⟨h.os, h.tape, h.output, h.size, fun i hi _ => h.block i hi⟩
theorem own_below {w w1 : World} {base : Nat} {e : TypeId} {size n : Nat} {v : Value} {xs : List Value} (h : w.ownsRow base e size v n xs) (hb : Below w.heap.size w w1) : w1.ownsRow base e size v n xs :=
  h.kept (grown_of_below hb none) (by cases v.ownBlock <;> simp)
theorem own_base {w : World} {base : Nat} {e : TypeId} {size n : Nat} {v : Value} {xs : List Value} (h : w.ownsRow base e size v n xs) {k : Nat} (hk : k < base) : some k ≠ v.ownBlock := by
  intro hv
  rcases h.2 with ⟨rfl, _⟩ | ⟨g, cap, cur, rfl, hb, _⟩
  · simp [Value.ownBlock] at hv
  · have : k = g := by simpa [Value.ownBlock] using hv
    omega
theorem own_lt {w : World} {base : Nat} {e : TypeId} {size n : Nat} {v : Value} {xs : List Value} (h : w.ownsRow base e size v n xs) {k : Nat} (hk : w.heap.size ≤ k) : some k ≠ v.ownBlock := by
  intro hv
  rcases h.2 with ⟨rfl, _⟩ | ⟨g, cap, cur, rfl, hb, hh, _⟩
  · simp [Value.ownBlock] at hv
  · have : k = g := by simpa [Value.ownBlock] using hv
    have := (Array.getElem?_eq_some_iff.1 hh).1
    omega
theorem own_from {w : World} {base : Nat} {e : TypeId} {size n : Nat} {v : Value} {xs : List Value} (h : w.ownsRow base e size v n xs) : ∀ k, v.ownBlock = some k → base ≤ k := by
  intro k hk
  rcases Nat.lt_or_ge k base with hl | hl
  · exact absurd hk.symm (own_base h hl)
  · exact hl

theorem ret_bool {a b : Bool} (h : a = b) : Ending.returned (.bool a) = .returned (.bool b) := by rw [h]
theorem ret_int {k : IntKind} {a b : Int} (h : a = b) : Ending.returned (.int k a) = .returned (.int k b) := by rw [h]

end Go.Proofs.YtoabiignjkcdmaaGreat
