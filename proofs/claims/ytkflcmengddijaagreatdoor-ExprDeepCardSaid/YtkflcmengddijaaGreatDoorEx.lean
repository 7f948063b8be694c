/-
  Expressions as plain data, and how they lie in memory.
-/
import Derived.Test.YtkflcmengddijaaGreatDoorLexApp
namespace Go.Proofs.YtkflcmengddijaaGreatDoor
open Go.RowKit Lx
set_option linter.unusedVariables false
set_option linter.unusedSimpArgs false

/-- An expression. -/
inductive Ex where
  | mk (k num : Int) (name : ByteArray) (op : Int) (kids : List Ex)
namespace Ex
def k : Ex → Int | mk k _ _ _ _ => k
def num : Ex → Int | mk _ n _ _ _ => n
def name : Ex → ByteArray | mk _ _ s _ _ => s
def op : Ex → Int | mk _ _ _ o _ => o
def kids : Ex → List Ex | mk _ _ _ _ l => l
theorem kid_lt {x y : Ex} (h : y ∈ x.kids) : SizeOf.sizeOf y < SizeOf.sizeOf x := by
  obtain ⟨k, n, s, o, l⟩ := x
  have := List.sizeOf_lt_of_mem h
  simp only [kids] at this
  simp only [Ex.mk.sizeOf_spec]
  omega
theorem ind {P : Ex → Prop} (h : ∀ x, (∀ y ∈ x.kids, P y) → P x) (x : Ex) : P x := by
  suffices ∀ n (x : Ex), SizeOf.sizeOf x < n → P x from this (SizeOf.sizeOf x + 1) x (Nat.lt_succ_self _)
  intro n
  induction n with
  | zero => intro x hx; omega
  | succ n ih => exact fun x hx => h x fun y hy => ih y (by have := kid_lt hy; omega)
end Ex

/-- How an expression lies: its five cells, the kids elsewhere. -/
def ExK (w : World) (x : Ex) (cs : List Value) : Prop :=
  ∃ A cap, cs = [.int .u8 x.k, .int .u64 x.num, .string x.name, .int .u8 x.op, .slice A x.kids.length cap] ∧ x.kids.length ≤ maxLen ∧ (A = none → cap = 0) ∧
    (x.kids = [] ∨ ∃ b o, A = some ⟨b, o, none⟩ ∧ ∀ i (h : i < x.kids.length), ∃ ds, ExK w x.kids[i] ds ∧ ∀ j (hj : j < ds.length), w.cell? ⟨b, o + i * 5 + j, none⟩ = some ds[j])
termination_by SizeOf.sizeOf x
decreasing_by exact Ex.kid_lt (List.getElem_mem h)
theorem exK_len {w : World} {x : Ex} {cs : List Value} (h : ExK w x cs) : cs.length = 5 := by
  rw [ExK] at h
  obtain ⟨A, cap, rfl, _⟩ := h
  rfl
theorem exK_mono (x : Ex) : ∀ {w w' : World} {cs : List Value}, ExK w x cs → Below w.heap.size w w' → ExK w' x cs := by
  refine Ex.ind (P := fun x => ∀ {w w' : World} {cs : List Value}, ExK w x cs → Below w.heap.size w w' → ExK w' x cs) (fun x ih => ?_) x
  intro w w' cs h hb
  rw [ExK] at h ⊢
  obtain ⟨A, cap, e, hm, hn, hr⟩ := h
  refine ⟨A, cap, e, hm, hn, ?_⟩
  rcases hr with h0 | ⟨b, o, e1, hc⟩
  · exact .inl h0
  · refine .inr ⟨b, o, e1, fun i hi => ?_⟩
    obtain ⟨ds, h1, h2⟩ := hc i hi
    exact ⟨ds, ih _ (List.getElem_mem hi) h1 hb, fun j hj => cm (h2 j hj) hb⟩
def kEx : Kd Ex where
  sz := 5
  K := ExK
  len := exK_len
  mono := fun h hb => exK_mono _ h hb
theorem kEx_iff {w : World} {x : Ex} {cs : List Value} : kEx.K w x cs ↔ ∃ A cap, cs = [.int .u8 x.k, .int .u64 x.num, .string x.name, .int .u8 x.op, .slice A x.kids.length cap] ∧ x.kids.length ≤ maxLen ∧ (A = none → cap = 0) ∧ kEx.Row w A x.kids := by
  show ExK w x cs ↔ _
  rw [ExK]
  rfl
theorem kEx_at {w : World} {A : Option Addr} {xs : List Ex} (h : kEx.Row w A xs) (i : Nat) (hi : i < xs.length) : ∃ b o K c, A = some ⟨b, o, none⟩ ∧ xs[i].kids.length ≤ maxLen ∧ kEx.Row w K xs[i].kids ∧
    w.cell? ⟨b, o + i * 5, none⟩ = some (.int .u8 xs[i].k) ∧ w.cell? ⟨b, o + i * 5 + 1, none⟩ = some (.int .u64 xs[i].num) ∧ w.cell? ⟨b, o + i * 5 + 2, none⟩ = some (.string xs[i].name) ∧
    w.cell? ⟨b, o + i * 5 + 3, none⟩ = some (.int .u8 xs[i].op) ∧ w.cell? ⟨b, o + i * 5 + 4, none⟩ = some (.slice K xs[i].kids.length c) := by
  obtain ⟨b, o, cs, e, h1, h2⟩ := h.at i hi
  obtain ⟨K, c, rfl, hm, _, hr⟩ := kEx_iff.1 h1
  exact ⟨b, o, K, c, e, hm, hr, h2 0 (by simp), h2 1 (by simp), h2 2 (by simp), h2 3 (by simp), h2 4 (by simp)⟩

/-- .. with the word on a nil slice. -/
theorem kEx_at' {w : World} {A : Option Addr} {xs : List Ex} (h : kEx.Row w A xs) (i : Nat) (hi : i < xs.length) : ∃ b o K c, A = some ⟨b, o, none⟩ ∧ xs[i].kids.length ≤ maxLen ∧ kEx.Row w K xs[i].kids ∧ (K = none → c = 0) ∧
    w.cell? ⟨b, o + i * 5, none⟩ = some (.int .u8 xs[i].k) ∧ w.cell? ⟨b, o + i * 5 + 1, none⟩ = some (.int .u64 xs[i].num) ∧ w.cell? ⟨b, o + i * 5 + 2, none⟩ = some (.string xs[i].name) ∧
    w.cell? ⟨b, o + i * 5 + 3, none⟩ = some (.int .u8 xs[i].op) ∧ w.cell? ⟨b, o + i * 5 + 4, none⟩ = some (.slice K xs[i].kids.length c) := by
  obtain ⟨b, o, cs, e, h1, h2⟩ := h.at i hi
  obtain ⟨K, c, rfl, hm, hn, hr⟩ := kEx_iff.1 h1
  exact ⟨b, o, K, c, e, hm, hr, hn, h2 0 (by simp), h2 1 (by simp), h2 2 (by simp), h2 3 (by simp), h2 4 (by simp)⟩

/-! ### Which may be -/
def nameB (x : Ex) : Bool := isName x.name.data.toList
def shapeB (x : Ex) : Bool :=
  if x.k = 1 then decide (x.name.size = 0) && decide (x.op = 0) && decide (x.kids.length = 0)
  else if x.k = 2 ∨ x.k = 4 then decide (x.num = 0) && nameB x && decide (x.op = 0) && decide (x.kids.length = 0)
  else if x.k = 3 then decide (x.num = 0) && decide (x.name.size = 0) && (decide (1 ≤ x.op) && decide (x.op ≤ 14)) && decide (x.kids.length = 2)
  else if x.k = 5 then decide (x.num = 0) && nameB x && decide (x.op = 0) && decide (x.kids.length = 1)
  else false
def mayB (x : Ex) (d : Nat) : Bool := decide (d ≤ 40) && shapeB x && x.kids.attach.all fun y => mayB y.1 (d + 1)
termination_by SizeOf.sizeOf x
decreasing_by exact Ex.kid_lt y.2
theorem mayB_eq (x : Ex) (d : Nat) : mayB x d = (decide (d ≤ 40) && shapeB x && x.kids.all fun y => mayB y (d + 1)) := by
  rw [mayB]
  congr 1
  conv => rhs; rw [← List.attach_map_subtype_val x.kids, List.all_map]
  rfl
end Go.Proofs.YtkflcmengddijaaGreatDoor
