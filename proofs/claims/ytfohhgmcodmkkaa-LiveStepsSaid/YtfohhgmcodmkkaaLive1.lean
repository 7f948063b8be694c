/-
  What a step asks and sets: the code's and the document's functions.
-/
import Derived.Test.YtfohhgmcodmkkaaSlc
import Derived.Test.YtfohhgmcodmkkaaIrBase
namespace Go.Proofs.Ytfohhgmcodmkkaa
open Go.RowKit Go.Lib
set_option linter.unusedVariables false
set_option linter.unusedSimpArgs false

def oneK (k : Int) : Bool := k == 2 || k == 4 || k == 8 || k == 9 || k == 11 || k == 12
def twoK (k : Int) : Bool := k == 3 || k == 5 || k == 6 || k == 7 || k == 10
def setK (k : Int) : Bool := k == 1 || k == 2 || k == 3 || k == 4 || k == 9 || k == 12
/-- What a step asks. -/
def asksS (o : SOp) : List Int := if oneK o.k then [o.a] else if twoK o.k then (if o.a = o.b then [o.a] else [min o.a o.b, max o.a o.b]) else []
def setsV (o : SOp) : Int := if setK o.k then o.d else 0

theorem kinds_of (k : Int) : (k = 1 ∨ k = 2 ∨ k = 3 ∨ k = 4 ∨ k = 9 ∨ k = 12) ∨ (k = 5 ∨ k = 6 ∨ k = 7 ∨ k = 8 ∨ k = 10 ∨ k = 11) ∨ (k ≠ 1 ∧ k ≠ 2 ∧ k ≠ 3 ∧ k ≠ 4 ∧ k ≠ 5 ∧ k ≠ 6 ∧ k ≠ 7 ∧ k ≠ 8 ∧ k ≠ 9 ∧ k ≠ 10 ∧ k ≠ 11 ∧ k ≠ 12) := by omega

abbrev opV' (k fn d a b imm : Int) : Value := .agg #[.int .u8 k, .int .u8 fn, .int .i64 d, .int .i64 a, .int .i64 b, .int .u64 imm]

set_option maxHeartbeats 1000000 in
theorem sets_c (o : SOp) (w : World) :
    Calls Try.prog 6 #[.agg #[.int .u8 o.k, .int .u8 o.fn, .int .i64 o.d, .int .i64 o.a, .int .i64 o.b, .int .u64 o.imm]] w fun e w' => e = .returned (.tuple #[.int .i64 (setsV o), .bool (setK o.k)]) ∧ Below w.heap.size w w' := by
  obtain ⟨k, fn, d, a, b, imm⟩ := o
  have hbW : Below w.heap.size w (w.alloc (.cells #[.int .u8 k, .int .u8 fn, .int .i64 d, .int .i64 a, .int .i64 b, .int .u64 imm] 24)) := (Below.refl _ _).alloc (Nat.le_refl _) _
  rcases kinds_of k with (rfl | rfl | rfl | rfl | rfl | rfl) | (rfl | rfl | rfl | rfl | rfl | rfl) | ⟨h1, h2, h3, h4, h5, h6, h7, h8, h9, h10, h11, h12⟩
  case inr.inr =>
    have hs : setsV ⟨k, fn, d, a, b, imm⟩ = 0 := by simp [setsV, setK, h1, h2, h3, h4, h9, h12]
    have hs2 : setK (SOp.mk k fn d a b imm).k = false := by simp [setK, h1, h2, h3, h4, h9, h12]
    rw [hs, hs2]
    go_enter Try.func6, Try.ntmps6
    go_wp2
    all_goals
      go_ret2
      exact ⟨rfl, hbW⟩
  all_goals
    go_enter Try.func6, Try.ntmps6
    go_wp2
    go_ret2
    exact ⟨rfl, hbW⟩

set_option maxHeartbeats 1000000 in
theorem refSets_c (o : SOp) (w : World) :
    Calls Try.prog 7 #[.agg #[.int .u8 o.k, .int .u8 o.fn, .int .i64 o.d, .int .i64 o.a, .int .i64 o.b, .int .u64 o.imm]] w fun e w' => e = .returned (.tuple #[.int .i64 (setsV o), .bool (setK o.k)]) ∧ Below w.heap.size w w' := by
  obtain ⟨k, fn, d, a, b, imm⟩ := o
  have hbW : Below w.heap.size w (w.alloc (.cells #[.int .u8 k, .int .u8 fn, .int .i64 d, .int .i64 a, .int .i64 b, .int .u64 imm] 24)) := (Below.refl _ _).alloc (Nat.le_refl _) _
  rcases kinds_of k with (rfl | rfl | rfl | rfl | rfl | rfl) | (rfl | rfl | rfl | rfl | rfl | rfl) | ⟨h1, h2, h3, h4, h5, h6, h7, h8, h9, h10, h11, h12⟩
  case inr.inr =>
    have hs : setsV ⟨k, fn, d, a, b, imm⟩ = 0 := by simp [setsV, setK, h1, h2, h3, h4, h9, h12]
    have hs2 : setK (SOp.mk k fn d a b imm).k = false := by simp [setK, h1, h2, h3, h4, h9, h12]
    rw [hs, hs2]
    go_enter Try.func7, Try.ntmps7
    go_wp2
    all_goals
      go_ret2
      exact ⟨rfl, hbW⟩
  all_goals
    go_enter Try.func7, Try.ntmps7
    go_wp2
    go_ret2
    exact ⟨rfl, hbW⟩

/-- Does a step ask a variable? -/
def askB (o : SOp) (v : Int) : Bool := oneK o.k && o.a == v || twoK o.k && (o.a == v || o.b == v)

set_option maxHeartbeats 1000000 in
theorem asksOne_c (o : SOp) (v : Int) (w : World) :
    Calls Try.prog 22 #[.agg #[.int .u8 o.k, .int .u8 o.fn, .int .i64 o.d, .int .i64 o.a, .int .i64 o.b, .int .u64 o.imm], .int .i64 v] w fun e w' => e = .returned (.bool (askB o v)) ∧ Below w.heap.size w w' := by
  obtain ⟨k, fn, d, a, b, imm⟩ := o
  have hbW : Below w.heap.size w (w.alloc (.cells #[.int .u8 k, .int .u8 fn, .int .i64 d, .int .i64 a, .int .i64 b, .int .u64 imm] 24)) := (Below.refl _ _).alloc (Nat.le_refl _) _
  rcases kinds_of k with (rfl | rfl | rfl | rfl | rfl | rfl) | (rfl | rfl | rfl | rfl | rfl | rfl) | ⟨h1, h2, h3, h4, h5, h6, h7, h8, h9, h10, h11, h12⟩
  case inr.inr =>
    have hs : askB ⟨k, fn, d, a, b, imm⟩ v = false := by simp [askB, oneK, twoK, h1, h2, h3, h4, h5, h6, h7, h8, h9, h10, h11, h12]
    rw [hs]
    go_enter Try.func22, Try.ntmps22
    go_wp2
    all_goals
      go_ret
      exact ⟨rfl, hbW⟩
  all_goals
    go_enter Try.func22, Try.ntmps22
    go_wp2
    all_goals
      go_ret
      refine ⟨ret_bool ?_, by first | exact hbW | exact (Below.refl _ _).alloc (Nat.le_refl _) _⟩
      first
        | done
        | (simp [askB, oneK, twoK]; done)
        | (simp [askB, oneK, twoK, *]; done)
        | (simp_all [askB, oneK, twoK]; done)

end Go.Proofs.Ytfohhgmcodmkkaa
