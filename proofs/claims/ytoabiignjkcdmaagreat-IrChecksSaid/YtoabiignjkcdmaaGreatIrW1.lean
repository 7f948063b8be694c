/-
  The small functions of package ir, walked: variable, end$1, op$1, kinds.
-/
import Derived.Test.YtoabiignjkcdmaaGreatRows
import Derived.Test.YtoabiignjkcdmaaGreatIrBase
namespace Go.Proofs.YtoabiignjkcdmaaGreat
open Go.RowKit
set_option linter.unusedVariables false
set_option linter.unusedSimpArgs false

set_option maxHeartbeats 400000 in
theorem variable_c {S : Option Addr} {n c : Nat} {p2 p3 : Value} (v : Int) (is : Bool) (w : World) :
    Calls Tryz.prog 44 #[.agg #[.slice S n c, p2, p3], .int .i64 v, .bool is] w fun e w' => e = .returned (.bool (varB n v is)) ∧ Below w.heap.size w w' := by
  go_enter Tryz.func44, Tryz.ntmps44
  go_wp2
  all_goals
    go_ret
    refine ⟨?_, (Below.refl _ _).alloc (Nat.le_refl _) _⟩
    simp [varB, *]
    try omega

set_option maxHeartbeats 400000 in
theorem endBlock_c {b : Nat} {B : Option Addr} {n c : Nat} (v : Int) (w : World) (h0 : w.cell? ⟨b, 2, none⟩ = some (.slice B n c)) :
    Calls Tryz.prog 48 #[.int .i64 v, .pointer (some ⟨b, 0, none⟩)] w fun e w' => e = .returned (.bool (decide (0 ≤ v) && decide (v < (n : Int)))) ∧ w = w' := by
  go_enter Tryz.func48, Tryz.ntmps48
  go_wp2
  all_goals
    go_ret
    refine ⟨?_, rfl⟩
    simp [*]
    try omega

set_option maxHeartbeats 400000 in
theorem opSecret_c {b : Nat} {S : Option Addr} {sec : List Bool} {c : Nat} (v : Int) (is : Bool) (w : World) (h0 : w.cell? ⟨b, 0, none⟩ = some (.slice S sec.length c)) (hs : kBool.Row w S sec)
    (hv : is = true → 0 ≤ v ∧ v < (sec.length : Int)) :
    Calls Tryz.prog 51 #[.int .i64 v, .bool is, .pointer (some ⟨b, 0, none⟩)] w fun e w' => e = .returned (.bool (is && sec.getD v.toNat false)) ∧ w = w' := by
  cases is with
  | false =>
    go_enter Tryz.func51, Tryz.ntmps51
    go_wp2
    go_ret
    exact ⟨rfl, rfl⟩
  | true =>
    obtain ⟨h1, h2⟩ := hv rfl
    have h5 : v.toNat < sec.length := by omega
    obtain ⟨sb, so, rfl, h4⟩ := kBool_at hs v.toNat h5
    clear hs
    go_enter Tryz.func51, Tryz.ntmps51
    go_wp2
    go_ret
    exact ⟨by simp, rfl⟩

def kindCells : Value := .agg (kindBits.map Value.bool).toArray

def kindZero : Array Value := Array.replicate 126 (.bool false)
set_option maxRecDepth 100000 in
set_option maxHeartbeats 1000000 in
theorem kinds_c (w : World) : Calls Tryz.prog 50 #[] w fun e w' => e = .returned kindCells ∧ Below w.heap.size w w' := by
  go_enter Tryz.func50, Tryz.ntmps50
  go_wp2_with (first
    | (with_reducible refine wpList_run (o := ⟨some 0, .alloc _, _, _, _, _⟩) rfl (.pointer (some ⟨w.heap.size, 0, none⟩)) (w.alloc (.cells kindZero 95)) (by kernel_rfl) ?_)
    | (with_reducible refine wpList_same (o := ⟨some 14, .build _ _, _, _, _, _⟩) rfl kindCells (by kernel_rfl) ?_)
    | (with_reducible refine wpList_store_new rfl _ _ _ rfl kindZero (kindBits.map Value.bool).toArray w rfl rfl (by kernel_rfl) (by kernel_rfl) (by kernel_rfl) rfl ?_))
  refine bodyPost_ret (v := kindCells) ?_ rfl ⟨rfl, (Below.refl _ _).alloc (Nat.le_refl _) _⟩
  exact results_cell_row rfl _ _ w.heap.size 95 _ (0, 0) (.array 14 94) rfl (heap_alloc_last _ _) (by kernel_rfl) rfl (by kernel_rfl)

end Go.Proofs.YtoabiignjkcdmaaGreat
