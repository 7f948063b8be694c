/-
  goes' deferred closure: an over is taken up.
-/
import Derived.Test.YtoabiignjkcdmaaGreatRunS2
import Derived.Defers
import Derived.Recover
namespace Go.Proofs.YtoabiignjkcdmaaGreat
open Go.RowKit
set_option linter.unusedVariables false
set_option linter.unusedSimpArgs false

set_option maxRecDepth 100000 in
set_option maxHeartbeats 2000000 in
theorem goes1_idle (q : Nat) (w : World) :
    CallsD Tryz.prog 67 #[.pointer (some ⟨q, 0, none⟩)] .returning w fun e u' w' => e = .returned (.tuple #[]) ∧ u' = .returning ∧ w' = w := by
  refine callsD_of_wpS Tryz.func67 rfl fun c₀ cs hu => ?_
  apply wpS_seq
  apply wpS_region
  simp [wpOpsS, go_sem, recoverD, hu, Tryz.ntmps67, Exit.thenS]
  refine wpS_of_wp ?_
  simp only [List.size_toArray, List.length_cons, List.length_nil, Nat.reduceAdd, Nat.reduceSub, Array.replicate_succ, Array.replicate_zero, List.push_toArray, List.append_toArray, List.nil_append, List.cons_append, List.setIfInBounds_toArray, List.set_cons_succ, List.set_cons_zero]
  go_wp2_with fail
  exact ⟨rfl, .returning, by cases c₀; simp_all, _, results_none rfl _ _ _, rfl, rfl, rfl⟩
set_option maxRecDepth 100000 in
set_option maxHeartbeats 2000000 in
theorem goes1_over (q : Nat) (x : Int) (w : World) (v0 : Value) (hq : w.cell? ⟨q, 0, none⟩ = some v0) (hf : w.frozen? ⟨q, 0, none⟩ = false) :
    CallsD Tryz.prog 67 #[.pointer (some ⟨q, 0, none⟩)] (.panicking [{ v := overV x, recovered := false }]) w fun e u' w' => e = .returned (.tuple #[]) ∧ u' = .panicking [{ v := overV x, recovered := true }] ∧ w' = (w.setCell ⟨q, 0, none⟩ (.int .i64 x)).alloc (.cells #[.int .i64 x] 121) := by
  refine callsD_of_wpS Tryz.func67 rfl fun c₀ cs hu => ?_
  apply wpS_seq
  apply wpS_region
  simp [wpOpsS, go_sem, recoverD, hu, Tryz.ntmps67, Exit.thenS]
  refine wpS_of_wp ?_
  simp only [List.size_toArray, List.length_cons, List.length_nil, Nat.reduceAdd, Nat.reduceSub, Array.replicate_succ, Array.replicate_zero, List.push_toArray, List.append_toArray, List.nil_append, List.cons_append, List.setIfInBounds_toArray, List.set_cons_succ, List.set_cons_zero]
  have hTA : ∀ w : World, (Instr.typeAssert (overV x) 20 121 true).run Tryz.prog w = .ok (.tuple #[.agg #[.int .i64 x], .bool true]) w := fun w => by kernel_rfl
  have hba := (Below.refl w.heap.size w).alloc (Nat.le_refl _) (.cells #[.int .i64 x] 121)
  have c1 := cm hq hba
  have f1 := fm hf hq hba
  have q1 : q < w.heap.size := World.block_lt_of_cell? w _ hq
  clear hba
  go_wp2_with (simp only [hTA])
  exact ⟨rfl, .panicking [{ v := overV x, recovered := true }], by cases c₀; simp_all, _, results_none rfl _ _ _, rfl, rfl, rfl⟩
end Go.Proofs.YtoabiignjkcdmaaGreat
