/-
  Lemmas (texts FoldK1), each proved without a condition beyond its own hypotheses.
-/
import Derived.Test.YtoabiignjkcdmaaGreatFd29
import Derived.Test.YtoabiignjkcdmaaGreatFd26
import Derived.Test.YtoabiignjkcdmaaGreatFd38
namespace Go.Proofs.YtoabiignjkcdmaaGreat
open Go.RowKit Go.Lib Go.Shelf Go.Maps
set_option linter.unusedVariables false
set_option linter.unusedSimpArgs false

set_option maxHeartbeats 400000 in
theorem rworks_c (k fn d a b imm : Int) (w : World) : Calls Tryz.prog 36 #[.agg #[.int .u8 k, .int .u8 fn, .int .i64 d, .int .i64 a, .int .i64 b, .int .u64 imm]] w fun e w' => e = .returned (.bool (worksB k)) ∧ Below w.heap.size w w' := by
  go_enter Tryz.func36, Tryz.ntmps36
  go_wp2
  all_goals
    go_ret
    refine ⟨?_, (Below.refl _ _).alloc (Nat.le_refl _) _⟩
    simp [worksB, *]
    try omega
set_option maxHeartbeats 400000 in
theorem rsets_c (k fn d a b imm : Int) (hk : 1 ≤ k ∧ k ≤ 13) (w : World) : Calls Tryz.prog 63 #[.agg #[.int .u8 k, .int .u8 fn, .int .i64 d, .int .i64 a, .int .i64 b, .int .u64 imm]] w fun e w' => e = .returned (.bool (setsB k)) ∧ Below w.heap.size w w' := by
  have hk' : k = 1 ∨ k = 2 ∨ k = 3 ∨ k = 4 ∨ k = 5 ∨ k = 6 ∨ k = 7 ∨ k = 8 ∨ k = 9 ∨ k = 10 ∨ k = 11 ∨ k = 12 ∨ k = 13 := by omega
  clear hk
  rcases hk' with rfl | rfl | rfl | rfl | rfl | rfl | rfl | rfl | rfl | rfl | rfl | rfl | rfl
  all_goals
    go_enter Tryz.func63, Tryz.ntmps63
    go_wp2
    all_goals
      go_ret
      refine ⟨?_, (Below.refl _ _).alloc (Nat.le_refl _) _⟩
      rfl
set_option maxHeartbeats 2000000 in
theorem rasks_c (o : SOp) (hk : 1 ≤ o.k ∧ o.k ≤ 13) (v : Int) (w : World) : Calls Tryz.prog 64 #[.agg #[.int .u8 o.k, .int .u8 o.fn, .int .i64 o.d, .int .i64 o.a, .int .i64 o.b, .int .u64 o.imm], .int .i64 v] w fun e w' => e = .returned (.bool (asksB o v)) ∧ Below w.heap.size w w' := by
  obtain ⟨k, fn, d, a, b, imm⟩ := o
  have hk' : k = 1 ∨ k = 2 ∨ k = 3 ∨ k = 4 ∨ k = 5 ∨ k = 6 ∨ k = 7 ∨ k = 8 ∨ k = 9 ∨ k = 10 ∨ k = 11 ∨ k = 12 ∨ k = 13 := by simp at hk; omega
  clear hk
  rcases hk' with rfl | rfl | rfl | rfl | rfl | rfl | rfl | rfl | rfl | rfl | rfl | rfl | rfl
  all_goals
    go_enter Tryz.func64, Tryz.ntmps64
    go_wp2
    all_goals
      go_ret
      refine ⟨?_, (Below.refl _ _).alloc (Nat.le_refl _) _⟩
      refine congrArg (fun x => Ending.returned (.bool x)) ?_
      rw [Bool.eq_iff_iff]
      simp [asksB, asksL, askN]
      try omega
end Go.Proofs.YtoabiignjkcdmaaGreat
