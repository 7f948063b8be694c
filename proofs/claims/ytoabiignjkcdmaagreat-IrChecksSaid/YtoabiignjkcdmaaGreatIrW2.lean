/-
  ir.op walked: whether a step may be.
-/
import Derived.Test.YtoabiignjkcdmaaGreatIrW1
namespace Go.Proofs.YtoabiignjkcdmaaGreat
open Go.RowKit
set_option linter.unusedVariables false
set_option linter.unusedSimpArgs false

set_option maxRecDepth 100000 in
theorem kidx (k : Int) (h1 : 1 ≤ k) (h2 : k ≤ 13) : ∀ w, (Instr.index 95 kindCells (.int .u8 k)).run Tryz.prog w = .ok (.agg #[.bool (kf k 0), .bool (kf k 1), .bool (kf k 2), .bool (kf k 3), .bool (kf k 4), .bool (kf k 5), .bool (kf k 6), .bool (kf k 7), .bool (kf k 8)]) w := by
  have : k = 1 ∨ k = 2 ∨ k = 3 ∨ k = 4 ∨ k = 5 ∨ k = 6 ∨ k = 7 ∨ k = 8 ∨ k = 9 ∨ k = 10 ∨ k = 11 ∨ k = 12 ∨ k = 13 := by omega
  rcases this with rfl | rfl | rfl | rfl | rfl | rfl | rfl | rfl | rfl | rfl | rfl | rfl | rfl <;> exact fun _ => by kernel_rfl

end Go.Proofs.YtoabiignjkcdmaaGreat
