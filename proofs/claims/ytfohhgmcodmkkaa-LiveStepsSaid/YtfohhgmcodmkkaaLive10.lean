/-
  The chapter's sample; alive; LiveSteps.
-/
import Derived.Test.YtfohhgmcodmkkaaLive9
import Derived.Test.YtfohhgmcodmkkaaSame24
namespace Go.Proofs.Ytfohhgmcodmkkaa
open Go.RowKit Go.Lib
set_option linter.unusedVariables false
set_option linter.unusedSimpArgs false

theorem rowB {w : World} {n : Nat} {t : TypeId} (B : Bk w n #[.bool false, .bool false, .bool false] t) : kBool.Row w (some ⟨n, 0, none⟩) [false, false, false] := by
  refine .inr ⟨n, 0, rfl, fun i hi => ⟨_, rfl, fun j hj => ?_⟩⟩
  have hj0 : j = 0 := by simpa [kBool, Kd.flat] using hj
  subst hj0
  have hi' : i = 0 ∨ i = 1 ∨ i = 2 := by simp at hi; omega
  rcases hi' with rfl | rfl | rfl
  · exact B.cell 0
  · exact B.cell 1
  · exact B.cell 2
theorem rowO {w : World} {n : Nat} {t : TypeId} (B : Bk w n #[.int .u8 2, .int .u8 0, .int .i64 1, .int .i64 0, .int .i64 0, .int .u64 0, .int .u8 3, .int .u8 1, .int .i64 2, .int .i64 1, .int .i64 0, .int .u64 0] t) : kOp.Row w (some ⟨n, 0, none⟩) [op1S, op2S] := by
  refine .inr ⟨n, 0, rfl, fun i hi => ⟨_, rfl, fun j hj => ?_⟩⟩
  have hj' : j < 6 := by simpa [kOp, Kd.flat, SOp.cells] using hj
  have hj2 : j = 0 ∨ j = 1 ∨ j = 2 ∨ j = 3 ∨ j = 4 ∨ j = 5 := by omega
  have hi' : i = 0 ∨ i = 1 := by simp at hi; omega
  rcases hi' with rfl | rfl
  · rcases hj2 with rfl | rfl | rfl | rfl | rfl | rfl
    · exact B.cell 0
    · exact B.cell 1
    · exact B.cell 2
    · exact B.cell 3
    · exact B.cell 4
    · exact B.cell 5
  · rcases hj2 with rfl | rfl | rfl | rfl | rfl | rfl
    · exact B.cell 6
    · exact B.cell 7
    · exact B.cell 8
    · exact B.cell 9
    · exact B.cell 10
    · exact B.cell 11
theorem rowK {w : World} {n : Nat} {t : TypeId} {O : Option Addr} {c : Nat} (hO : kOp.Row w O [op1S, op2S]) (B : Bk w n #[.slice O 2 c, .int .u8 3, .int .i64 2, .int .i64 0, .int .i64 0] t) : kBlock.Row w (some ⟨n, 0, none⟩) [blkS] := by
  refine .inr ⟨n, 0, rfl, fun i hi => ?_⟩
  have hi0 : i = 0 := by simpa using hi
  subst hi0
  refine ⟨[.slice O 2 c, .int .u8 3, .int .i64 2, .int .i64 0, .int .i64 0], ⟨O, c, rfl, by unfold maxLen; simp [blkS], hO⟩, fun j hj => ?_⟩
  have hj' : j < 5 := by simpa using hj
  have hj2 : j = 0 ∨ j = 1 ∨ j = 2 ∨ j = 3 ∨ j = 4 := by omega
  rcases hj2 with rfl | rfl | rfl | rfl | rfl
  · exact B.cell 0
  · exact B.cell 1
  · exact B.cell 2
  · exact B.cell 3
  · exact B.cell 4

set_option maxRecDepth 100000 in
set_option maxHeartbeats 2000000 in
theorem sample_c (w : World) :
    Calls Try.prog 24 #[] w fun e w' => (∃ S c1 B c3, e = .returned (.agg #[.slice S 3 c1, .slice none 0 0, .slice B 1 c3]) ∧ Lies w' S B) ∧ Below w.heap.size w w' := by
  have B1 := ((Bk.newAt (w := w.alloc (.cells #[.slice (some ⟨w.heap.size + 1, 0, none⟩) 3 3, .slice none 0 0, .slice (some ⟨w.heap.size + 1 + 1 + 1, 0, none⟩) 1 1] 36)) (n := w.heap.size + 1) #[.bool false, .bool false, .bool false] 4 (by simp)).alloc (.cells #[.int .u8 2, .int .u8 0, .int .i64 1, .int .i64 0, .int .i64 0, .int .u64 0, .int .u8 3, .int .u8 1, .int .i64 2, .int .i64 1, .int .i64 0, .int .u64 0] 24)).alloc (.cells #[.slice (some ⟨w.heap.size + 1 + 1, 0, none⟩) 2 2, .int .u8 3, .int .i64 2, .int .i64 0, .int .i64 0] 67)
  have B2 := (Bk.newAt (w := (w.alloc (.cells #[.slice (some ⟨w.heap.size + 1, 0, none⟩) 3 3, .slice none 0 0, .slice (some ⟨w.heap.size + 1 + 1 + 1, 0, none⟩) 1 1] 36)).alloc (.cells #[.bool false, .bool false, .bool false] 4)) (n := w.heap.size + 1 + 1) #[.int .u8 2, .int .u8 0, .int .i64 1, .int .i64 0, .int .i64 0, .int .u64 0, .int .u8 3, .int .u8 1, .int .i64 2, .int .i64 1, .int .i64 0, .int .u64 0] 24 (by simp)).alloc (.cells #[.slice (some ⟨w.heap.size + 1 + 1, 0, none⟩) 2 2, .int .u8 3, .int .i64 2, .int .i64 0, .int .i64 0] 67)
  have B3 := Bk.newAt (w := ((w.alloc (.cells #[.slice (some ⟨w.heap.size + 1, 0, none⟩) 3 3, .slice none 0 0, .slice (some ⟨w.heap.size + 1 + 1 + 1, 0, none⟩) 1 1] 36)).alloc (.cells #[.bool false, .bool false, .bool false] 4)).alloc (.cells #[.int .u8 2, .int .u8 0, .int .i64 1, .int .i64 0, .int .i64 0, .int .u64 0, .int .u8 3, .int .u8 1, .int .i64 2, .int .i64 1, .int .i64 0, .int .u64 0] 24)) (n := w.heap.size + 1 + 1 + 1) #[.slice (some ⟨w.heap.size + 1 + 1, 0, none⟩) 2 2, .int .u8 3, .int .i64 2, .int .i64 0, .int .i64 0] 67 (by simp)
  have hB := ((((Below.refl w.heap.size w).alloc (Nat.le_refl _) (.cells #[.slice (some ⟨w.heap.size + 1, 0, none⟩) 3 3, .slice none 0 0, .slice (some ⟨w.heap.size + 1 + 1 + 1, 0, none⟩) 1 1] 36)).alloc (by simp) (.cells #[.bool false, .bool false, .bool false] 4)).alloc (by simp; omega) (.cells #[.int .u8 2, .int .u8 0, .int .i64 1, .int .i64 0, .int .i64 0, .int .u64 0, .int .u8 3, .int .u8 1, .int .i64 2, .int .i64 1, .int .i64 0, .int .u64 0] 24)).alloc (by simp; omega) (.cells #[.slice (some ⟨w.heap.size + 1 + 1, 0, none⟩) 2 2, .int .u8 3, .int .i64 2, .int .i64 0, .int .i64 0] 67)
  go_enter Try.func24, Try.ntmps24
  go_wp2
  go_returns
  exact ⟨⟨_, _, _, _, rfl, rowB B1, rowK (rowO B2) B3⟩, hB⟩

end Go.Proofs.Ytfohhgmcodmkkaa
