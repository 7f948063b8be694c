/-
  One step by the table.
-/
import Derived.Test.YtoabiignjkcdmaaGreatRunS
namespace Go.Proofs.YtoabiignjkcdmaaGreat
open Go.RowKit
set_option linter.unusedVariables false
set_option linter.unusedSimpArgs false

/-- What a checked step keeps to. -/
structure OpOk (nv : Nat) (o : SOp) : Prop where
  k : 1 ≤ o.k ∧ o.k ≤ 13
  imm : 0 ≤ o.imm ∧ o.imm < 18446744073709551616
  fn : 0 ≤ o.fn ∧ o.fn < 256
  fn3 : o.k = 3 → 1 ≤ o.fn ∧ o.fn ≤ 14
  d : o.k = 1 ∨ o.k = 2 ∨ o.k = 3 ∨ o.k = 4 ∨ o.k = 9 ∨ o.k = 12 → 0 ≤ o.d ∧ o.d < nv
  a : o.k ≠ 1 ∧ o.k ≠ 13 → 0 ≤ o.a ∧ o.a < nv
  b : o.k = 3 ∨ o.k = 5 ∨ o.k = 6 ∨ o.k = 7 ∨ o.k = 10 → 0 ≤ o.b ∧ o.b < nv
theorem does_c (o : SOp) (m : SM) (w : World) (base B2 mb nv : Nat) (h : MA w base B2 mb nv m) (ho : OpOk nv o) (hta : (m.told.length : Int) < m.steps) (har : (m.arena.length : Int) < m.steps) :
    ∃ gf i, Instr.findNow (.int .u8) (.int .u8 o.k) stepEs.toList 0 = some (some (i, .func (.func gf) #[] #[])) ∧ Enters gf ∧ Calls Tryz.prog gf #[.pointer (some ⟨mb, 0, none⟩), o.val] w (OpPost w base B2 mb nv (opM m o)) := by
  have h13 : o.k = 1 ∨ o.k = 2 ∨ o.k = 3 ∨ o.k = 4 ∨ o.k = 5 ∨ o.k = 6 ∨ o.k = 7 ∨ o.k = 8 ∨ o.k = 9 ∨ o.k = 10 ∨ o.k = 11 ∨ o.k = 12 ∨ o.k = 13 := by
    have := ho.k
    omega
  rcases h13 with e | e | e | e | e | e | e | e | e | e | e | e | e
  · rw [opM_1 m e, e]
    exact ⟨_, _, rfl, enters_of Tryz.func82 (by kernel_rfl) rfl, konst_c o m w base B2 mb nv h (ho.d (by omega)).1 (ho.d (by omega)).2 ho.imm.1 ho.imm.2⟩
  · rw [opM_2 m e, e]
    exact ⟨_, _, rfl, enters_of Tryz.func83 (by kernel_rfl) rfl, move_c o m w base B2 mb nv h (ho.d (by omega)).1 (ho.d (by omega)).2 (ho.a (by omega)).1 (ho.a (by omega)).2⟩
  · rw [opM_3 m e, e]
    exact ⟨_, _, rfl, enters_of Tryz.func84 (by kernel_rfl) rfl, alu_c o m w base B2 mb nv h (ho.fn3 e).1 (ho.fn3 e).2 (ho.d (by omega)).1 (ho.d (by omega)).2 (ho.a (by omega)).1 (ho.a (by omega)).2 (ho.b (by omega)).1 (ho.b (by omega)).2⟩
  · rw [opM_4 m e, e]
    exact ⟨_, _, rfl, enters_of Tryz.func85 (by kernel_rfl) rfl, load_c o m w base B2 mb nv h (ho.d (by omega)).1 (ho.d (by omega)).2 (ho.a (by omega)).1 (ho.a (by omega)).2⟩
  · rw [opM_5 m e, e]
    exact ⟨_, _, rfl, enters_of Tryz.func86 (by kernel_rfl) rfl, store_c o m w base B2 mb nv h (ho.b (by omega)).1 (ho.b (by omega)).2 (ho.a (by omega)).1 (ho.a (by omega)).2⟩
  · rw [opM_6 m e, e]
    exact ⟨_, _, rfl, enters_of Tryz.func87 (by kernel_rfl) rfl, less_c o m w base B2 mb nv h (ho.a (by omega)).1 (ho.a (by omega)).2 (ho.b (by omega)).1 (ho.b (by omega)).2⟩
  · rw [opM_7 m e, e]
    exact ⟨_, _, rfl, enters_of Tryz.func88 (by kernel_rfl) rfl, most_c o m w base B2 mb nv h (ho.a (by omega)).1 (ho.a (by omega)).2 (ho.b (by omega)).1 (ho.b (by omega)).2⟩
  · rw [opM_8 m e, e]
    exact ⟨_, _, rfl, enters_of Tryz.func89 (by kernel_rfl) rfl, some_c o m w base B2 mb nv h (ho.a (by omega)).1 (ho.a (by omega)).2⟩
  · rw [opM_9 m e, e]
    exact ⟨_, _, rfl, enters_of Tryz.func90 (by kernel_rfl) rfl, alloc_c o m w base B2 mb nv h (ho.a (by omega)).1 (ho.a (by omega)).2 (ho.d (by omega)).1 (ho.d (by omega)).2 ho.fn har⟩
  · rw [opM_10 m e, e]
    exact ⟨_, _, rfl, enters_of Tryz.func91 (by kernel_rfl) rfl, wipe_c o m w base B2 mb nv h (ho.b (by omega)).1 (ho.b (by omega)).2 (ho.a (by omega)).1 (ho.a (by omega)).2⟩
  · rw [opM_11 m e, e]
    exact ⟨_, _, rfl, enters_of Tryz.func92 (by kernel_rfl) rfl, free_c o m w base B2 mb nv h (ho.a (by omega)).1 (ho.a (by omega)).2⟩
  · rw [opM_12 m e, e]
    exact ⟨_, _, rfl, enters_of Tryz.func93 (by kernel_rfl) rfl, tell_c o m w base B2 mb nv h (ho.d (by omega)).1 (ho.d (by omega)).2 (ho.a (by omega)).1 (ho.a (by omega)).2 hta⟩
  · rw [opM_13 m (by omega), e]
    exact ⟨_, _, rfl, enters_of Tryz.func94 (by kernel_rfl) rfl, seal_c o m w base B2 mb nv h⟩
end Go.Proofs.YtoabiignjkcdmaaGreat
