/-
  Lemmas (texts RunS2 RunG1 RunQ RunF IrW2), each proved without a condition beyond its own hypotheses.
-/
import Derived.Test.YtoabiignjkcdmaaGreatFd12
import Derived.Defers
import Derived.Recover
import Derived.Test.YtoabiignjkcdmaaGreatFd2
import Derived.Test.YtoabiignjkcdmaaGreatFd1
namespace Go.Proofs.YtoabiignjkcdmaaGreat
open Go.RowKit
set_option linter.unusedVariables false
set_option linter.unusedSimpArgs false

/-- What a checked step keeps to. -/
structure OpOk (nv : Nat) (o : SOp) : Prop where
  k : 1 ≤ o.k ∧ o.k ≤ 13
  imm : 0 ≤ o.imm ∧ o.imm < 18446744073709551616
  fn : 0 ≤ o.fn ∧ o.fn < 256
  fn3 : o.k = 3 → 1 ≤ o.fn ∧ o.fn ≤ 14
  d : o.k = 1 ∨ o.k = 2 ∨ o.k = 3 ∨ o.k = 4 ∨ o.k = 9 ∨ o.k = 12 → 0 ≤ o.d ∧ o.d < nv
  a : o.k ≠ 1 ∧ o.k ≠ 13 → 0 ≤ o.a ∧ o.a < nv
  b : o.k = 3 ∨ o.k = 5 ∨ o.k = 6 ∨ o.k = 7 ∨ o.k = 10 → 0 ≤ o.b ∧ o.b < nv
theorem does_c (o : SOp) (m : SM) (w : World) (base B2 mb nv : Nat) (h : MA w base B2 mb nv m) (ho : OpOk nv o) (hta : (m.told.length : Int) < m.steps) (har : (m.arena.length : Int) < m.steps) :
    ∃ gf i, Instr.findNow (.int .u8) (.int .u8 o.k) stepEs.toList 0 = some (some (i, .func (.func gf) #[] #[])) ∧ Enters gf ∧ Calls Tryz.prog gf #[.pointer (some ⟨mb, 0, none⟩), o.val] w (OpPost w base B2 mb nv (opM m o)) := by
  have h13 : o.k = 1 ∨ o.k = 2 ∨ o.k = 3 ∨ o.k = 4 ∨ o.k = 5 ∨ o.k = 6 ∨ o.k = 7 ∨ o.k = 8 ∨ o.k = 9 ∨ o.k = 10 ∨ o.k = 11 ∨ o.k = 12 ∨ o.k = 13 := by
    have := ho.k
    omega
  rcases h13 with e | e | e | e | e | e | e | e | e | e | e | e | e
  · rw [opM_1 m e, e]
    exact ⟨_, _, rfl, enters_of Tryz.func82 (by kernel_rfl) rfl, konst_c o m w base B2 mb nv h (ho.d (by omega)).1 (ho.d (by omega)).2 ho.imm.1 ho.imm.2⟩
  · rw [opM_2 m e, e]
    exact ⟨_, _, rfl, enters_of Tryz.func83 (by kernel_rfl) rfl, move_c o m w base B2 mb nv h (ho.d (by omega)).1 (ho.d (by omega)).2 (ho.a (by omega)).1 (ho.a (by omega)).2⟩
  · rw [opM_3 m e, e]
    exact ⟨_, _, rfl, enters_of Tryz.func84 (by kernel_rfl) rfl, alu_c o m w base B2 mb nv h (ho.fn3 e).1 (ho.fn3 e).2 (ho.d (by omega)).1 (ho.d (by omega)).2 (ho.a (by omega)).1 (ho.a (by omega)).2 (ho.b (by omega)).1 (ho.b (by omega)).2⟩
  · rw [opM_4 m e, e]
    exact ⟨_, _, rfl, enters_of Tryz.func85 (by kernel_rfl) rfl, load_c o m w base B2 mb nv h (ho.d (by omega)).1 (ho.d (by omega)).2 (ho.a (by omega)).1 (ho.a (by omega)).2⟩
  · rw [opM_5 m e, e]
    exact ⟨_, _, rfl, enters_of Tryz.func86 (by kernel_rfl) rfl, store_c o m w base B2 mb nv h (ho.b (by omega)).1 (ho.b (by omega)).2 (ho.a (by omega)).1 (ho.a (by omega)).2⟩
  · rw [opM_6 m e, e]
    exact ⟨_, _, rfl, enters_of Tryz.func87 (by kernel_rfl) rfl, less_c o m w base B2 mb nv h (ho.a (by omega)).1 (ho.a (by omega)).2 (ho.b (by omega)).1 (ho.b (by omega)).2⟩
  · rw [opM_7 m e, e]
    exact ⟨_, _, rfl, enters_of Tryz.func88 (by kernel_rfl) rfl, most_c o m w base B2 mb nv h (ho.a (by omega)).1 (ho.a (by omega)).2 (ho.b (by omega)).1 (ho.b (by omega)).2⟩
  · rw [opM_8 m e, e]
    exact ⟨_, _, rfl, enters_of Tryz.func89 (by kernel_rfl) rfl, some_c o m w base B2 mb nv h (ho.a (by omega)).1 (ho.a (by omega)).2⟩
  · rw [opM_9 m e, e]
    exact ⟨_, _, rfl, enters_of Tryz.func90 (by kernel_rfl) rfl, alloc_c o m w base B2 mb nv h (ho.a (by omega)).1 (ho.a (by omega)).2 (ho.d (by omega)).1 (ho.d (by omega)).2 ho.fn har⟩
  · rw [opM_10 m e, e]
    exact ⟨_, _, rfl, enters_of Tryz.func91 (by kernel_rfl) rfl, wipe_c o m w base B2 mb nv h (ho.b (by omega)).1 (ho.b (by omega)).2 (ho.a (by omega)).1 (ho.a (by omega)).2⟩
  · rw [opM_11 m e, e]
    exact ⟨_, _, rfl, enters_of Tryz.func92 (by kernel_rfl) rfl, free_c o m w base B2 mb nv h (ho.a (by omega)).1 (ho.a (by omega)).2⟩
  · rw [opM_12 m e, e]
    exact ⟨_, _, rfl, enters_of Tryz.func93 (by kernel_rfl) rfl, tell_c o m w base B2 mb nv h (ho.d (by omega)).1 (ho.d (by omega)).2 (ho.a (by omega)).1 (ho.a (by omega)).2 hta⟩
  · rw [opM_13 m (by omega), e]
    exact ⟨_, _, rfl, enters_of Tryz.func94 (by kernel_rfl) rfl, seal_c o m w base B2 mb nv h⟩
end Go.Proofs.YtoabiignjkcdmaaGreat

namespace Go.Proofs.YtoabiignjkcdmaaGreat
open Go.RowKit
set_option linter.unusedVariables false
set_option linter.unusedSimpArgs false

set_option maxRecDepth 100000 in
set_option maxHeartbeats 2000000 in
theorem goes1_idle (q : Nat) (w : World) :
    CallsD Tryz.prog 67 #[.pointer (some ⟨q, 0, none⟩)] .returning w fun e u' w' => e = .returned (.tuple #[]) ∧ u' = .returning ∧ w' = w := by
  refine callsD_of_wpS Tryz.func67 rfl fun c₀ cs hu => ?_
  apply wpS_seq
  apply wpS_region
  simp [wpOpsS, go_sem, recoverD, hu, Tryz.ntmps67, Exit.thenS]
  refine wpS_of_wp ?_
  simp only [List.size_toArray, List.length_cons, List.length_nil, Nat.reduceAdd, Nat.reduceSub, Array.replicate_succ, Array.replicate_zero, List.push_toArray, List.append_toArray, List.nil_append, List.cons_append, List.setIfInBounds_toArray, List.set_cons_succ, List.set_cons_zero]
  go_wp2_with fail
  exact ⟨rfl, .returning, by cases c₀; simp_all, _, results_none rfl _ _ _, rfl, rfl, rfl⟩
set_option maxRecDepth 100000 in
set_option maxHeartbeats 2000000 in
theorem goes1_over (q : Nat) (x : Int) (w : World) (v0 : Value) (hq : w.cell? ⟨q, 0, none⟩ = some v0) (hf : w.frozen? ⟨q, 0, none⟩ = false) :
    CallsD Tryz.prog 67 #[.pointer (some ⟨q, 0, none⟩)] (.panicking [{ v := overV x, recovered := false }]) w fun e u' w' => e = .returned (.tuple #[]) ∧ u' = .panicking [{ v := overV x, recovered := true }] ∧ w' = (w.setCell ⟨q, 0, none⟩ (.int .i64 x)).alloc (.cells #[.int .i64 x] 121) := by
  refine callsD_of_wpS Tryz.func67 rfl fun c₀ cs hu => ?_
  apply wpS_seq
  apply wpS_region
  simp [wpOpsS, go_sem, recoverD, hu, Tryz.ntmps67, Exit.thenS]
  refine wpS_of_wp ?_
  simp only [List.size_toArray, List.length_cons, List.length_nil, Nat.reduceAdd, Nat.reduceSub, Array.replicate_succ, Array.replicate_zero, List.push_toArray, List.append_toArray, List.nil_append, List.cons_append, List.setIfInBounds_toArray, List.set_cons_succ, List.set_cons_zero]
  have hTA : ∀ w : World, (Instr.typeAssert (overV x) 20 121 true).run Tryz.prog w = .ok (.tuple #[.agg #[.int .i64 x], .bool true]) w := fun w => by kernel_rfl
  have hba := (Below.refl w.heap.size w).alloc (Nat.le_refl _) (.cells #[.int .i64 x] 121)
  have c1 := cm hq hba
  have f1 := fm hf hq hba
  have q1 : q < w.heap.size := World.block_lt_of_cell? w _ hq
  clear hba
  go_wp2_with (simp only [hTA])
  exact ⟨rfl, .panicking [{ v := overV x, recovered := true }], by cases c₀; simp_all, _, results_none rfl _ _ _, rfl, rfl, rfl⟩
end Go.Proofs.YtoabiignjkcdmaaGreat

namespace Go.Proofs.YtoabiignjkcdmaaGreat
open Go.RowKit
set_option linter.unusedVariables false
set_option linter.unusedSimpArgs false

theorem kf_d {k : Int} (h : k = 1 ∨ k = 2 ∨ k = 3 ∨ k = 4 ∨ k = 9 ∨ k = 12) : kf k 1 = true := by
  rcases h with rfl | rfl | rfl | rfl | rfl | rfl <;> rfl
theorem kf_a {k : Int} (h : 1 ≤ k ∧ k ≤ 13) (h' : k ≠ 1 ∧ k ≠ 13) : kf k 2 = true := by
  have h2 : k = 2 ∨ k = 3 ∨ k = 4 ∨ k = 5 ∨ k = 6 ∨ k = 7 ∨ k = 8 ∨ k = 9 ∨ k = 10 ∨ k = 11 ∨ k = 12 := by omega
  rcases h2 with rfl | rfl | rfl | rfl | rfl | rfl | rfl | rfl | rfl | rfl | rfl <;> rfl
theorem kf_b {k : Int} (h : k = 3 ∨ k = 5 ∨ k = 6 ∨ k = 7 ∨ k = 10) : kf k 3 = true := by
  rcases h with rfl | rfl | rfl | rfl | rfl <;> rfl
theorem opOk_of {p : SIr} {o : SOp} (h : opS p o = true) (hi : 0 ≤ o.imm ∧ o.imm < 18446744073709551616) (hf : 0 ≤ o.fn ∧ o.fn < 256) : OpOk p.sec.length o := by
  unfold opS at h
  by_cases hk : o.k < 1 ∨ 13 < o.k
  · rw [if_pos hk] at h
    cases h
  rw [if_neg hk] at h
  have hk' : 1 ≤ o.k ∧ o.k ≤ 13 := by omega
  cases hv : opV p.sec.length o.k o.d o.a o.b o.imm with
  | true => rw [hv, if_pos rfl] at h; cases h
  | false =>
    rw [hv, if_neg (by decide)] at h
    unfold opV at hv
    simp only [Bool.or_eq_false_iff, Bool.not_eq_false'] at hv
    obtain ⟨⟨⟨h1, h2⟩, h3⟩, _⟩ := hv
    refine ⟨hk', hi, hf, fun e => ?_, fun e => ?_, fun e => ?_, fun e => ?_⟩
    · unfold opT opE at h
      rw [e] at h
      simp only [Bool.and_eq_true, Bool.not_eq_true', Bool.or_eq_false_iff, Bool.and_eq_false_iff] at h
      obtain ⟨⟨⟨⟨hh, _⟩, _⟩, _⟩, _⟩ := h
      rcases hh with hh | hh
      · simp at hh
      · simp only [decide_eq_false_iff_not] at hh
        omega
    · rw [kf_d e] at h1
      exact varB_in h1
    · rw [kf_a hk' e] at h2
      exact varB_in h2
    · rw [kf_b e] at h3
      exact varB_in h3
end Go.Proofs.YtoabiignjkcdmaaGreat

namespace Go.Proofs.YtoabiignjkcdmaaGreat
open Go.RowKit
set_option linter.unusedVariables false
set_option linter.unusedSimpArgs false

/-- What a step leaves. -/
def Left (m : SM) : Res → Prop
  | .go m' => m'.fuel = m.fuel ∧ m'.steps = m.steps ∧ m'.en = m.en
  | .over e m' => m'.fuel = m.fuel ∧ m'.steps = m.steps ∧ (e = 40 ∨ e = 0 ∧ m'.en = 4)
theorem opM_left (m : SM) (o : SOp) : Left m (opM m o) := by
  refine opM_ind m o ?_ ?_ ?_ ?_ ?_ ?_ ?_ ?_ ?_ ?_ ?_ ?_ ?_ <;> intro h
  · exact ⟨rfl, rfl, rfl⟩
  · exact ⟨rfl, rfl, rfl⟩
  · exact ⟨rfl, rfl, rfl⟩
  · unfold loadS
    cases m.handed.findIdx? (hits (m.get o.a) o.fn false) with
    | some x => exact ⟨rfl, rfl, rfl⟩
    | none => cases m.arena.findIdx? (hits (m.get o.a) o.fn false) with
      | some x => exact ⟨rfl, rfl, rfl⟩
      | none => exact ⟨rfl, rfl, .inl rfl⟩
  · unfold storeS
    cases m.handed.findIdx? (hits (m.get o.a) o.fn true) with
    | some x => exact ⟨rfl, rfl, rfl⟩
    | none => cases m.arena.findIdx? (hits (m.get o.a) o.fn true) with
      | some x => exact ⟨rfl, rfl, rfl⟩
      | none => exact ⟨rfl, rfl, .inl rfl⟩
  · by_cases h : m.get o.b ≤ m.get o.a
    · rw [if_pos h]; exact ⟨rfl, rfl, .inr ⟨rfl, rfl⟩⟩
    · rw [if_neg h]; exact ⟨rfl, rfl, rfl⟩
  · by_cases h : m.get o.b < m.get o.a
    · rw [if_pos h]; exact ⟨rfl, rfl, .inr ⟨rfl, rfl⟩⟩
    · rw [if_neg h]; exact ⟨rfl, rfl, rfl⟩
  · by_cases h : m.get o.a = 0
    · rw [if_pos h]; exact ⟨rfl, rfl, .inr ⟨rfl, rfl⟩⟩
    · rw [if_neg h]; exact ⟨rfl, rfl, rfl⟩
  · unfold allocS
    by_cases h : roomB m (m.get o.a) = true
    · simp only [if_pos h]; exact ⟨rfl, rfl, rfl⟩
    · simp only [if_neg h]; exact ⟨rfl, rfl, .inr ⟨rfl, rfl⟩⟩
  · unfold wipeS
    cases m.arena.findIdx? (fun x => starts (m.get o.a) x && ((x.b.length : Int) == m.get o.b)) with
    | some x => exact ⟨rfl, rfl, rfl⟩
    | none => exact ⟨rfl, rfl, .inl rfl⟩
  · unfold freeS
    cases m.arena.findIdx? (starts (m.get o.a)) with
    | some x => exact ⟨rfl, rfl, rfl⟩
    | none => exact ⟨rfl, rfl, .inl rfl⟩
  · exact ⟨rfl, rfl, rfl⟩
  · exact ⟨rfl, rfl, rfl⟩
/-- A step that goes on counts nothing itself, and ends nothing. -/
theorem opM_go {m m' : SM} {o : SOp} (h : opM m o = .go m') : m'.fuel = m.fuel ∧ m'.steps = m.steps ∧ m'.en = m.en := by
  have := opM_left m o
  rw [h] at this
  exact this
/-- Steps never fall. -/
theorem pay_steps {m m' : SM} {n : Int} (hn : 1 ≤ n) (h : payS m n = .go m') : m.steps < m'.steps := by
  unfold payS at h
  split at h
  · cases h
  · cases h; show m.steps < m.steps + n; omega
def Res.sm : Res → SM | .go m => m | .over _ m => m
theorem pay_go {m m' : SM} {n : Int} (h : payS m n = .go m') : m'.fuel = m.fuel ∧ m'.steps = m.steps + n ∧ m'.steps ≤ m.fuel := by
  unfold payS at h
  split at h
  · cases h
  · cases h
    refine ⟨rfl, rfl, ?_⟩
    show m.steps + n ≤ m.fuel
    omega
theorem layIn_keeps : ∀ (l : List SHanded) (ns : List Int) (bs : List ByteArray) (m : SM), (layIn l ns bs m).fuel = m.fuel ∧ (layIn l ns bs m).steps = m.steps ∧ (layIn l ns bs m).en = m.en
  | [], _, _, _ => ⟨rfl, rfl, rfl⟩
  | h :: l, ns, bs, m => by
    unfold layIn
    split
    · exact layIn_keeps l ns bs.tail _
    · exact layIn_keeps l ns.tail bs _
theorem runS_no {p : SIr} {i : SIn} {arena f : Int} (h : mayRun p i arena f = false) : runS p i arena f = (outZ, 2) := by
  unfold runS
  rw [h]
  rfl
end Go.Proofs.YtoabiignjkcdmaaGreat

namespace Go.Proofs.YtoabiignjkcdmaaGreat
open Go.RowKit
set_option linter.unusedVariables false
set_option linter.unusedSimpArgs false

set_option maxRecDepth 100000 in
theorem kidx (k : Int) (h1 : 1 ≤ k) (h2 : k ≤ 13) : ∀ w, (Instr.index 95 kindCells (.int .u8 k)).run Tryz.prog w = .ok (.agg #[.bool (kf k 0), .bool (kf k 1), .bool (kf k 2), .bool (kf k 3), .bool (kf k 4), .bool (kf k 5), .bool (kf k 6), .bool (kf k 7), .bool (kf k 8)]) w := by
  have : k = 1 ∨ k = 2 ∨ k = 3 ∨ k = 4 ∨ k = 5 ∨ k = 6 ∨ k = 7 ∨ k = 8 ∨ k = 9 ∨ k = 10 ∨ k = 11 ∨ k = 12 ∨ k = 13 := by omega
  rcases this with rfl | rfl | rfl | rfl | rfl | rfl | rfl | rfl | rfl | rfl | rfl | rfl | rfl <;> exact fun _ => by kernel_rfl

end Go.Proofs.YtoabiignjkcdmaaGreat
