/-
  live.Asks and the document's.
-/
import Derived.Test.YtfohhgmcodmkkaaLive1
namespace Go.Proofs.Ytfohhgmcodmkkaa
open Go.RowKit Go.Lib
set_option linter.unusedVariables false
set_option linter.unusedSimpArgs false

theorem row1 {w : World} {n : Nat} {x : Int} {t : TypeId} (h : Bk w n #[.int .i64 x] t) : kInt.Row w (some ⟨n, 0, none⟩) [x] := by
  refine .inr ⟨n, 0, rfl, fun i hi => ⟨_, rfl, fun j hj => ?_⟩⟩
  have hi0 : i = 0 := by simpa using hi
  have hj0 : j = 0 := by simpa [kInt, Kd.flat] using hj
  subst hi0; subst hj0
  exact h.cell 0
theorem own2 {w : World} {g : Nat} {x y : Int} (h : Bk w g #[.int .i64 x, .int .i64 y] 3) : w.ownsRow g 3 1 (.slice (some ⟨g, 0, none⟩) 2 2) 2 ([x, y].map (Value.int .i64)) :=
  ⟨rfl, .inr ⟨g, 2, _, rfl, Nat.le_refl _, h, by omega, by unfold maxLen; omega, rfl, rfl⟩⟩
theorem compact_same (x : Int) : Lib.compact [x, x] = [x] := by
  simp [Lib.compact, compactUpTo, List.range_succ, keeps]
theorem compact_two {x y : Int} (h : x ≠ y) : Lib.compact [x, y] = [x, y] := by
  have h' : ¬ y = x := fun e => h e.symm
  simp [Lib.compact, compactUpTo, List.range_succ, keeps, h']

set_option maxHeartbeats 1000000 in
theorem asks_none (k fn d a b imm : Int) (w : World) (hk : k = 1 ∨ k ≠ 1 ∧ k ≠ 2 ∧ k ≠ 3 ∧ k ≠ 4 ∧ k ≠ 5 ∧ k ≠ 6 ∧ k ≠ 7 ∧ k ≠ 8 ∧ k ≠ 9 ∧ k ≠ 10 ∧ k ≠ 11 ∧ k ≠ 12) :
    Calls Try.prog 9 #[.agg #[.int .u8 k, .int .u8 fn, .int .i64 d, .int .i64 a, .int .i64 b, .int .u64 imm]] w fun e w' => (∃ A c, e = .returned (.slice A ([] : List Int).length c) ∧ kInt.Row w' A ([] : List Int)) ∧ Below w.heap.size w w' := by
  have hbW : Below w.heap.size w (w.alloc (.cells #[.int .u8 k, .int .u8 fn, .int .i64 d, .int .i64 a, .int .i64 b, .int .u64 imm] 24)) := (Below.refl _ _).alloc (Nat.le_refl _) _
  rcases hk with rfl | ⟨h1, h2, h3, h4, h5, h6, h7, h8, h9, h10, h11, h12⟩
  all_goals
    go_enter Try.func9, Try.ntmps9
    go_wp2
    all_goals
      go_ret
      exact ⟨⟨_, _, rfl, .inl rfl⟩, hbW⟩

set_option maxHeartbeats 1000000 in
theorem asks_one (k fn d a b imm : Int) (w : World) (hk : k = 2 ∨ k = 4 ∨ k = 8 ∨ k = 9 ∨ k = 11 ∨ k = 12) :
    Calls Try.prog 9 #[.agg #[.int .u8 k, .int .u8 fn, .int .i64 d, .int .i64 a, .int .i64 b, .int .u64 imm]] w fun e w' => (∃ A c, e = .returned (.slice A [a].length c) ∧ kInt.Row w' A [a]) ∧ Below w.heap.size w w' := by
  have hbW : Below w.heap.size w (w.alloc (.cells #[.int .u8 k, .int .u8 fn, .int .i64 d, .int .i64 a, .int .i64 b, .int .u64 imm] 24)) := (Below.refl _ _).alloc (Nat.le_refl _) _
  rcases hk with rfl | rfl | rfl | rfl | rfl | rfl
  all_goals
    go_enter Try.func9, Try.ntmps9
    go_wp2
    go_ret
    exact ⟨⟨_, _, rfl, row1 (Bk.newAt _ 3 (by simp))⟩, ((Below.refl _ _).alloc (Nat.le_refl _) _).alloc (by simp) _⟩

set_option maxHeartbeats 1000000 in
theorem asks_two (k fn d a b imm : Int) (w : World) (hk : k = 3 ∨ k = 5 ∨ k = 6 ∨ k = 7 ∨ k = 10) :
    Calls Try.prog 9 #[.agg #[.int .u8 k, .int .u8 fn, .int .i64 d, .int .i64 a, .int .i64 b, .int .u64 imm]] w fun e w' => (∃ A c, e = .returned (.slice A (if a = b then [a] else [min a b, max a b]).length c) ∧ kInt.Row w' A (if a = b then [a] else [min a b, max a b])) ∧ Below w.heap.size w w' := by
  have hbW : Below w.heap.size w (w.alloc (.cells #[.int .u8 k, .int .u8 fn, .int .i64 d, .int .i64 a, .int .i64 b, .int .u64 imm] 24)) := (Below.refl _ _).alloc (Nat.le_refl _) _
  have hc : Lib.compact [min a b, max a b] = if a = b then [a] else [min a b, max a b] := by
    by_cases e : a = b
    · subst e; simp [compact_same]
    · rw [if_neg e, compact_two (by omega)]
  rw [← hc]
  clear hc
  generalize hx : min a b = x
  generalize hy : max a b = y
  have B2 : Bk ((w.alloc (.cells #[.int .u8 k, .int .u8 fn, .int .i64 d, .int .i64 a, .int .i64 b, .int .u64 imm] 24)).alloc (.cells #[.int .i64 x, .int .i64 y] 3)) (w.heap.size + 1) #[.int .i64 x, .int .i64 y] 3 := Bk.newAt _ _ (by simp)
  have hbW2 := hbW.alloc (by simp) (.cells #[.int .i64 x, .int .i64 y] 3)
  rcases hk with rfl | rfl | rfl | rfl | rfl
  all_goals
    go_enter Try.func9, Try.ntmps9
    go_wp2_with (go_at_call 21; go_must (refine (compact_own2 (own2 B2) rfl (by simp)).mono ?_); rintro e w1 ⟨A, c, rfl, hown, hg⟩)
    go_ret
    obtain ⟨A2, c2, e, hr⟩ := row_of_own hown rfl
    injection e with e1 e2 e3
    subst e1
    refine ⟨⟨_, _, rfl, hr⟩, hbW2.grown hg (by simp; omega) (fun q hq => ?_)⟩
    injection hq with hq
    subst hq
    show w.heap.size ≤ w.heap.size + 1
    omega

theorem asks_c (o : SOp) (w : World) :
    Calls Try.prog 9 #[.agg #[.int .u8 o.k, .int .u8 o.fn, .int .i64 o.d, .int .i64 o.a, .int .i64 o.b, .int .u64 o.imm]] w fun e w' => (∃ A c, e = .returned (.slice A (asksS o).length c) ∧ kInt.Row w' A (asksS o)) ∧ Below w.heap.size w w' := by
  obtain ⟨k, fn, d, a, b, imm⟩ := o
  rcases kinds_of k with (rfl | rfl | rfl | rfl | rfl | rfl) | (rfl | rfl | rfl | rfl | rfl | rfl) | h
  · exact asks_none _ fn d a b imm w (by simp)
  · exact asks_one _ fn d a b imm w (by simp)
  · exact asks_two _ fn d a b imm w (by simp)
  · exact asks_one _ fn d a b imm w (by simp)
  · exact asks_one _ fn d a b imm w (by simp)
  · exact asks_one _ fn d a b imm w (by simp)
  · exact asks_two _ fn d a b imm w (by simp)
  · exact asks_two _ fn d a b imm w (by simp)
  · exact asks_two _ fn d a b imm w (by simp)
  · exact asks_one _ fn d a b imm w (by simp)
  · exact asks_two _ fn d a b imm w (by simp)
  · exact asks_one _ fn d a b imm w (by simp)
  · have hs : asksS ⟨k, fn, d, a, b, imm⟩ = [] := by
      obtain ⟨h1, h2, h3, h4, h5, h6, h7, h8, h9, h10, h11, h12⟩ := h
      simp [asksS, oneK, twoK, h1, h2, h3, h4, h5, h6, h7, h8, h9, h10, h11, h12]
    rw [hs]
    exact asks_none k fn d a b imm w (.inr h)

end Go.Proofs.Ytfohhgmcodmkkaa
