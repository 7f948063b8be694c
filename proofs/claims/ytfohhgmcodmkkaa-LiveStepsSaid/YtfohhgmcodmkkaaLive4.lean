/-
  live's inner functions on the chapter's sample.
-/
import Derived.Test.YtfohhgmcodmkkaaLive3
import Derived.Test.YtfohhgmcodmkkaaMapC
import Derived.Test.YtfohhgmcodmkkaaApp
import Derived.Handy
import Derived.RangeFuncOwn
import Derived.LoopN
namespace Go.Proofs.Ytfohhgmcodmkkaa
open Go.RowKit Go.Lib
set_option linter.unusedVariables false
set_option linter.unusedSimpArgs false

/-- An entry of a set. -/
abbrev En (k : Int) (b : Nat) : MapEntry := { key := .int .i64 k, val := .bool true, born := b }

set_option maxHeartbeats 1000000 in
/-- next at a block that halts. -/
theorem next_c (O : Option Addr) (n c : Nat) (a go els : Int) (w : World) :
    Calls Try.prog 54 #[.agg #[.slice O n c, .int .u8 3, .int .i64 a, .int .i64 go, .int .i64 els]] w fun e w' => e = .returned (.slice none 0 0) ∧ Below w.heap.size w w' := by
  go_enter Try.func54, Try.ntmps54
  go_wp2
  go_ret
  exact ⟨rfl, (Below.refl _ _).alloc (Nat.le_refl _) _⟩

set_option maxRecDepth 100000 in
set_option maxHeartbeats 1000000 in
/-- ahead at a block that halts with variable 2. -/
theorem ahead_c (O : Option Addr) (n c : Nat) (I : Option Addr) (ni ci : Nat) (w : World) :
    Calls Try.prog 56 #[.agg #[.slice O n c, .int .u8 3, .int .i64 2, .int .i64 0, .int .i64 0], .slice I ni ci] w
      fun e w' => ∃ m, e = .returned (.map (some m)) ∧ w.heap.size ≤ m ∧ Ob w' m (.map #[En 2 0] 1) ∧ Below w.heap.size w w' := by
  have hmm := @run_makeMap Try.prog
  have B1 := (Bk.new w #[.slice O n c, .int .u8 3, .int .i64 2, .int .i64 0, .int .i64 0] 67).alloc (.map #[] 0)
  have M1 := Ob.newAt (w := w.alloc (.cells #[.slice O n c, .int .u8 3, .int .i64 2, .int .i64 0, .int .i64 0] 67)) (n := w.heap.size + 1) (.map #[] 0) (by simp)
  have hbW : Below w.heap.size w ((w.alloc (.cells #[.slice O n c, .int .u8 3, .int .i64 2, .int .i64 0, .int .i64 0] 67)).alloc (.map #[] 0)) := ((Below.refl _ _).alloc (Nat.le_refl _) _).alloc (by simp) _
  go_enter Try.func56, Try.ntmps56
  go_wp2_with (go_at_call 54; go_must (refine (next_c O n c 2 0 0 _).mono ?_); rintro e w1 ⟨rfl, hb⟩; replace B1 := B1.mono hb; have C1 := B1.cell; replace M1 := M1.mono hb; have hb1 := bt' hbW hbW.size hb)
  refine wp_loop_rounds 1 ?_
  rw [rounds_succ]
  go_wp2_with (at_mapUpdate; go_must (refine wpl_update_new rfl _ _ _ _ 3 4 rfl Try.underlying87 Try.underlying3 _ 0 _ 2 (.bool true) rfl rfl rfl M1 rfl ?_); intro w2 M2 hg2)
  go_ret
  exact ⟨_, rfl, by omega, M2, hb1.grown hg2 hb1.size (fun q hq => by cases hq; omega)⟩

theorem cell_keptM {w w' : World} {m clk : Nat} {es : Array MapEntry} {a : Addr} {v : Value} (h : w.cell? a = some v) (hg : w.grownBy w' (some m)) (M : Ob w m (.map es clk)) : w'.cell? a = some v :=
  cell_kept h hg (fun r e => by cases e; exact ⟨_, M, rfl⟩)

set_option maxRecDepth 100000 in
set_option maxHeartbeats 1000000 in
/-- over at the sample's second step. -/
theorem over2_c (m : Nat) (w : World) (M : Ob w m (.map #[En 2 0] 1)) :
    Calls Try.prog 58 #[.map (some m), .agg #[.int .u8 3, .int .u8 1, .int .i64 2, .int .i64 1, .int .i64 0, .int .u64 0]] w
      fun e w' => e = .returned (.tuple #[]) ∧ Ob w' m (.map #[En 0 1, En 1 2] 3) ∧ w.grownBy w' (some m) := by
  have B1 := Bk.new w #[.int .u8 3, .int .u8 1, .int .i64 2, .int .i64 1, .int .i64 0, .int .u64 0] 24
  have hml := M.lt
  have M1 := M.alloc (.cells #[.int .u8 3, .int .u8 1, .int .i64 2, .int .i64 1, .int .i64 0, .int .u64 0] 24)
  have hg0 : w.grownBy (w.alloc (.cells #[.int .u8 3, .int .u8 1, .int .i64 2, .int .i64 1, .int .i64 0, .int .u64 0] 24)) (some m) := World.grownBy_alloc _ _ _
  go_enter Try.func58, Try.ntmps58
  go_wp2_with (first
    | (go_at_call 6; go_must (refine (sets_c ⟨3, 1, 2, 1, 0, 0⟩ _).mono ?_); rintro e w1 ⟨he, hb⟩; obtain rfl : e = .returned (.tuple #[.int .i64 2, .bool true]) := he; replace M1 := M1.mono hb; replace B1 := B1.mono hb; have hg1 := hg0.trans (grown_of_below hb _))
    | (at_delete; go_must (refine wpl_delete rfl _ _ _ 3 4 rfl Try.underlying87 Try.underlying3 _ _ _ 2 (some (0, .bool true)) rfl rfl M1 rfl ?_); intro w2 M2 hg2; replace M2 : Ob w2 m (.map #[] 1) := (by simpa [delE] using M2); replace B1 := B1.grown hg2 (by intro h; cases h; omega); have C1 := B1.cell; have hg3 := hg1.trans hg2)
    | (go_at_call 9; go_must (refine (asks_c ⟨3, 1, 2, 1, 0, 0⟩ _).mono ?_); rintro e w3 ⟨⟨A, c, he, hr⟩, hb⟩; obtain rfl : e = .returned (.slice A 2 c) := he; replace M2 := M2.mono hb; have hg4 := hg3.trans (grown_of_below hb _)))
  obtain ⟨b, o, rfl, k0⟩ := kInt_at (xs := [0, 1]) hr 0 (by decide)
  obtain ⟨b', o', e', k1⟩ := kInt_at (xs := [0, 1]) hr 1 (by decide)
  cases e'
  simp only [Nat.add_zero, List.getElem_cons_zero] at k0
  simp only [List.getElem_cons_succ, List.getElem_cons_zero] at k1
  refine wp_loop_rounds 3 ?_
  rw [rounds_succ]
  go_wp2_with (at_mapUpdate; go_must (refine wpl_update_new rfl _ _ _ _ 3 4 rfl Try.underlying87 Try.underlying3 _ _ _ 0 (.bool true) rfl rfl rfl M2 rfl ?_); intro w4 M4 hg5; replace k1 := cell_keptM k1 hg5 M2)
  try rw [rounds_succ]
  go_wp2_with (at_mapUpdate; go_must (refine wpl_update_new rfl _ _ _ _ 3 4 rfl Try.underlying87 Try.underlying3 _ _ _ 1 (.bool true) rfl rfl rfl M4 rfl ?_); intro w5 M5 hg6)
  try rw [rounds_succ]
  go_wp2_with fail
  go_end0
  exact ⟨rfl, M5, (hg4.trans hg5).trans hg6⟩

set_option maxRecDepth 100000 in
set_option maxHeartbeats 1000000 in
/-- over at the sample's first step. -/
theorem over1_c (m : Nat) (w : World) (M : Ob w m (.map #[En 0 1, En 1 2] 3)) :
    Calls Try.prog 58 #[.map (some m), .agg #[.int .u8 2, .int .u8 0, .int .i64 1, .int .i64 0, .int .i64 0, .int .u64 0]] w
      fun e w' => e = .returned (.tuple #[]) ∧ Ob w' m (.map #[En 0 1] 3) ∧ w.grownBy w' (some m) := by
  have B1 := Bk.new w #[.int .u8 2, .int .u8 0, .int .i64 1, .int .i64 0, .int .i64 0, .int .u64 0] 24
  have hml := M.lt
  have M1 := M.alloc (.cells #[.int .u8 2, .int .u8 0, .int .i64 1, .int .i64 0, .int .i64 0, .int .u64 0] 24)
  have hg0 : w.grownBy (w.alloc (.cells #[.int .u8 2, .int .u8 0, .int .i64 1, .int .i64 0, .int .i64 0, .int .u64 0] 24)) (some m) := World.grownBy_alloc _ _ _
  go_enter Try.func58, Try.ntmps58
  go_wp2_with (first
    | (go_at_call 6; go_must (refine (sets_c ⟨2, 0, 1, 0, 0, 0⟩ _).mono ?_); rintro e w1 ⟨he, hb⟩; obtain rfl : e = .returned (.tuple #[.int .i64 1, .bool true]) := he; replace M1 := M1.mono hb; replace B1 := B1.mono hb; have hg1 := hg0.trans (grown_of_below hb _))
    | (at_delete; go_must (refine wpl_delete rfl _ _ _ 3 4 rfl Try.underlying87 Try.underlying3 _ _ _ 1 (some (1, .bool true)) rfl rfl M1 rfl ?_); intro w2 M2 hg2; replace M2 : Ob w2 m (.map #[En 0 1] 3) := (by simpa [delE] using M2); replace B1 := B1.grown hg2 (by intro h; cases h; omega); have C1 := B1.cell; have hg3 := hg1.trans hg2)
    | (go_at_call 9; go_must (refine (asks_c ⟨2, 0, 1, 0, 0, 0⟩ _).mono ?_); rintro e w3 ⟨⟨A, c, he, hr⟩, hb⟩; obtain rfl : e = .returned (.slice A 1 c) := he; replace M2 := M2.mono hb; have hg4 := hg3.trans (grown_of_below hb _)))
  obtain ⟨b, o, rfl, k0⟩ := kInt_at (xs := [0]) hr 0 (by decide)
  simp only [Nat.add_zero, List.getElem_cons_zero] at k0
  refine wp_loop_rounds 2 ?_
  rw [rounds_succ]
  go_wp2_with (at_mapUpdate; go_must (refine wpl_update_old rfl _ _ _ _ 3 4 rfl Try.underlying87 Try.underlying3 _ _ 0 _ 0 (.bool true) (.bool true) rfl rfl rfl M2 rfl rfl ?_); intro w4 M4 hg5)
  try rw [rounds_succ]
  go_wp2_with fail
  go_end0
  exact ⟨rfl, by simpa using M4, hg4.trans hg5⟩

set_option maxRecDepth 100000 in
set_option maxHeartbeats 1000000 in
/-- list at one entry. -/
theorem list1_c (k : Int) (b clk m : Nat) (hbc : b < clk) (w : World) (M : Ob w m (.map #[En k b] clk)) :
    Calls Try.prog 38 #[.map (some m)] w fun e w' => (∃ A c, e = .returned (.slice A 1 c) ∧ kInt.Row w' A [k]) ∧ Below w.heap.size w w' := by
  have hml := M.lt
  have I1 := Ob.new w (.mapIter (some m) clk #[] clk)
  have M1 := M.alloc (.mapIter (some m) clk #[] clk)
  have hbW : Below w.heap.size w (w.alloc (.mapIter (some m) clk #[] clk)) := (Below.refl _ _).alloc (Nat.le_refl _) _
  go_enter Try.func38, Try.ntmps38
  go_wp2_with (at_range; go_must (refine wpl_range rfl _ _ 3 4 rfl Try.underlying87 _ _ _ rfl M ?_))
  refine wp_loop_rounds 2 ?_
  try rw [rounds_succ]
  go_wp2_with (first
    | (at_next; go_must (refine wpl_next_one rfl _ rfl _ _ _ _ _ _ _ (En k b) rfl I1 M1 (by simp) (by simp) hbc ?_); intro w1 I2 hg1; replace M1 := M1.grown hg1 (by intro h; cases h; omega); have hen := run_entry_c (P := Try.prog) (s := b) (En k b) I2 M1 (by simp) (by simp); have hb1 := hbW.grown hg1 hbW.size (fun q hq => by cases hq; omega))
    | (at_builtin; go_must (refine wpList_append_int rfl _ _ rfl w1.heap.size (.slice none 0 0) _ [] rfl (World.ownsRow_nil ..) _ k rfl ((Bk.new _ _ _).cell 0) (by omega) (by simp) ?_); intro v1 w2 hown1 hg2; replace M1 := (M1.alloc _).grown hg2 (by intro h; cases h); replace I2 := (I2.alloc _).grown hg2 (by intro h; cases h); replace hb1 := (hb1.alloc hb1.size _).grown hg2 (by have := hb1.size; simp; omega) (fun q hq => by cases hq)))
  try rw [rounds_succ]
  go_wp2_with (first
    | (at_next; go_must (refine wpl_next_none rfl _ rfl _ _ _ _ _ _ _ rfl I2 M1 (by simp; omega) (by simp) ?_))
    | (go_at_call 48; go_must (refine (sort_own (m := [k]) (by simpa using hown1) rfl (by simp)).mono ?_); rintro e w3 ⟨rfl, hown3, hg3⟩))
  go_ret
  refine ⟨?_, hb1.grown hg3 hb1.size (fun q hq => by have h1 := own_from hown1 q hq; have h2 := hg1.size; simp at h2; omega)⟩
  rw [show srt [k] = [k] by simp [srt]] at hown3
  exact ret_own (m := [k]) hown3

theorem Ob.grownD {w w' : World} {n : Nat} {o : Obj} (h : Ob w n o) {row : Option Nat} (hg : w.drew.grownBy w' row) (hr : some n ≠ row) : Ob w' n o := Ob.grown (w := w.drew) h hg hr
theorem below_grownD {B : Nat} {a w w' : World} {row : Option Nat} (h : Below B a w) (hg : w.drew.grownBy w' row) (hB : B ≤ w.heap.size) (hr : ∀ k, row = some k → B ≤ k) : Below B a w' := Below.grown (w := w.drew) h.drew hg hB hr

set_option maxRecDepth 100000 in
set_option maxHeartbeats 1000000 in
/-- list at the two entries, whichever comes first. -/
theorem list2_c (m : Nat) (w : World) (M : Ob w m (.map #[En 0 1, En 1 2] 3)) :
    Calls Try.prog 38 #[.map (some m)] w fun e w' => (∃ A c, e = .returned (.slice A 2 c) ∧ kInt.Row w' A [0, 1]) ∧ Below w.heap.size w w' := by
  have hml := M.lt
  have I1 := Ob.new w (.mapIter (some m) 3 #[] 3)
  have M1 := M.alloc (.mapIter (some m) 3 #[] 3)
  have hbW : Below w.heap.size w (w.alloc (.mapIter (some m) 3 #[] 3)) := (Below.refl _ _).alloc (Nat.le_refl _) _
  go_enter Try.func38, Try.ntmps38
  go_wp2_with (at_range; go_must (refine wpl_range rfl _ _ 3 4 rfl Try.underlying87 _ _ _ rfl M ?_))
  refine wp_loop_rounds 3 ?_
  try rw [rounds_succ]
  go_wp2_with (first
    | (at_next; go_must (refine wpl_next_two rfl _ rfl _ _ _ _ _ _ _ (En 0 1) (En 1 2) rfl I1 M1 (by simp) (by simp) (by simp) (by simp) ?_ ?_); (intro w1 I2 hg1; replace M1 := M1.grownD hg1 (by intro h; cases h; omega); have hen := run_entry_c (P := Try.prog) (s := 1) (En 0 1) I2 M1 (by simp) (by simp); have hb1 := below_grownD hbW hg1 hbW.size (fun q hq => by cases hq; omega)); rotate_left; (intro w1 I2 hg1; replace M1 := M1.grownD hg1 (by intro h; cases h; omega); have hen := run_entry_c (P := Try.prog) (s := 2) (En 1 2) I2 M1 (by simp) (by simp); have hb1 := below_grownD hbW hg1 hbW.size (fun q hq => by cases hq; omega)); rotate_left)
    | (at_builtin; go_must (refine wpList_append_int rfl _ _ rfl w1.heap.size (.slice none 0 0) _ [] rfl (World.ownsRow_nil ..) _ _ rfl ((Bk.new _ _ _).cell 0) (by omega) (by simp) ?_); intro v1 w2 hown1 hg2; replace M1 := (M1.alloc _).grown hg2 (by intro h; cases h); replace I2 := (I2.alloc _).grown hg2 (by intro h; cases h); replace hb1 := (hb1.alloc hb1.size _).grown hg2 (by have := hb1.size; simp; omega) (fun q hq => by cases hq); have hs1 := hg1.size; have hs2 := hg2.size; simp at hs1 hs2))
  · skip
    try rw [rounds_succ]
    go_wp2_with (first
      | (at_next; go_must (refine wpl_next_one rfl _ rfl _ _ _ _ _ _ _ (En 1 2) rfl I2 M1 (by simp) (by simp) (by simp) ?_); go_must (intro w3 I3 hg3; have hz := I2.lt; have hown2 := hown1.kept hg3 (.inr fun e => by have := own_from hown1 _ e; omega); replace M1 := M1.grown hg3 (by intro h; cases h; omega); have hen := run_entry_c (P := Try.prog) (s := 2) (En 1 2) I3 M1 (by simp) (by simp); have hb3 := hb1.grown hg3 hb1.size (fun q hq => by cases hq; omega); have hs3 := hg3.size))
      | (at_builtin; go_must (refine wpList_append_int rfl _ _ rfl w1.heap.size v1 _ _ rfl (hown2.alloc _) _ 1 rfl ((Bk.new _ _ _).cell 0) (by omega) (by simp; omega) ?_); intro v4 w4 hown4 hg4; replace M1 := (M1.alloc _).grown hg4 (by intro h; have := own_from hown2 _ h.symm; omega); replace I3 := (I3.alloc _).grown hg4 (by intro h; have := own_from hown2 _ h.symm; omega); replace hb3 := (hb3.alloc hb3.size _).grown hg4 (by have := hb3.size; simp; omega) (fun q hq => by have := own_from hown2 q hq; omega)))
    try rw [rounds_succ]
    go_wp2_with (first
      | (at_next; go_must (refine wpl_next_none rfl _ rfl _ _ _ _ _ _ _ rfl I3 M1 (by simp) (by simp) ?_))
      | (go_at_call 48; go_must (refine (sort_own (m := [0, 1]) (by simpa using hown4) rfl (by simp)).mono ?_); rintro e w5 ⟨rfl, hown5, hg5⟩))
    go_ret
    refine ⟨?_, hb3.grown hg5 hb3.size (fun q hq => by have h1 := own_from hown4 q hq; omega)⟩
    rw [show srt [0, 1] = [0, 1] by simp [srt, List.mergeSort, List.MergeSort.Internal.splitInTwo, List.merge]] at hown5
    exact ret_own (m := [0, 1]) hown5
  · skip
    try rw [rounds_succ]
    go_wp2_with (first
      | (at_next; go_must (refine wpl_next_one rfl _ rfl _ _ _ _ _ _ _ (En 0 1) rfl I2 M1 (by simp) (by simp) (by simp) ?_); go_must (intro w3 I3 hg3; have hz := I2.lt; have hown2 := hown1.kept hg3 (.inr fun e => by have := own_from hown1 _ e; omega); replace M1 := M1.grown hg3 (by intro h; cases h; omega); have hen := run_entry_c (P := Try.prog) (s := 1) (En 0 1) I3 M1 (by simp) (by simp); have hb3 := hb1.grown hg3 hb1.size (fun q hq => by cases hq; omega); have hs3 := hg3.size))
      | (at_builtin; go_must (refine wpList_append_int rfl _ _ rfl w1.heap.size v1 _ _ rfl (hown2.alloc _) _ 0 rfl ((Bk.new _ _ _).cell 0) (by omega) (by simp; omega) ?_); intro v4 w4 hown4 hg4; replace M1 := (M1.alloc _).grown hg4 (by intro h; have := own_from hown2 _ h.symm; omega); replace I3 := (I3.alloc _).grown hg4 (by intro h; have := own_from hown2 _ h.symm; omega); replace hb3 := (hb3.alloc hb3.size _).grown hg4 (by have := hb3.size; simp; omega) (fun q hq => by have := own_from hown2 q hq; omega)))
    try rw [rounds_succ]
    go_wp2_with (first
      | (at_next; go_must (refine wpl_next_none rfl _ rfl _ _ _ _ _ _ _ rfl I3 M1 (by simp) (by simp) ?_))
      | (go_at_call 48; go_must (refine (sort_own (m := [1, 0]) (by simpa using hown4) rfl (by simp)).mono ?_); rintro e w5 ⟨rfl, hown5, hg5⟩))
    go_ret
    refine ⟨?_, hb3.grown hg5 hb3.size (fun q hq => by have h1 := own_from hown4 q hq; omega)⟩
    rw [show srt [1, 0] = [0, 1] by simp [srt, List.mergeSort, List.MergeSort.Internal.splitInTwo, List.merge]] at hown5
    exact ret_own (m := [0, 1]) hown5

end Go.Proofs.Ytfohhgmcodmkkaa
