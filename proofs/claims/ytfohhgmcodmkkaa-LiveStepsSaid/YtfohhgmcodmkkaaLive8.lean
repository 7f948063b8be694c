/-
  live.all, In, At on the chapter's sample.
-/
import Derived.Test.YtfohhgmcodmkkaaLive7
import Derived.Test.YtfohhgmcodmkkaaIrW6
namespace Go.Proofs.Ytfohhgmcodmkkaa
open Go.RowKit Go.Lib
set_option linter.unusedVariables false
set_option linter.unusedSimpArgs false

def blkS : SBlock := ⟨[op1S, op2S], 3, 2, 0, 0⟩

theorem mk1 (w : World) : (Instr.makeSlice 84 (.int .i64 1) (.int .i64 1)).run Try.prog w = .ok (.slice (some ⟨w.heap.size, 0, none⟩) 1 1) (w.alloc (.cells #[.map none] 87)) := by kernel_rfl
theorem mk2 (w : World) : (Instr.makeSlice 59 (.int .i64 1) (.int .i64 1)).run Try.prog w = .ok (.slice (some ⟨w.heap.size, 0, none⟩) 1 1) (w.alloc (.cells #[.slice none 0 0] 28)) := by kernel_rfl

theorem Ob.setCell {w : World} {n : Nat} {o : Obj} (h : Ob w n o) {a : Addr} (ha : n ≠ a.block) (v : Value) : Ob (w.setCell a v) n o := (heap_setCell_other w a n v ha).trans h

theorem len_nilmap (w : World) (t : TypeId) : (Builtin.len_ #[87] t #[.map none]).run Try.prog w = .ok (.int .i64 0) w := by
  simp [Builtin.len_, go_sem]

set_option maxHeartbeats 1000000 in
/-- maps.Equal of a set of one and none at all. -/
theorem equal_c (m : Nat) (k : Int) (b clk : Nat) (w : World) (M : Ob w m (.map #[En k b] clk)) :
    Calls Try.prog 55 #[.map (some m), .map none] w fun e w' => e = .returned (.bool false) ∧ Below w.heap.size w w' := by
  go_enter Try.func55, Try.ntmps55
  go_wp2_with (at_len; refine wpl_maplen rfl _ _ rfl 3 4 Try.underlying87 _ _ _ rfl M ?_)
  go_ret
  exact ⟨rfl, Below.refl _ _⟩

set_option maxRecDepth 100000 in
set_option maxHeartbeats 2000000 in
theorem all_c (S P B : Option Addr) (n1 c1 n2 c2 c3 : Nat) (w : World) (hb : kBlock.Row w B [blkS]) :
    Calls Try.prog 37 #[.agg #[.slice S n1 c1, .slice P n2 c2, .slice B 1 c3]] w
      fun e w' => (∃ i m, e = .returned (.slice (some ⟨i, 0, none⟩) 1 1) ∧ Bk w' i #[.map (some m)] 87 ∧ Ob w' m (.map #[En 0 1] 3)) ∧ Below w.heap.size w w' := by
  have hmm := @run_makeMap Try.prog
  obtain ⟨bb, bo, O, oc, rfl, g0, g1, g2, g3, g4, gm, hO⟩ := kBlock_at hb 0 (by simp)
  simp only [List.getElem_cons_zero, Nat.zero_mul, Nat.add_zero] at g0 g1 g2 g3 g4 hO
  replace g0 : w.cell? ⟨bb, bo, none⟩ = some (.slice O 2 oc) := g0
  replace g1 : w.cell? ⟨bb, bo + 1, none⟩ = some (.int .u8 3) := g1
  replace g2 : w.cell? ⟨bb, bo + 2, none⟩ = some (.int .i64 2) := g2
  replace g3 : w.cell? ⟨bb, bo + 3, none⟩ = some (.int .i64 0) := g3
  replace g4 : w.cell? ⟨bb, bo + 4, none⟩ = some (.int .i64 0) := g4
  have hk1 := mk1
  have hk2 := mk2
  go_enter Try.func37, Try.ntmps37
  go_wp2_with fail
  have BP := ((((Bk.new w #[.slice S n1 c1, .slice P n2 c2, .slice (some ⟨bb, bo, none⟩) 1 c3] 36).alloc (.cells #[.map none] 87)).alloc (.cells #[.slice none 0 0] 28)).alloc (.map #[] 0))
  have BI := ((Bk.newAt (w := w.alloc (.cells #[.slice S n1 c1, .slice P n2 c2, .slice (some ⟨bb, bo, none⟩) 1 c3] 36)) (n := w.heap.size + 1) #[.map none] 87 (by simp)).alloc (.cells #[.slice none 0 0] 28)).alloc (.map #[] 0)
  have BK := (Bk.newAt (w := (w.alloc (.cells #[.slice S n1 c1, .slice P n2 c2, .slice (some ⟨bb, bo, none⟩) 1 c3] 36)).alloc (.cells #[.map none] 87)) (n := w.heap.size + 1 + 1) #[.slice none 0 0] 28 (by simp)).alloc (.map #[] 0)
  have MW := Ob.newAt (w := ((w.alloc (.cells #[.slice S n1 c1, .slice P n2 c2, .slice (some ⟨bb, bo, none⟩) 1 c3] 36)).alloc (.cells #[.map none] 87)).alloc (.cells #[.slice none 0 0] 28)) (n := w.heap.size + 1 + 1 + 1) (.map #[] 0) (by simp)
  have hB := ((((Below.refl w.heap.size w).alloc (Nat.le_refl _) (.cells #[.slice S n1 c1, .slice P n2 c2, .slice (some ⟨bb, bo, none⟩) 1 c3] 36)).alloc (by simp) (.cells #[.map none] 87)).alloc (by simp; omega) (.cells #[.slice none 0 0] 28)).alloc (by simp; omega) (.map #[] 0)
  generalize (((w.alloc (.cells #[.slice S n1 c1, .slice P n2 c2, .slice (some ⟨bb, bo, none⟩) 1 c3] 36)).alloc (.cells #[.map none] 87)).alloc (.cells #[.slice none 0 0] 28)).alloc (.map #[] 0) = W0 at *
  have h0 : bb < w.heap.size := World.block_lt_of_cell? w _ g0
  have d0 := (hB.cell (p := ⟨bb, bo, none⟩) h0).trans g0
  have d1 := (hB.cell (p := ⟨bb, bo + 1, none⟩) h0).trans g1
  have d2 := (hB.cell (p := ⟨bb, bo + 2, none⟩) h0).trans g2
  have d3 := (hB.cell (p := ⟨bb, bo + 3, none⟩) h0).trans g3
  have d4 := (hB.cell (p := ⟨bb, bo + 4, none⟩) h0).trans g4
  refine wp_loop_rounds 2 ?_
  rw [rounds_succ]
  go_wp2_with (go_at_call 54; go_must (refine (next_c O 2 oc 2 0 0 _).mono ?_); rintro e w1 ⟨rfl, hb1⟩; have MW1 := (MW.alloc _).mono hb1)
  refine wp_loop_rounds 1 ?_
  rw [rounds_succ]
  go_wp2_with (at_mapUpdate; go_must (refine wpl_update_new rfl _ _ _ _ 3 4 rfl Try.underlying86 Try.underlying3 _ _ _ 0 (.bool true) rfl rfl rfl MW1 rfl ?_); intro w2 MW2 hg2)
  have BP2 := ((BP.alloc _).mono hb1).grown hg2 (by intro h; injection h with h; omega)
  have BI2 := ((BI.alloc _).mono hb1).grown hg2 (by intro h; injection h with h; omega)
  have BK2 := ((BK.alloc _).mono hb1).grown hg2 (by intro h; injection h with h; omega)
  have hB1 := (hB.alloc hB.size _).trans (hb1.mono (by have := hB.size; simp; omega))
  have hB2 := hB1.grown hg2 hB1.size (fun q hq => by cases hq; omega)
  have hP := BP2.cell
  have hI := BI2.cell
  have hK := BK2.cell
  have d0 := (hB2.cell (p := ⟨bb, bo, none⟩) h0).trans g0
  have d1 := (hB2.cell (p := ⟨bb, bo + 1, none⟩) h0).trans g1
  have d2 := (hB2.cell (p := ⟨bb, bo + 2, none⟩) h0).trans g2
  have d3 := (hB2.cell (p := ⟨bb, bo + 3, none⟩) h0).trans g3
  have d4 := (hB2.cell (p := ⟨bb, bo + 4, none⟩) h0).trans g4
  replace MW2 : Ob w2 (w.heap.size + 1 + 1 + 1) (.map #[En 0 0] 1) := MW2
  have hml := MW2.lt
  rw [rounds_succ]
  go_wp2_with fail
  refine wp_loop_rounds 2 ?_
  rw [rounds_succ]
  go_wp2_with (first
    | (at_len; go_must (refine wpl_maplen rfl _ _ rfl 3 4 Try.underlying86 _ _ _ rfl MW2 ?_))
    | (at_range; go_must (refine wpl_range rfl _ _ 3 4 rfl Try.underlying86 _ _ _ rfl MW2 ?_)))
  have I3 := Ob.new w2 (.mapIter (some (w.heap.size + 1 + 1 + 1)) 1 #[] 1)
  have MW3 := MW2.alloc (.mapIter (some (w.heap.size + 1 + 1 + 1)) 1 #[] 1)
  refine wp_loop_rounds 2 ?_
  rw [rounds_succ]
  go_wp2_with (first
    | (at_next; go_must (refine wpl_next_one rfl _ rfl _ _ _ _ _ _ _ (En 0 0) rfl I3 MW3 (by simp) (by simp) (by simp) ?_); go_must (intro w4 I4 hg4; replace MW3 := MW3.grown hg4 (by intro h; injection h with h; omega); have hen := run_entry_c (P := Try.prog) (s := 0) (En 0 0) I4 MW3 (by simp) (by simp); have hB4 := (hB2.alloc hB2.size (.mapIter (some (w.heap.size + 1 + 1 + 1)) 1 #[] 1)).grown hg4 (by have := hB2.size; simp; omega) (fun q hq => by cases hq; have := hB2.size; omega)))
    | (at_delete; go_must (refine wpl_delete rfl _ _ _ 3 4 rfl Try.underlying86 Try.underlying3 _ _ _ 0 (some (0, .bool true)) rfl rfl MW3 rfl ?_); go_must (intro w5 MW5 hg5; have BP5 := ((BP2.alloc (.mapIter (some (w.heap.size + 1 + 1 + 1)) 1 #[] 1)).grown hg4 (by intro h; injection h with h; omega)).grown hg5 (by intro h; injection h with h; omega); have BI5 := ((BI2.alloc (.mapIter (some (w.heap.size + 1 + 1 + 1)) 1 #[] 1)).grown hg4 (by intro h; injection h with h; omega)).grown hg5 (by intro h; injection h with h; omega); have BK5 := ((BK2.alloc (.mapIter (some (w.heap.size + 1 + 1 + 1)) 1 #[] 1)).grown hg4 (by intro h; injection h with h; omega)).grown hg5 (by intro h; injection h with h; omega); have I5 := I4.grown hg5 (by intro h; injection h with h; omega); replace MW5 : Ob w5 (w.heap.size + 1 + 1 + 1) (.map #[] 1) := (by simpa [delE] using MW5); have hB5 := hB4.grown hg5 hB4.size (fun q hq => by injection hq with hq; omega); have hP := BP5.cell; have hI := BI5.cell; have hK := BK5.cell; have d0 := (hB5.cell (p := ⟨bb, bo, none⟩) h0).trans g0; have d1 := (hB5.cell (p := ⟨bb, bo + 1, none⟩) h0).trans g1; have d2 := (hB5.cell (p := ⟨bb, bo + 2, none⟩) h0).trans g2; have d3 := (hB5.cell (p := ⟨bb, bo + 3, none⟩) h0).trans g3; have d4 := (hB5.cell (p := ⟨bb, bo + 4, none⟩) h0).trans g4))
    | (go_at_call 39; go_must (refine (at_c 0 (by omega) O oc _ 1 1 _ (hO.mono hB5)).mono ?_); go_must (rintro e w6 ⟨⟨m, rfl, hm, M6⟩, hb6⟩; have BI6 := BI5.mono hb6; have BK6 := BK5.mono hb6; have I6 := I5.mono hb6; have MW6 := MW5.mono hb6; have hB6 := hB5.trans (hb6.mono hB5.size); have hI := BI6.cell; have hK := BK6.cell))
    | (go_at_call 55; go_must (refine (equal_c m 0 1 3 _ M6).mono ?_); go_must (rintro e w7 ⟨rfl, hb7⟩; have BI7 := BI6.mono hb7; have BK7 := BK6.mono hb7; have I7 := I6.mono hb7; have MW7 := MW6.mono hb7; have M7 := M6.mono hb7; have hB7 := hB6.trans (hb7.mono hB6.size); have hI := BI7.cell; have hK := BK7.cell; have fI := BI7.free)))
  have hz7 := MW7.lt
  have I8 := I7.setCell (a := ⟨w.heap.size + 1, 0, none⟩) (by show w2.heap.size ≠ w.heap.size + 1; omega) (.map (some m))
  have MW8 := MW7.setCell (a := ⟨w.heap.size + 1, 0, none⟩) (by show w.heap.size + 1 + 1 + 1 ≠ w.heap.size + 1; omega) (.map (some m))
  have hm2 : w.heap.size + 1 < m := by have := BI5.lt; omega
  have M8 := M7.setCell (a := ⟨w.heap.size + 1, 0, none⟩) (by show m ≠ w.heap.size + 1; omega) (.map (some m))
  have BI8 := BI7.set 0 (.map (some m))
  have hB8 := hB7.setCell (p := ⟨w.heap.size + 1, 0, none⟩) (by show w.heap.size ≤ w.heap.size + 1; omega) (.map (some m))
  refine wp_loop_rounds 1 ?_
  rw [rounds_succ]
  go_wp2_with fail
  try rw [rounds_succ]
  go_wp2_with (at_next; go_must (refine wpl_next_none rfl _ rfl _ _ _ _ _ _ _ rfl I8 MW8 (by simp) (by simp) ?_))
  try rw [rounds_succ]
  go_wp2_with (at_len; go_must (refine wpl_maplen rfl _ _ rfl 3 4 Try.underlying86 _ _ _ rfl MW8 ?_))
  go_ret
  exact ⟨⟨_, m, rfl, BI8, M8⟩, hB8⟩

end Go.Proofs.Ytfohhgmcodmkkaa
