/-
  live.In, live.At on the chapter's sample.
-/
import Derived.Test.YtfohhgmcodmkkaaLive8
namespace Go.Proofs.Ytfohhgmcodmkkaa
open Go.RowKit Go.Lib
set_option linter.unusedVariables false
set_option linter.unusedSimpArgs false

theorem cmD {w w' : World} {a : Addr} {v : Value} (h : w.cell? a = some v) (hb : Below w.drew.heap.size w.drew w') : w'.cell? a = some v := cm (w := w.drew) h hb

/-- The sample. -/
def pS : SIr := ⟨[false, false, false], [], [blkS]⟩
theorem checkN_pS : checkN pS = 0 := by decide
theorem infoSl : (Try.prog.info? 28).map (fun i => (i.zero, i.size, i.bytes)) = some (some (.slice none 0 0), 1, 24) := by kernel_rfl

/-- The sample as it lies. -/
def Lies (w : World) (S B : Option Addr) : Prop := kBool.Row w S [false, false, false] ∧ kBlock.Row w B [blkS]
theorem Lies.mono {w w' : World} {S B : Option Addr} (h : Lies w S B) (hb : Below w.heap.size w w') : Lies w' S B := ⟨h.1.mono hb, h.2.mono hb⟩

theorem checkS_c (S B : Option Addr) (c1 c3 : Nat) (w : World) (h : Lies w S B) :
    Calls Try.prog 16 #[.agg #[.slice S 3 c1, .slice none 0 0, .slice B 1 c3]] w fun e w' => e = .returned (.int .i64 0) ∧ Below w.heap.size w w' := by
  have := check_c pS S none B c1 0 c3 w h.1 (.inl rfl) h.2 (by simp [pS]) (by intro b hb; simp [pS] at hb; subst hb; simp [blkS])
  rw [checkN_pS] at this
  exact this

set_option maxRecDepth 100000 in
set_option maxHeartbeats 2000000 in
theorem in_c (S B : Option Addr) (c1 c3 : Nat) (w : World) (h : Lies w S B) :
    Calls Try.prog 23 #[.agg #[.slice S 3 c1, .slice none 0 0, .slice B 1 c3]] w
      fun e w' => (∃ g c A c', e = .returned (.tuple #[.slice (some ⟨g, 0, none⟩) 1 c, .int .i64 0]) ∧ w'.cell? ⟨g, 0, none⟩ = some (.slice A 1 c') ∧ kInt.Row w' A [0]) ∧ Below w.heap.size w w' := by
  obtain ⟨i0, hi, hz0, hz1, hz2⟩ := info_parts infoSl
  have B0 := Bk.new w #[.slice S 3 c1, .slice none 0 0, .slice B 1 c3] 36
  have hbW : Below w.heap.size w (w.alloc (.cells #[.slice S 3 c1, .slice none 0 0, .slice B 1 c3] 36)) := (Below.refl _ _).alloc (Nat.le_refl _) _
  go_enter Try.func23, Try.ntmps23
  go_wp2_with (first
    | (go_at_call 16; go_must (refine (checkS_c S B c1 c3 _ (h.mono hbW)).mono ?_); go_must (rintro e w1 ⟨rfl, hb1⟩; have B1 := B0.mono hb1; have C1 := B1.cell; have hB1 := bt hbW hb1))
    | (go_at_call 37; go_must (refine (all_c S none B 3 c1 0 0 c3 _ (h.2.mono hB1)).mono ?_); go_must (rintro e w2 ⟨⟨i, m, rfl, BI, M⟩, hb2⟩; have hB2 := bt hB1 hb2; have CI := BI.cell)))
  refine wp_loop_rounds 2 ?_
  rw [rounds_succ]
  go_wp2_with (first
    | (go_at_call 38; go_must (refine (list1_c 0 1 3 m (by omega) _ M).mono ?_); go_must (rintro e w3 ⟨⟨A, c, rfl, hr⟩, hb3⟩; have hB3 := bt hB2 hb3))
    | (at_builtin; go_must (refine wpList_append_own _ rfl _ _ 59 rfl w3.heap.size 28 i0 (.slice none 0 0) 1 24 Try.underlying59 hi hz0 hz1 hz2 rfl (by decide) (.slice none 0 0) 0 [] rfl (World.ownsRow_nil ..) ⟨w3.heap.size, 0, none⟩ 1 1 [.slice A 1 c] rfl rfl (cell_one_new _ _ _) (by simp [Value.oneCell']) (by unfold maxLen; omega) (by omega) (by simp) ?_); intro v1 w4 hown hg4 _))
  try rw [rounds_succ]
  go_wp2_with fail
  go_ret2
  have hb4 : Below w3.heap.size w3 w4 := ((Below.refl _ _).alloc (Nat.le_refl _) _).grown hg4 (by simp) (fun q hq => by cases hq)
  rcases hown.2 with ⟨_, hn⟩ | ⟨g, cap, cur, rfl, _⟩
  · omega
  · have hc := World.ownsRow.cellAt hown 0 (by simp)
    exact ⟨⟨g, cap, A, c, rfl, by simpa using hc, hr.mono hb4⟩, bt hB3 hb4⟩

set_option maxRecDepth 100000 in
set_option maxHeartbeats 2000000 in
/-- live.At beyond the block. -/
theorem at3_c (S B : Option Addr) (c1 c3 : Nat) (w : World) (h : Lies w S B) :
    Calls Try.prog 25 #[.agg #[.slice S 3 c1, .slice none 0 0, .slice B 1 c3], .int .i64 0, .int .i64 3] w
      fun e w' => e = .returned (.tuple #[.slice none 0 0, .int .i64 2]) ∧ Below w.heap.size w w' := by
  have B0 := Bk.new w #[.slice S 3 c1, .slice none 0 0, .slice B 1 c3] 36
  have hbW : Below w.heap.size w (w.alloc (.cells #[.slice S 3 c1, .slice none 0 0, .slice B 1 c3] 36)) := (Below.refl _ _).alloc (Nat.le_refl _) _
  obtain ⟨bb, bo, O, oc, rfl, g0, g1, g2, g3, g4, gm, hO⟩ := kBlock_at h.2 0 (by simp)
  simp only [List.getElem_cons_zero, Nat.zero_mul, Nat.add_zero] at g0
  replace g0 : w.cell? ⟨bb, bo, none⟩ = some (.slice O 2 oc) := g0
  go_enter Try.func25, Try.ntmps25
  go_wp2_with (go_at_call 16; go_must (refine (checkS_c S _ c1 c3 _ (h.mono hbW)).mono ?_); go_must (rintro e w1 ⟨rfl, hb1⟩; have B1 := B0.mono hb1; have C1 := B1.cell; have hB1 := bt hbW hb1; have d0 := cm g0 hB1))
  go_ret2
  exact ⟨rfl, hB1⟩

set_option maxRecDepth 100000 in
set_option maxHeartbeats 2000000 in
/-- live.At within it. -/
theorem atj_c (j : Nat) (hj : j ≤ 2) (L : List Int) (hl : ∀ m w, Ob w m (.map (entsAt j) (clkAt j)) → Calls Try.prog 38 #[.map (some m)] w fun e w' => (∃ A c, e = .returned (.slice A L.length c) ∧ kInt.Row w' A L) ∧ Below w.heap.size w w')
    (S B : Option Addr) (c1 c3 : Nat) (w : World) (h : Lies w S B) :
    Calls Try.prog 25 #[.agg #[.slice S 3 c1, .slice none 0 0, .slice B 1 c3], .int .i64 0, .int .i64 j] w
      fun e w' => (∃ A c, e = .returned (.tuple #[.slice A L.length c, .int .i64 0]) ∧ kInt.Row w' A L) ∧ Below w.heap.size w w' := by
  have B0 := Bk.new w #[.slice S 3 c1, .slice none 0 0, .slice B 1 c3] 36
  have hbW : Below w.heap.size w (w.alloc (.cells #[.slice S 3 c1, .slice none 0 0, .slice B 1 c3] 36)) := (Below.refl _ _).alloc (Nat.le_refl _) _
  obtain ⟨bb, bo, O, oc, rfl, g0, g1, g2, g3, g4, gm, hO⟩ := kBlock_at h.2 0 (by simp)
  simp only [List.getElem_cons_zero, Nat.zero_mul, Nat.add_zero] at g0 g1 g2 g3 g4 hO
  replace g0 : w.cell? ⟨bb, bo, none⟩ = some (.slice O 2 oc) := g0
  replace g1 : w.cell? ⟨bb, bo + 1, none⟩ = some (.int .u8 3) := g1
  replace g2 : w.cell? ⟨bb, bo + 2, none⟩ = some (.int .i64 2) := g2
  replace g3 : w.cell? ⟨bb, bo + 3, none⟩ = some (.int .i64 0) := g3
  replace g4 : w.cell? ⟨bb, bo + 4, none⟩ = some (.int .i64 0) := g4
  have hL := Lib.hid hl
  clear hl
  have hj1 : ¬ (j : Int) < 0 := by omega
  have hj2 : ¬ (2 : Int) < (j : Int) := by omega
  go_enter Try.func25, Try.ntmps25
  go_wp2_with (go_at_call 16; go_must (refine (checkS_c S _ c1 c3 _ (h.mono hbW)).mono ?_); go_must (rintro e w1 ⟨rfl, hb1⟩; have B1 := B0.mono hb1; have C1 := B1.cell; have hB1 := bt hbW hb1; have d0 := cm g0 hB1))
  have d1 := cm g1 hB1
  have d2 := cm g2 hB1
  have d3 := cm g3 hB1
  have d4 := cm g4 hB1
  have e0 := C1 0
  have e1 := C1 1
  have e2 := C1 2
  go_region_held3 (fun w' => w'.cell? ⟨w.heap.size, 0, none⟩ = some (.slice S 3 c1) ∧ w'.cell? ⟨w.heap.size, 1, none⟩ = some (.slice none 0 0) ∧ w'.cell? ⟨w.heap.size, 2, none⟩ = some (.slice (some ⟨bb, bo, none⟩) 1 c3) ∧ w'.cell? ⟨bb, bo, none⟩ = some (.slice O 2 oc) ∧ w'.cell? ⟨bb, bo + 1, none⟩ = some (.int .u8 3) ∧ w'.cell? ⟨bb, bo + 2, none⟩ = some (.int .i64 2) ∧ w'.cell? ⟨bb, bo + 3, none⟩ = some (.int .i64 0) ∧ w'.cell? ⟨bb, bo + 4, none⟩ = some (.int .i64 0)) (first | go_keep | (exact ⟨cmD e0 hb2, cmD e1 hb2, cmD e2 hb2, cmD d0 hb2, cmD d1 hb2, cmD d2 hb2, cmD d3 hb2, cmD d4 hb2⟩) | (exact ⟨cm (cmD e0 hb2) hb3, cm (cmD e1 hb2) hb3, cm (cmD e2 hb2) hb3, cm (cmD d0 hb2) hb3, cm (cmD d1 hb2) hb3, cm (cmD d2 hb2) hb3, cm (cmD d3 hb2) hb3, cm (cmD d4 hb2) hb3⟩) | (exact ⟨cm (cm (cmD e0 hb2) hb3) hb4, cm (cm (cmD e1 hb2) hb3) hb4, cm (cm (cmD e2 hb2) hb3) hb4, cm (cm (cmD d0 hb2) hb3) hb4, cm (cm (cmD d1 hb2) hb3) hb4, cm (cm (cmD d2 hb2) hb3) hb4, cm (cm (cmD d3 hb2) hb3) hb4, cm (cm (cmD d4 hb2) hb3) hb4⟩)) (first
    | (go_at_call 37; go_must (refine (all_c S none _ 3 c1 0 0 c3 _ (h.2.mono hB1.drew)).mono ?_); rintro e w2 ⟨⟨i, m, rfl, BI, M⟩, hb2⟩)
    | (go_at_call 39; go_must (refine (at_c j hj O oc _ 1 1 _ (hO.mono (btD hB1 hB1.size hb2))).mono ?_); rintro e w3 ⟨⟨m3, rfl, hm3, M3⟩, hb3⟩)
    | (go_at_call 38; go_must (refine (hL.out m3 _ M3).mono ?_); rintro e w4 ⟨⟨A, c, rfl, hr⟩, hb4⟩))
  all_goals
    go_wp2
    go_ret2
    exact ⟨⟨A, c, rfl, hr⟩, bt (bt (btD hB1 hB1.size hb2) hb3) hb4⟩

end Go.Proofs.Ytfohhgmcodmkkaa
