/-
  alive; LiveSteps.
-/
import Derived.Test.YtfohhgmcodmkkaaLive10
namespace Go.Proofs.Ytfohhgmcodmkkaa
open Go.RowKit Go.Lib
set_option linter.unusedVariables false
set_option linter.unusedSimpArgs false

theorem at1_c (S B : Option Addr) (c1 c3 : Nat) (w : World) (h : Lies w S B) :
    Calls Try.prog 25 #[.agg #[.slice S 3 c1, .slice none 0 0, .slice B 1 c3], .int .i64 0, .int .i64 1] w
      fun e w' => (∃ A c, e = .returned (.tuple #[.slice A 2 c, .int .i64 0]) ∧ kInt.Row w' A [0, 1]) ∧ Below w.heap.size w w' :=
  atj_c 1 (by omega) [0, 1] (fun m w M => list2_c m w M) S B c1 c3 w h
theorem at2_c (S B : Option Addr) (c1 c3 : Nat) (w : World) (h : Lies w S B) :
    Calls Try.prog 25 #[.agg #[.slice S 3 c1, .slice none 0 0, .slice B 1 c3], .int .i64 0, .int .i64 2] w
      fun e w' => (∃ A c, e = .returned (.tuple #[.slice A 1 c, .int .i64 0]) ∧ kInt.Row w' A [2]) ∧ Below w.heap.size w w' :=
  atj_c 2 (by omega) [2] (fun m w M => list1_c 2 0 1 m (by omega) w M) S B c1 c3 w h
theorem row2 {w : World} {n : Nat} {x y : Int} {t : TypeId} (h : Bk w n #[.int .i64 x, .int .i64 y] t) : kInt.Row w (some ⟨n, 0, none⟩) [x, y] := by
  refine .inr ⟨n, 0, rfl, fun i hi => ⟨_, rfl, fun j hj => ?_⟩⟩
  have hi' : i = 0 ∨ i = 1 := by simp at hi; omega
  have hj0 : j = 0 := by simpa [kInt, Kd.flat] using hj
  subst hj0
  rcases hi' with rfl | rfl
  · exact h.cell 0
  · exact h.cell 1
theorem below_alloc (w : World) (o : Obj) : Below w.heap.size w (w.alloc o) := (Below.refl _ _).alloc (Nat.le_refl _) _

set_option maxRecDepth 100000 in
set_option maxHeartbeats 4000000 in
theorem alive24_c (w : World) : Calls Try.prog 11 #[] w fun e w' => e = .returned (.bool true) ∧ Below w.heap.size w w' := by
  go_enter Try.func11, Try.ntmps11
  have hB := Below.refl w.heap.size w
  have T1 : True := trivial
  have T2 : True := trivial
  have T3 : True := trivial
  have T4 : True := trivial
  have T5 : True := trivial
  have T6 : True := trivial
  go_wp2_with (first
    | (go_at_call 24; refine (sample_c _).mono ?_; rintro e w1 ⟨⟨S, c1, B, c3, rfl, hL⟩, hb⟩; replace hB := bt hB hb; try (replace hgI := cm hgI hb; replace hrI := hrI.mono hb); try (replace hr1 := hr1.mono hb); try (replace hr2 := hr2.mono hb))
    | (go_at_call 23; go_must (refine (in_c S B c1 c3 _ hL).mono ?_); go_must (rintro e w2 ⟨⟨g, gc, A, ac, rfl, hgI, hrI⟩, hb⟩; replace hB := bt hB hb))
    | (go_at_call 25; clear T1; go_must (refine (at1_c S B c1 c3 _ hL).mono ?_); go_must (rintro e w3 ⟨⟨A1, ac1, rfl, hr1⟩, hb⟩; replace hB := bt hB hb; replace hgI := cm hgI hb; replace hrI := hrI.mono hb))
    | (go_at_call 25; clear T2; go_must (refine (at2_c S B c1 c3 _ hL).mono ?_); go_must (rintro e w4 ⟨⟨A2, ac2, rfl, hr2⟩, hb⟩; replace hB := bt hB hb; replace hgI := cm hgI hb; replace hrI := hrI.mono hb; replace hr1 := hr1.mono hb))
    | (go_at_call 25; clear T3; go_must (refine (at3_c S B c1 c3 _ hL).mono ?_); go_must (rintro e w5 ⟨rfl, hb⟩; replace hB := bt hB hb; replace hgI := cm hgI hb; replace hrI := hrI.mono hb; replace hr1 := hr1.mono hb; replace hr2 := hr2.mono hb))
    | (go_at_call 8; clear T4; go_must (refine (same24_c [0] [0] A _ ac 1 _ (hrI.mono (below_alloc _ _)) (row1 (Bk.new _ _ _)) (by simp)).mono ?_); go_must (rintro e w6 ⟨he, hb⟩; obtain rfl : e = .returned (.bool true) := he; replace hB := bt (bt hB (below_alloc _ _)) hb; replace hr1 := hr1.mono (bt (below_alloc _ _) hb); replace hr2 := hr2.mono (bt (below_alloc _ _) hb)))
    | (go_at_call 8; clear T5; go_must (refine (same24_c [0, 1] [0, 1] A1 _ ac1 2 _ (hr1.mono (below_alloc _ _)) (row2 (Bk.new _ _ _)) (by simp)).mono ?_); go_must (rintro e w7 ⟨he, hb⟩; obtain rfl : e = .returned (.bool true) := he; replace hB := bt (bt hB (below_alloc _ _)) hb; replace hr2 := hr2.mono (bt (below_alloc _ _) hb)))
    | (go_at_call 8; clear T6; go_must (refine (same24_c [2] [2] A2 _ ac2 1 _ (hr2.mono (below_alloc _ _)) (row1 (Bk.new _ _ _)) (by simp)).mono ?_); go_must (rintro e w8 ⟨he, hb⟩; obtain rfl : e = .returned (.bool true) := he; replace hB := bt (bt hB (below_alloc _ _)) hb)))
  go_ret
  exact ⟨rfl, hB⟩

set_option maxRecDepth 100000 in
set_option maxHeartbeats 4000000 in
theorem liveSteps_c (o : SOp) (w : World) : Calls Try.prog 3 #[.agg #[.int .u8 o.k, .int .u8 o.fn, .int .i64 o.d, .int .i64 o.a, .int .i64 o.b, .int .u64 o.imm]] w fun e w' => e = .returned (.bool true) ∧ Below w.heap.size w w' := by
  have B0 := Bk.new w #[.int .u8 o.k, .int .u8 o.fn, .int .i64 o.d, .int .i64 o.a, .int .i64 o.b, .int .u64 o.imm] 24
  have hB := (Below.refl w.heap.size w).alloc (Nat.le_refl _) (.cells #[.int .u8 o.k, .int .u8 o.fn, .int .i64 o.d, .int .i64 o.a, .int .i64 o.b, .int .u64 o.imm] 24)
  have hl2 := asksS_length o
  have hal : ∃ L, asksS o = L := ⟨_, rfl⟩
  obtain ⟨L, hal⟩ := hal
  rw [hal] at hl2
  have HL := Lib.hid hal
  clear hal
  go_enter Try.func3, Try.ntmps3
  go_wp2_with (first
    | (go_at_call 6; go_must (refine (sets_c o _).mono ?_); rintro e w1 ⟨rfl, hb⟩; replace B0 := B0.mono hb; have C0 := B0.cell; replace hB := bt hB hb)
    | (go_at_call 7; go_must (refine (refSets_c o _).mono ?_); rintro e w2 ⟨rfl, hb⟩; replace B0 := B0.mono hb; replace C0 := B0.cell; replace hB := bt hB hb))
  have e0 := C0 0
  have e1 := C0 1
  have e2 := C0 2
  have e3 := C0 3
  have e4 := C0 4
  have e5 := C0 5
  go_region_held3 (fun w' => w'.cell? ⟨w.heap.size, 0, none⟩ = some (.int .u8 o.k) ∧ w'.cell? ⟨w.heap.size, 1, none⟩ = some (.int .u8 o.fn) ∧ w'.cell? ⟨w.heap.size, 2, none⟩ = some (.int .i64 o.d) ∧ w'.cell? ⟨w.heap.size, 3, none⟩ = some (.int .i64 o.a) ∧ w'.cell? ⟨w.heap.size, 4, none⟩ = some (.int .i64 o.b) ∧ w'.cell? ⟨w.heap.size, 5, none⟩ = some (.int .u64 o.imm)) (first | go_keep | (exact ⟨cmD e0 hb3, cmD e1 hb3, cmD e2 hb3, cmD e3 hb3, cmD e4 hb3, cmD e5 hb3⟩) | (exact ⟨cm (cmD e0 hb3) hb4, cm (cmD e1 hb3) hb4, cm (cmD e2 hb3) hb4, cm (cmD e3 hb3) hb4, cm (cmD e4 hb3) hb4, cm (cmD e5 hb3) hb4⟩) | (exact ⟨cm (cm (cmD e0 hb3) hb4) hb5, cm (cm (cmD e1 hb3) hb4) hb5, cm (cm (cmD e2 hb3) hb4) hb5, cm (cm (cmD e3 hb3) hb4) hb5, cm (cm (cmD e4 hb3) hb4) hb5, cm (cm (cmD e5 hb3) hb4) hb5⟩) | (exact ⟨cm (cm (cm (cmD e0 hb3) hb4) hb5) hb6, cm (cm (cm (cmD e1 hb3) hb4) hb5) hb6, cm (cm (cm (cmD e2 hb3) hb4) hb5) hb6, cm (cm (cm (cmD e3 hb3) hb4) hb5) hb6, cm (cm (cm (cmD e4 hb3) hb4) hb5) hb6, cm (cm (cm (cmD e5 hb3) hb4) hb5) hb6⟩)) (first
    | (go_at_call 9; go_must (refine (asks_c o _).mono ?_); rintro e w3 ⟨⟨A, c, rfl, hr⟩, hb3⟩; rw [HL.out] at hr ⊢)
    | (go_at_call 10; go_must (refine (refAsks_c o _).mono ?_); rintro e w4 ⟨⟨A', c', rfl, hr'⟩, hb4⟩; rw [HL.out] at hr' ⊢)
    | (go_at_call 8; go_must (refine (same24_c L L A A' c c' _ (hr.mono hb4) hr' (by omega)).mono ?_); rintro e w5 ⟨he, hb5⟩; obtain rfl : e = .returned (.bool true) := he.trans (by simp))
    | (go_at_call 11; go_must (refine (alive24_c _).mono ?_); rintro e w6 ⟨rfl, hb6⟩))
  all_goals
    go_wp2
    go_ret
    exact ⟨rfl, bt (bt (bt (btD hB hB.size hb3) hb4) hb5) hb6⟩

end Go.Proofs.Ytfohhgmcodmkkaa
