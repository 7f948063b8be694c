/-
  Lemmas (texts RunO2), each proved without a condition beyond its own hypotheses.
-/
import Derived.Test.YtoabiignjkcdmaaGreatFd6
import Derived.Test.YtoabiignjkcdmaaGreatFd5
import Derived.Laws.BitsAllLaws
namespace Go.Proofs.YtoabiignjkcdmaaGreat
open Go.RowKit Go.Proofs.YtoabiignjkcdmaaGreatW.PrintLast
set_option linter.unusedVariables false
set_option linter.unusedSimpArgs false

theorem and7 (n : Int) (h0 : 0 ≤ n) (h1 : n < 18446744073709551616) : bits .and .u64 n 7 = n % 8 := by
  rw [u64_and n 7 h0 h1 (by decide) (by decide)]
  have : n.toNat &&& (7 : Int).toNat = n.toNat % 8 := Nat.and_two_pow_sub_one_eq_mod n.toNat 3
  rw [this]
  omega
theorem eights_c (n : Int) (h0 : 0 ≤ n) (h1 : n < 18446744073709551616) (w : World) : Calls Tryz.prog 96 #[.int .u64 n] w fun e w' => e = .returned (.int .u64 (eights n)) ∧ w' = w := by
  have h7 := and7 n h0 h1
  have hz : 0 ≤ n % 8 ∧ n % 8 < 8 := by omega
  go_enter Tryz.func96, Tryz.ntmps96
  go_wp2
  all_goals
    go_ret
    exact ⟨ret_int (by unfold eights; omega), rfl⟩
theorem sub8 (x : Int) (h0 : 0 ≤ x) (h1 : x ≤ 65536) : IntKind.u64.wrap ((IntKind.u64.wrap (IntKind.i64.wrap x)).tdiv 8) = x / 8 := by
  have e1 : IntKind.i64.wrap x = x := by rw [IntKind.wrap_i64]; omega
  have e2 : IntKind.u64.wrap x = x := by rw [IntKind.wrap_u64]; omega
  rw [e1, e2, Int.tdiv_eq_ediv_of_nonneg h0, IntKind.wrap_u64]
  omega
theorem eights_le (n : Int) (h0 : 0 ≤ n) (h1 : n < 18446744073709551616) : eights n ≤ 2305843009213693952 := by unfold eights; omega
set_option maxRecDepth 100000 in
set_option maxHeartbeats 2000000 in
theorem room_c (n : Int) (h0 : 0 ≤ n) (h1 : n < 18446744073709551616) (m : SM) (w : World) (mb nv : Nat) (vv hv av lv tv : Value) (hM : Bk w mb (mC m vv hv av lv tv) 81) (hw : MWf m nv) :
    Calls Tryz.prog 95 #[.pointer (some ⟨mb, 0, none⟩), .int .u64 n] w fun e w' => e = .returned (.bool (roomB m n)) ∧ w' = w.drew := by
  have c4 : w.cell? ⟨mb, 4, none⟩ = some (.int .i64 m.taken) := hM.cell 4
  have c5 : w.cell? ⟨mb, 5, none⟩ = some (.int .i64 m.size) := hM.cell 5
  obtain ⟨t0, t1, t2⟩ := hw.tk
  have HE := Lib.hid (fun w => eights_c n h0 h1 w)
  have hsz : 0 ≤ m.size - m.taken ∧ m.size - m.taken ≤ 65536 := by omega
  unfold roomB
  clear hw hM
  go_enter Tryz.func95, Tryz.ntmps95
  go_upto_region 1 with (fail)
  refine start_ (n := 15) (S := fun w' => w'.cell? ⟨mb, 4, none⟩ = some (.int .i64 m.taken) ∧ w'.cell? ⟨mb, 5, none⟩ = some (.int .i64 m.size)) (ds := []) (bz 15 0) (by kernel_rfl) rfl rfl ⟨c4, c5⟩ (fun hHeld => ?_)
  refine pure_ (i := 0) (N := (some 5)) (v := ?_) (a' := ?_) (bz 15 1) rfl rfl (by kernel_rfl) (fun _ _ _ h => h) (Or.inl ⟨by rfl, ?_⟩) ?_ ?_
  rotate_left
  · intro w'
    go_simp
    with_reducible rfl
  rotate_left
  · simp only [Act.put, sa_, sb_, sc_]
    rfl
  refine pure_ (i := 2) (N := (some 7)) (v := ?_) (a' := ?_) (bz 15 5) rfl rfl (by kernel_rfl) (fun _ _ _ h => h) (Or.inl ⟨by rfl, ?_⟩) ?_ ?_
  rotate_left
  · intro w'
    go_simp
    with_reducible rfl
  rotate_left
  · simp only [Act.put, sa_, sb_, sc_]
    rfl
  refine pure_ (i := 3) (N := (some 8)) (v := ?_) (a' := ?_) (bz 15 13) rfl rfl (by kernel_rfl) (fun _ _ _ h => h) (Or.inl ⟨by rfl, ?_⟩) ?_ ?_
  rotate_left
  · intro w'
    go_simp
    with_reducible rfl
  rotate_left
  · simp only [Act.put, sa_, sb_, sc_]
    rfl
  refine pure_ (i := 4) (N := (some 9)) (v := ?_) (a' := ?_) (bz 15 29) rfl rfl (by kernel_rfl) (fun _ _ _ h => h) (Or.inl ⟨by rfl, ?_⟩) ?_ ?_
  rotate_left
  · intro w'
    go_simp
    with_reducible rfl
  rotate_left
  · simp only [Act.put, sa_, sb_, sc_]
    rfl
  refine pure_ (i := 6) (N := (some 11)) (v := ?_) (a' := ?_) (bz 15 93) rfl rfl (by kernel_rfl) (fun _ _ _ h => h) (Or.inl ⟨by rfl, ?_⟩) ?_ ?_
  rotate_left
  · intro w'
    go_simp
    with_reducible rfl
  rotate_left
  · simp only [Act.put, sa_, sb_, sc_]
    rfl
  refine pure_ (i := 7) (N := (some 12)) (v := ?_) (a' := ?_) (bz 15 221) rfl rfl (by kernel_rfl) (fun _ _ _ h => h) (Or.inl ⟨by rfl, ?_⟩) ?_ ?_
  rotate_left
  · intro w'
    go_simp
    with_reducible rfl
  rotate_left
  · simp only [Act.put, sa_, sb_, sc_]
    rfl
  refine pure_ (i := 8) (N := (some 13)) (v := ?_) (a' := ?_) (bz 15 477) rfl rfl (by kernel_rfl) (fun _ _ _ h => h) (Or.inl ⟨by rfl, ?_⟩) ?_ ?_
  rotate_left
  · intro w'
    go_simp
    with_reducible rfl
  rotate_left
  · simp only [Act.put, sa_, sb_, sc_]
    rfl
  refine take_ (i := 5) (N := (some 10)) (v := ?_) (a' := ?_) (bz 15 509) rfl rfl (by kernel_rfl) (fun _ _ _ h => h) (Or.inl ⟨by rfl, ?_⟩) hHeld ?_ ?_
  rotate_left
  · rintro w' ⟨s0, s1⟩
    go_simp
    with_reducible rfl
  rotate_left
  · simp only [Act.put, sa_, sb_, sc_]
    rfl
  refine take_ (i := 9) (N := (some 14)) (v := ?_) (a' := ?_) (bz 15 1021) rfl rfl (by kernel_rfl) (fun _ _ _ h => h) (Or.inl ⟨by rfl, ?_⟩) hHeld ?_ ?_
  rotate_left
  · rintro w' ⟨s0, s1⟩
    go_simp
    with_reducible rfl
  rotate_left
  · simp only [Act.put, sa_, sb_, sc_]
    rfl
  refine pure_ (i := 10) (N := (some 15)) (v := ?_) (a' := ?_) (bz 15 2045) rfl rfl (by kernel_rfl) (fun _ _ _ h => h) (Or.inl ⟨by rfl, ?_⟩) ?_ ?_
  rotate_left
  · intro w'
    go_simp
    with_reducible rfl
  rotate_left
  · simp only [Act.put, sa_, sb_, sc_]
    rfl
  refine pure_ (i := 11) (N := (some 16)) (v := ?_) (a' := ?_) (bz 15 4093) rfl rfl (by kernel_rfl) (fun _ _ _ h => h) (Or.inl ⟨by rfl, ?_⟩) ?_ ?_
  rotate_left
  · intro w'
    go_simp
    with_reducible rfl
  rotate_left
  · simp only [Act.put, sa_, sb_, sc_]
    rfl
  refine pure_ (i := 12) (N := (some 17)) (v := ?_) (a' := ?_) (bz 15 8189) rfl rfl (by kernel_rfl) (fun _ _ _ h => h) (Or.inl ⟨by rfl, ?_⟩) ?_ ?_
  rotate_left
  · intro w'
    go_simp
    with_reducible rfl
  rotate_left
  · simp only [Act.put, sa_, sb_, sc_]
    rfl
  refine one_ (i := 1) (N := (some 6)) (bz 15 8191) rfl rfl (by kernel_rfl) (by decide) (fun K hK => ?_)
  refine goes_ Tryz.func96 (by kernel_rfl) rfl #[.int .u64 n] (by rfl) rfl rfl (by (try simp only [List.map_toArray, List.map_cons, List.map_nil]); first | done | rfl) ?_
  refine (HE.out _).mono ?_
  rintro e w2 ⟨rfl, rfl⟩
  refine ⟨_, rfl, ?_⟩
  refine hK.out _ _ ⟨c4, c5⟩ (fun hHeld => ?_)
  clear hK K
  refine norm_ (a' := ?_) ?_ ?_
  rotate_left
  · show Act.put _ (some 6) _ = _
    simp only [Act.put, sa_, sb_, sc_]
    rfl
  refine pure_ (i := 13) (N := (some 18)) (v := ?_) (a' := ?_) (bz 15 16383) rfl rfl (by kernel_rfl) (fun _ _ _ h => h) (Or.inl ⟨by rfl, ?_⟩) ?_ ?_
  rotate_left
  · intro w'
    go_simp
    with_reducible rfl
  rotate_left
  · simp only [Act.put, sa_, sb_, sc_]
    rfl
  refine pure_ (i := 14) (N := (some 4)) (v := ?_) (a' := ?_) (bz 15 32767) rfl rfl (by kernel_rfl) (fun _ _ _ h => h) (Or.inl ⟨by rfl, ?_⟩) ?_ ?_
  rotate_left
  · intro w'
    go_simp
    with_reducible rfl
  rotate_left
  · simp only [Act.put, sa_, sb_, sc_]
    rfl
  refine done_ (by kernel_rfl) ?_
  go_wp2_with fail
  go_ret
  exact ⟨ret_bool (by rw [sub8 _ hsz.1 hsz.2]), rfl⟩
/-- The cost of a step. -/
theorem costS_range (m : SM) (o : SOp) (nv : Nat) (hw : MWf m nv) (ha : o.k = 9 → 0 ≤ o.a ∧ o.a < nv) (hb : o.k = 10 → 0 ≤ o.b ∧ o.b < nv) : 1 ≤ costS m o ∧ costS m o ≤ 2305843009213693953 := by
  refine ⟨costS_pos m o, ?_⟩
  unfold costS
  by_cases e9 : o.k = 9
  · rw [if_pos e9]
    have hr := get_range hw (ha e9).1 (ha e9).2
    have := eights_le _ hr.1 hr.2
    split <;> omega
  · rw [if_neg e9]
    by_cases e10 : o.k = 10
    · rw [if_pos e10]
      have hr := get_range hw (hb e10).1 (hb e10).2
      have := eights_le _ hr.1 hr.2
      omega
    · rw [if_neg e10]; omega
set_option maxRecDepth 100000 in
set_option maxHeartbeats 4000000 in
theorem cost_c9t (fn d a b imm : Int) (m : SM) (w : World) (base B2 mb nv : Nat) (h : MA w base B2 mb nv m) (a0 : 0 ≤ a) (a1 : a < nv) (hroom : roomB m (m.get a) = true) :
    Calls Tryz.prog 70 #[.pointer (some ⟨mb, 0, none⟩), .agg #[.int .u8 9, .int .u8 fn, .int .i64 d, .int .i64 a, .int .i64 b, .int .u64 imm]] w fun e w' => e = .returned (.int .u64 (1 + eights (m.get a))) ∧ Below w.heap.size w w' := by
  obtain ⟨w1, hw1, h1, hbA, BO, hBase⟩ := op_begin (o := ⟨9, fn, d, a, b, imm⟩) h
  have hbW : Below w.heap.size w w1 := by rw [hw1]; exact (Below.refl _ _).alloc (Nat.le_refl _) _
  go_enter Tryz.func70, Tryz.ntmps70
  go_upto_region 1 with (fail)
  rw [show w.alloc (.cells #[.int .u8 9, .int .u8 fn, .int .i64 d, .int .i64 a, .int .i64 b, .int .u64 imm] 54) = w1 from hw1.symm]
  clear hw1
  obtain ⟨vv, hv, av, lv, tv, hbs, abs, hR, hM⟩ := h1.ex
  have co0 : w1.cell? ⟨w.heap.size, 0, none⟩ = some (.int .u8 9) := BO.cell 0
  obtain ⟨g, c, rfl, hg0, hg1, hc, hf⟩ := hR.v_open h1.wf (by omega)
  have hra := get_range h.wf a0 a1
  have hel := eights_le _ hra.1 hra.2
  have co3 : w1.cell? ⟨w.heap.size, 3, none⟩ = some (.int .i64 a) := BO.cell 3
  have cm0 : w1.cell? ⟨mb, 0, none⟩ = some (.slice (some ⟨g, 0, none⟩) nv c) := hM.cell 0
  have ca := hc a a0 a1
  have HE := Lib.hid (fun w => eights_c (m.get a) hra.1 hra.2 w)
  have en := eights_nn (m.get a)
  have HRM := Lib.hid (room_c (m.get a) hra.1 hra.2 m w1.drew mb nv _ _ _ _ _ hM h.wf)
  rw [hroom] at HRM
  clear hc hf
  refine start_ (n := 16) (S := fun w' => w'.cell? ⟨w.heap.size, 0, none⟩ = some (.int .u8 9) ∧ w'.cell? ⟨w.heap.size, 3, none⟩ = some (.int .i64 a) ∧ w'.cell? ⟨mb, 0, none⟩ = some (.slice (some ⟨g, 0, none⟩) nv c) ∧ w'.cell? ⟨g, a.toNat, none⟩ = some (.int .u64 (m.get a))) (ds := []) (bz 16 0) (by kernel_rfl) rfl rfl ⟨co0, co3, cm0, ca⟩ (fun hHeld => ?_)
  refine pure_ (i := 0) (N := (some 6)) (v := ?_) (a' := ?_) (bz 16 1) rfl rfl (by kernel_rfl) (fun _ _ _ h => h) (Or.inl ⟨by rfl, ?_⟩) ?_ ?_
  rotate_left
  · intro w'
    go_simp
    with_reducible rfl
  rotate_left
  · simp only [Act.put, sa_, sb_, sc_]
    rfl
  refine take_ (i := 1) (N := (some 7)) (v := ?_) (a' := ?_) (bz 16 3) rfl rfl (by kernel_rfl) (fun _ _ _ h => h) (Or.inl ⟨by rfl, ?_⟩) hHeld ?_ ?_
  rotate_left
  · rintro w' ⟨s0, s1, s2, s3⟩
    go_simp
    with_reducible rfl
  rotate_left
  · simp only [Act.put, sa_, sb_, sc_]
    rfl
  refine pure_ (i := 2) (N := (some 8)) (v := ?_) (a' := ?_) (bz 16 7) rfl rfl (by kernel_rfl) (fun _ _ _ h => h) (Or.inl ⟨by rfl, ?_⟩) ?_ ?_
  rotate_left
  · intro w'
    go_simp
    with_reducible rfl
  rotate_left
  · simp only [Act.put, sa_, sb_, sc_]
    rfl
  refine pure_ (i := 3) (N := (some 9)) (v := ?_) (a' := ?_) (bz 16 15) rfl rfl (by kernel_rfl) (fun _ _ _ h => h) (Or.inl ⟨by rfl, ?_⟩) ?_ ?_
  rotate_left
  · intro w'
    go_simp
    with_reducible rfl
  rotate_left
  · simp only [Act.put, sa_, sb_, sc_]
    rfl
  refine pure_ (i := 4) (N := (some 10)) (v := ?_) (a' := ?_) (bz 16 31) rfl rfl (by kernel_rfl) (fun _ _ _ h => h) (Or.inl ⟨by rfl, ?_⟩) ?_ ?_
  rotate_left
  · intro w'
    go_simp
    with_reducible rfl
  rotate_left
  · simp only [Act.put, sa_, sb_, sc_]
    rfl
  refine pure_ (i := 5) (N := (some 11)) (v := ?_) (a' := ?_) (bz 16 63) rfl rfl (by kernel_rfl) (fun _ _ _ h => h) (Or.inl ⟨by rfl, ?_⟩) ?_ ?_
  rotate_left
  · intro w'
    go_simp
    with_reducible rfl
  rotate_left
  · simp only [Act.put, sa_, sb_, sc_]
    rfl
  refine pure_ (i := 6) (N := (some 12)) (v := ?_) (a' := ?_) (bz 16 127) rfl rfl (by kernel_rfl) (fun _ _ _ h => h) (Or.inl ⟨by rfl, ?_⟩) ?_ ?_
  rotate_left
  · intro w'
    go_simp
    with_reducible rfl
  rotate_left
  · simp only [Act.put, sa_, sb_, sc_]
    rfl
  refine pure_ (i := 7) (N := (some 13)) (v := ?_) (a' := ?_) (bz 16 255) rfl rfl (by kernel_rfl) (fun _ _ _ h => h) (Or.inl ⟨by rfl, ?_⟩) ?_ ?_
  rotate_left
  · intro w'
    go_simp
    with_reducible rfl
  rotate_left
  · simp only [Act.put, sa_, sb_, sc_]
    rfl
  refine pure_ (i := 9) (N := (some 15)) (v := ?_) (a' := ?_) (bz 16 767) rfl rfl (by kernel_rfl) (fun _ _ _ h => h) (Or.inl ⟨by rfl, ?_⟩) ?_ ?_
  rotate_left
  · intro w'
    go_simp
    with_reducible rfl
  rotate_left
  · simp only [Act.put, sa_, sb_, sc_]
    rfl
  refine take_ (i := 8) (N := (some 14)) (v := ?_) (a' := ?_) (bz 16 1023) rfl rfl (by kernel_rfl) (fun _ _ _ h => h) (Or.inl ⟨by rfl, ?_⟩) hHeld ?_ ?_
  rotate_left
  · rintro w' ⟨s0, s1, s2, s3⟩
    go_simp
    with_reducible rfl
  rotate_left
  · simp only [Act.put, sa_, sb_, sc_]
    rfl
  refine take_ (i := 10) (N := (some 16)) (v := ?_) (a' := ?_) (bz 16 2047) rfl rfl (by kernel_rfl) (fun _ _ _ h => h) (Or.inl ⟨by rfl, ?_⟩) hHeld ?_ ?_
  rotate_left
  · rintro w' ⟨s0, s1, s2, s3⟩
    go_simp
    with_reducible rfl
  rotate_left
  · simp only [Act.put, sa_, sb_, sc_]
    rfl
  refine pure_ (i := 11) (N := (some 17)) (v := ?_) (a' := ?_) (bz 16 4095) rfl rfl (by kernel_rfl) (fun _ _ _ h => h) (Or.inl ⟨by rfl, ?_⟩) ?_ ?_
  rotate_left
  · intro w'
    go_simp
    with_reducible rfl
  rotate_left
  · simp only [Act.put, sa_, sb_, sc_]
    rfl
  refine take_ (i := 12) (N := (some 18)) (v := ?_) (a' := ?_) (bz 16 8191) rfl rfl (by kernel_rfl) (fun _ _ _ h => h) (Or.inl ⟨by rfl, ?_⟩) hHeld ?_ ?_
  rotate_left
  · rintro w' ⟨s0, s1, s2, s3⟩
    go_simp
    with_reducible rfl
  rotate_left
  · simp only [Act.put, sa_, sb_, sc_]
    rfl
  refine one_ (i := 13) (N := (some 19)) (bz 16 16383) rfl rfl (by kernel_rfl) (by decide) (fun K hK => ?_)
  refine goes_ Tryz.func95 (by kernel_rfl) rfl #[.pointer (some ⟨mb, 0, none⟩), .int .u64 (m.get a)] (by rfl) rfl rfl (by (try simp only [List.map_toArray, List.map_cons, List.map_nil]); first | done | rfl) ?_
  refine HRM.out.mono ?_
  rintro e w2 ⟨rfl, rfl⟩
  refine ⟨_, rfl, ?_⟩
  refine hK.out _ _ ⟨co0, co3, cm0, ca⟩ (fun hHeld => ?_)
  clear hK K
  refine norm_ (a' := ?_) ?_ ?_
  rotate_left
  · show Act.put _ (some 19) _ = _
    simp only [Act.put, sa_, sb_, sc_]
    rfl
  refine pure_ (i := 14) (N := (some 20)) (v := ?_) (a' := ?_) (bz 16 32767) rfl rfl (by kernel_rfl) (fun _ _ _ h => h) (Or.inl ⟨by rfl, ?_⟩) ?_ ?_
  rotate_left
  · intro w'
    go_simp
    with_reducible rfl
  rotate_left
  · simp only [Act.put, sa_, sb_, sc_]
    rfl
  refine pure_ (i := 15) (N := (some 5)) (v := ?_) (a' := ?_) (bz 16 65535) rfl rfl (by kernel_rfl) (fun _ _ _ h => h) (Or.inl ⟨by rfl, ?_⟩) ?_ ?_
  rotate_left
  · intro w'
    go_simp
    with_reducible rfl
  rotate_left
  · simp only [Act.put, sa_, sb_, sc_]
    rfl
  refine done_ (by kernel_rfl) ?_
  go_upto_region 2 with (fail)
  refine start_ (n := 11) (S := fun w' => w'.cell? ⟨w.heap.size, 0, none⟩ = some (.int .u8 9) ∧ w'.cell? ⟨w.heap.size, 3, none⟩ = some (.int .i64 a) ∧ w'.cell? ⟨mb, 0, none⟩ = some (.slice (some ⟨g, 0, none⟩) nv c) ∧ w'.cell? ⟨g, a.toNat, none⟩ = some (.int .u64 (m.get a))) (ds := []) (bz 11 0) (by kernel_rfl) rfl rfl ⟨co0, co3, cm0, ca⟩ (fun hHeld => ?_)
  refine pure_ (i := 0) (N := (some 21)) (v := ?_) (a' := ?_) (bz 11 1) rfl rfl (by kernel_rfl) (fun _ _ _ h => h) (Or.inl ⟨by rfl, ?_⟩) ?_ ?_
  rotate_left
  · intro w'
    go_simp
    with_reducible rfl
  rotate_left
  · simp only [Act.put, sa_, sb_, sc_]
    rfl
  refine pure_ (i := 1) (N := (some 22)) (v := ?_) (a' := ?_) (bz 11 3) rfl rfl (by kernel_rfl) (fun _ _ _ h => h) (Or.inl ⟨by rfl, ?_⟩) ?_ ?_
  rotate_left
  · intro w'
    go_simp
    with_reducible rfl
  rotate_left
  · simp only [Act.put, sa_, sb_, sc_]
    rfl
  refine pure_ (i := 2) (N := (some 23)) (v := ?_) (a' := ?_) (bz 11 7) rfl rfl (by kernel_rfl) (fun _ _ _ h => h) (Or.inl ⟨by rfl, ?_⟩) ?_ ?_
  rotate_left
  · intro w'
    go_simp
    with_reducible rfl
  rotate_left
  · simp only [Act.put, sa_, sb_, sc_]
    rfl
  refine pure_ (i := 4) (N := (some 25)) (v := ?_) (a' := ?_) (bz 11 23) rfl rfl (by kernel_rfl) (fun _ _ _ h => h) (Or.inl ⟨by rfl, ?_⟩) ?_ ?_
  rotate_left
  · intro w'
    go_simp
    with_reducible rfl
  rotate_left
  · simp only [Act.put, sa_, sb_, sc_]
    rfl
  refine take_ (i := 3) (N := (some 24)) (v := ?_) (a' := ?_) (bz 11 31) rfl rfl (by kernel_rfl) (fun _ _ _ h => h) (Or.inl ⟨by rfl, ?_⟩) hHeld ?_ ?_
  rotate_left
  · rintro w' ⟨s0, s1, s2, s3⟩
    go_simp
    with_reducible rfl
  rotate_left
  · simp only [Act.put, sa_, sb_, sc_]
    rfl
  refine take_ (i := 5) (N := (some 26)) (v := ?_) (a' := ?_) (bz 11 63) rfl rfl (by kernel_rfl) (fun _ _ _ h => h) (Or.inl ⟨by rfl, ?_⟩) hHeld ?_ ?_
  rotate_left
  · rintro w' ⟨s0, s1, s2, s3⟩
    go_simp
    with_reducible rfl
  rotate_left
  · simp only [Act.put, sa_, sb_, sc_]
    rfl
  refine pure_ (i := 6) (N := (some 27)) (v := ?_) (a' := ?_) (bz 11 127) rfl rfl (by kernel_rfl) (fun _ _ _ h => h) (Or.inl ⟨by rfl, ?_⟩) ?_ ?_
  rotate_left
  · intro w'
    go_simp
    with_reducible rfl
  rotate_left
  · simp only [Act.put, sa_, sb_, sc_]
    rfl
  refine take_ (i := 7) (N := (some 28)) (v := ?_) (a' := ?_) (bz 11 255) rfl rfl (by kernel_rfl) (fun _ _ _ h => h) (Or.inl ⟨by rfl, ?_⟩) hHeld ?_ ?_
  rotate_left
  · rintro w' ⟨s0, s1, s2, s3⟩
    go_simp
    with_reducible rfl
  rotate_left
  · simp only [Act.put, sa_, sb_, sc_]
    rfl
  refine one_ (i := 8) (N := (some 29)) (bz 11 511) rfl rfl (by kernel_rfl) (by decide) (fun K hK => ?_)
  refine goes_ Tryz.func96 (by kernel_rfl) rfl #[.int .u64 (m.get a)] (by rfl) rfl rfl (by (try simp only [List.map_toArray, List.map_cons, List.map_nil]); first | done | rfl) ?_
  refine (HE.out _).mono ?_
  rintro e w2 ⟨rfl, rfl⟩
  refine ⟨_, rfl, ?_⟩
  refine hK.out _ _ ⟨co0, co3, cm0, ca⟩ (fun hHeld => ?_)
  clear hK K
  refine norm_ (a' := ?_) ?_ ?_
  rotate_left
  · show Act.put _ (some 29) _ = _
    simp only [Act.put, sa_, sb_, sc_]
    rfl
  refine pure_ (i := 9) (N := (some 30)) (v := ?_) (a' := ?_) (bz 11 1023) rfl rfl (by kernel_rfl) (fun _ _ _ h => h) (Or.inl ⟨by rfl, ?_⟩) ?_ ?_
  rotate_left
  · intro w'
    go_simp
    with_reducible rfl
  rotate_left
  · simp only [Act.put, sa_, sb_, sc_]
    rfl
  refine pure_ (i := 10) (N := (some 4)) (v := ?_) (a' := ?_) (bz 11 2047) rfl rfl (by kernel_rfl) (fun _ _ _ h => h) (Or.inl ⟨by rfl, ?_⟩) ?_ ?_
  rotate_left
  · intro w'
    go_simp
    with_reducible rfl
  rotate_left
  · simp only [Act.put, sa_, sb_, sc_]
    rfl
  refine done_ (by kernel_rfl) ?_
  go_wp2_with fail
  go_ret
  exact ⟨ret_int (by rw [IntKind.wrap_u64]; omega), hbW.drew.drew.drew⟩
set_option maxRecDepth 100000 in
set_option maxHeartbeats 4000000 in
theorem cost_c9f (fn d a b imm : Int) (m : SM) (w : World) (base B2 mb nv : Nat) (h : MA w base B2 mb nv m) (a0 : 0 ≤ a) (a1 : a < nv) (hroom : roomB m (m.get a) = false) :
    Calls Tryz.prog 70 #[.pointer (some ⟨mb, 0, none⟩), .agg #[.int .u8 9, .int .u8 fn, .int .i64 d, .int .i64 a, .int .i64 b, .int .u64 imm]] w fun e w' => e = .returned (.int .u64 (1)) ∧ Below w.heap.size w w' := by
  obtain ⟨w1, hw1, h1, hbA, BO, hBase⟩ := op_begin (o := ⟨9, fn, d, a, b, imm⟩) h
  have hbW : Below w.heap.size w w1 := by rw [hw1]; exact (Below.refl _ _).alloc (Nat.le_refl _) _
  go_enter Tryz.func70, Tryz.ntmps70
  go_upto_region 1 with (fail)
  rw [show w.alloc (.cells #[.int .u8 9, .int .u8 fn, .int .i64 d, .int .i64 a, .int .i64 b, .int .u64 imm] 54) = w1 from hw1.symm]
  clear hw1
  obtain ⟨vv, hv, av, lv, tv, hbs, abs, hR, hM⟩ := h1.ex
  have co0 : w1.cell? ⟨w.heap.size, 0, none⟩ = some (.int .u8 9) := BO.cell 0
  obtain ⟨g, c, rfl, hg0, hg1, hc, hf⟩ := hR.v_open h1.wf (by omega)
  have hra := get_range h.wf a0 a1
  have hel := eights_le _ hra.1 hra.2
  have co3 : w1.cell? ⟨w.heap.size, 3, none⟩ = some (.int .i64 a) := BO.cell 3
  have cm0 : w1.cell? ⟨mb, 0, none⟩ = some (.slice (some ⟨g, 0, none⟩) nv c) := hM.cell 0
  have ca := hc a a0 a1
  have HE := Lib.hid (fun w => eights_c (m.get a) hra.1 hra.2 w)
  have en := eights_nn (m.get a)
  have HRM := Lib.hid (room_c (m.get a) hra.1 hra.2 m w1.drew mb nv _ _ _ _ _ hM h.wf)
  rw [hroom] at HRM
  clear hc hf
  refine start_ (n := 16) (S := fun w' => w'.cell? ⟨w.heap.size, 0, none⟩ = some (.int .u8 9) ∧ w'.cell? ⟨w.heap.size, 3, none⟩ = some (.int .i64 a) ∧ w'.cell? ⟨mb, 0, none⟩ = some (.slice (some ⟨g, 0, none⟩) nv c) ∧ w'.cell? ⟨g, a.toNat, none⟩ = some (.int .u64 (m.get a))) (ds := []) (bz 16 0) (by kernel_rfl) rfl rfl ⟨co0, co3, cm0, ca⟩ (fun hHeld => ?_)
  refine pure_ (i := 0) (N := (some 6)) (v := ?_) (a' := ?_) (bz 16 1) rfl rfl (by kernel_rfl) (fun _ _ _ h => h) (Or.inl ⟨by rfl, ?_⟩) ?_ ?_
  rotate_left
  · intro w'
    go_simp
    with_reducible rfl
  rotate_left
  · simp only [Act.put, sa_, sb_, sc_]
    rfl
  refine take_ (i := 1) (N := (some 7)) (v := ?_) (a' := ?_) (bz 16 3) rfl rfl (by kernel_rfl) (fun _ _ _ h => h) (Or.inl ⟨by rfl, ?_⟩) hHeld ?_ ?_
  rotate_left
  · rintro w' ⟨s0, s1, s2, s3⟩
    go_simp
    with_reducible rfl
  rotate_left
  · simp only [Act.put, sa_, sb_, sc_]
    rfl
  refine pure_ (i := 2) (N := (some 8)) (v := ?_) (a' := ?_) (bz 16 7) rfl rfl (by kernel_rfl) (fun _ _ _ h => h) (Or.inl ⟨by rfl, ?_⟩) ?_ ?_
  rotate_left
  · intro w'
    go_simp
    with_reducible rfl
  rotate_left
  · simp only [Act.put, sa_, sb_, sc_]
    rfl
  refine pure_ (i := 3) (N := (some 9)) (v := ?_) (a' := ?_) (bz 16 15) rfl rfl (by kernel_rfl) (fun _ _ _ h => h) (Or.inl ⟨by rfl, ?_⟩) ?_ ?_
  rotate_left
  · intro w'
    go_simp
    with_reducible rfl
  rotate_left
  · simp only [Act.put, sa_, sb_, sc_]
    rfl
  refine pure_ (i := 4) (N := (some 10)) (v := ?_) (a' := ?_) (bz 16 31) rfl rfl (by kernel_rfl) (fun _ _ _ h => h) (Or.inl ⟨by rfl, ?_⟩) ?_ ?_
  rotate_left
  · intro w'
    go_simp
    with_reducible rfl
  rotate_left
  · simp only [Act.put, sa_, sb_, sc_]
    rfl
  refine pure_ (i := 5) (N := (some 11)) (v := ?_) (a' := ?_) (bz 16 63) rfl rfl (by kernel_rfl) (fun _ _ _ h => h) (Or.inl ⟨by rfl, ?_⟩) ?_ ?_
  rotate_left
  · intro w'
    go_simp
    with_reducible rfl
  rotate_left
  · simp only [Act.put, sa_, sb_, sc_]
    rfl
  refine pure_ (i := 6) (N := (some 12)) (v := ?_) (a' := ?_) (bz 16 127) rfl rfl (by kernel_rfl) (fun _ _ _ h => h) (Or.inl ⟨by rfl, ?_⟩) ?_ ?_
  rotate_left
  · intro w'
    go_simp
    with_reducible rfl
  rotate_left
  · simp only [Act.put, sa_, sb_, sc_]
    rfl
  refine pure_ (i := 7) (N := (some 13)) (v := ?_) (a' := ?_) (bz 16 255) rfl rfl (by kernel_rfl) (fun _ _ _ h => h) (Or.inl ⟨by rfl, ?_⟩) ?_ ?_
  rotate_left
  · intro w'
    go_simp
    with_reducible rfl
  rotate_left
  · simp only [Act.put, sa_, sb_, sc_]
    rfl
  refine pure_ (i := 9) (N := (some 15)) (v := ?_) (a' := ?_) (bz 16 767) rfl rfl (by kernel_rfl) (fun _ _ _ h => h) (Or.inl ⟨by rfl, ?_⟩) ?_ ?_
  rotate_left
  · intro w'
    go_simp
    with_reducible rfl
  rotate_left
  · simp only [Act.put, sa_, sb_, sc_]
    rfl
  refine take_ (i := 8) (N := (some 14)) (v := ?_) (a' := ?_) (bz 16 1023) rfl rfl (by kernel_rfl) (fun _ _ _ h => h) (Or.inl ⟨by rfl, ?_⟩) hHeld ?_ ?_
  rotate_left
  · rintro w' ⟨s0, s1, s2, s3⟩
    go_simp
    with_reducible rfl
  rotate_left
  · simp only [Act.put, sa_, sb_, sc_]
    rfl
  refine take_ (i := 10) (N := (some 16)) (v := ?_) (a' := ?_) (bz 16 2047) rfl rfl (by kernel_rfl) (fun _ _ _ h => h) (Or.inl ⟨by rfl, ?_⟩) hHeld ?_ ?_
  rotate_left
  · rintro w' ⟨s0, s1, s2, s3⟩
    go_simp
    with_reducible rfl
  rotate_left
  · simp only [Act.put, sa_, sb_, sc_]
    rfl
  refine pure_ (i := 11) (N := (some 17)) (v := ?_) (a' := ?_) (bz 16 4095) rfl rfl (by kernel_rfl) (fun _ _ _ h => h) (Or.inl ⟨by rfl, ?_⟩) ?_ ?_
  rotate_left
  · intro w'
    go_simp
    with_reducible rfl
  rotate_left
  · simp only [Act.put, sa_, sb_, sc_]
    rfl
  refine take_ (i := 12) (N := (some 18)) (v := ?_) (a' := ?_) (bz 16 8191) rfl rfl (by kernel_rfl) (fun _ _ _ h => h) (Or.inl ⟨by rfl, ?_⟩) hHeld ?_ ?_
  rotate_left
  · rintro w' ⟨s0, s1, s2, s3⟩
    go_simp
    with_reducible rfl
  rotate_left
  · simp only [Act.put, sa_, sb_, sc_]
    rfl
  refine one_ (i := 13) (N := (some 19)) (bz 16 16383) rfl rfl (by kernel_rfl) (by decide) (fun K hK => ?_)
  refine goes_ Tryz.func95 (by kernel_rfl) rfl #[.pointer (some ⟨mb, 0, none⟩), .int .u64 (m.get a)] (by rfl) rfl rfl (by (try simp only [List.map_toArray, List.map_cons, List.map_nil]); first | done | rfl) ?_
  refine HRM.out.mono ?_
  rintro e w2 ⟨rfl, rfl⟩
  refine ⟨_, rfl, ?_⟩
  refine hK.out _ _ ⟨co0, co3, cm0, ca⟩ (fun hHeld => ?_)
  clear hK K
  refine norm_ (a' := ?_) ?_ ?_
  rotate_left
  · show Act.put _ (some 19) _ = _
    simp only [Act.put, sa_, sb_, sc_]
    rfl
  refine pure_ (i := 14) (N := (some 20)) (v := ?_) (a' := ?_) (bz 16 32767) rfl rfl (by kernel_rfl) (fun _ _ _ h => h) (Or.inl ⟨by rfl, ?_⟩) ?_ ?_
  rotate_left
  · intro w'
    go_simp
    with_reducible rfl
  rotate_left
  · simp only [Act.put, sa_, sb_, sc_]
    rfl
  refine pure_ (i := 15) (N := (some 5)) (v := ?_) (a' := ?_) (bz 16 65535) rfl rfl (by kernel_rfl) (fun _ _ _ h => h) (Or.inl ⟨by rfl, ?_⟩) ?_ ?_
  rotate_left
  · intro w'
    go_simp
    with_reducible rfl
  rotate_left
  · simp only [Act.put, sa_, sb_, sc_]
    rfl
  refine done_ (by kernel_rfl) ?_
  go_wp2_with fail
  go_ret
  exact ⟨rfl, hbW.drew.drew⟩
set_option maxRecDepth 100000 in
set_option maxHeartbeats 4000000 in
theorem cost_c10 (fn d a b imm : Int) (m : SM) (w : World) (base B2 mb nv : Nat) (h : MA w base B2 mb nv m) (b0 : 0 ≤ b) (b1 : b < nv) :
    Calls Tryz.prog 70 #[.pointer (some ⟨mb, 0, none⟩), .agg #[.int .u8 10, .int .u8 fn, .int .i64 d, .int .i64 a, .int .i64 b, .int .u64 imm]] w fun e w' => e = .returned (.int .u64 (1 + eights (m.get b))) ∧ Below w.heap.size w w' := by
  obtain ⟨w1, hw1, h1, hbA, BO, hBase⟩ := op_begin (o := ⟨10, fn, d, a, b, imm⟩) h
  have hbW : Below w.heap.size w w1 := by rw [hw1]; exact (Below.refl _ _).alloc (Nat.le_refl _) _
  go_enter Tryz.func70, Tryz.ntmps70
  go_upto_region 1 with (fail)
  rw [show w.alloc (.cells #[.int .u8 10, .int .u8 fn, .int .i64 d, .int .i64 a, .int .i64 b, .int .u64 imm] 54) = w1 from hw1.symm]
  clear hw1
  obtain ⟨vv, hv, av, lv, tv, hbs, abs, hR, hM⟩ := h1.ex
  have co0 : w1.cell? ⟨w.heap.size, 0, none⟩ = some (.int .u8 10) := BO.cell 0
  obtain ⟨g, c, rfl, hg0, hg1, hc, hf⟩ := hR.v_open h1.wf (by omega)
  have hra := get_range h.wf b0 b1
  have hel := eights_le _ hra.1 hra.2
  have co3 : w1.cell? ⟨w.heap.size, 4, none⟩ = some (.int .i64 b) := BO.cell 4
  have cm0 : w1.cell? ⟨mb, 0, none⟩ = some (.slice (some ⟨g, 0, none⟩) nv c) := hM.cell 0
  have ca := hc b b0 b1
  have HE := Lib.hid (fun w => eights_c (m.get b) hra.1 hra.2 w)
  have en := eights_nn (m.get b)
  clear hc hf
  go_region
  go_upto_region 4 with (fail)
  refine start_ (n := 11) (S := fun w' => w'.cell? ⟨w.heap.size, 0, none⟩ = some (.int .u8 10) ∧ w'.cell? ⟨w.heap.size, 4, none⟩ = some (.int .i64 b) ∧ w'.cell? ⟨mb, 0, none⟩ = some (.slice (some ⟨g, 0, none⟩) nv c) ∧ w'.cell? ⟨g, b.toNat, none⟩ = some (.int .u64 (m.get b))) (ds := []) (bz 11 0) (by kernel_rfl) rfl rfl ⟨co0, co3, cm0, ca⟩ (fun hHeld => ?_)
  refine pure_ (i := 0) (N := (some 35)) (v := ?_) (a' := ?_) (bz 11 1) rfl rfl (by kernel_rfl) (fun _ _ _ h => h) (Or.inl ⟨by rfl, ?_⟩) ?_ ?_
  rotate_left
  · intro w'
    go_simp
    with_reducible rfl
  rotate_left
  · simp only [Act.put, sa_, sb_, sc_]
    rfl
  refine pure_ (i := 1) (N := (some 36)) (v := ?_) (a' := ?_) (bz 11 3) rfl rfl (by kernel_rfl) (fun _ _ _ h => h) (Or.inl ⟨by rfl, ?_⟩) ?_ ?_
  rotate_left
  · intro w'
    go_simp
    with_reducible rfl
  rotate_left
  · simp only [Act.put, sa_, sb_, sc_]
    rfl
  refine pure_ (i := 2) (N := (some 37)) (v := ?_) (a' := ?_) (bz 11 7) rfl rfl (by kernel_rfl) (fun _ _ _ h => h) (Or.inl ⟨by rfl, ?_⟩) ?_ ?_
  rotate_left
  · intro w'
    go_simp
    with_reducible rfl
  rotate_left
  · simp only [Act.put, sa_, sb_, sc_]
    rfl
  refine pure_ (i := 4) (N := (some 39)) (v := ?_) (a' := ?_) (bz 11 23) rfl rfl (by kernel_rfl) (fun _ _ _ h => h) (Or.inl ⟨by rfl, ?_⟩) ?_ ?_
  rotate_left
  · intro w'
    go_simp
    with_reducible rfl
  rotate_left
  · simp only [Act.put, sa_, sb_, sc_]
    rfl
  refine take_ (i := 3) (N := (some 38)) (v := ?_) (a' := ?_) (bz 11 31) rfl rfl (by kernel_rfl) (fun _ _ _ h => h) (Or.inl ⟨by rfl, ?_⟩) hHeld ?_ ?_
  rotate_left
  · rintro w' ⟨s0, s1, s2, s3⟩
    go_simp
    with_reducible rfl
  rotate_left
  · simp only [Act.put, sa_, sb_, sc_]
    rfl
  refine take_ (i := 5) (N := (some 40)) (v := ?_) (a' := ?_) (bz 11 63) rfl rfl (by kernel_rfl) (fun _ _ _ h => h) (Or.inl ⟨by rfl, ?_⟩) hHeld ?_ ?_
  rotate_left
  · rintro w' ⟨s0, s1, s2, s3⟩
    go_simp
    with_reducible rfl
  rotate_left
  · simp only [Act.put, sa_, sb_, sc_]
    rfl
  refine pure_ (i := 6) (N := (some 41)) (v := ?_) (a' := ?_) (bz 11 127) rfl rfl (by kernel_rfl) (fun _ _ _ h => h) (Or.inl ⟨by rfl, ?_⟩) ?_ ?_
  rotate_left
  · intro w'
    go_simp
    with_reducible rfl
  rotate_left
  · simp only [Act.put, sa_, sb_, sc_]
    rfl
  refine take_ (i := 7) (N := (some 42)) (v := ?_) (a' := ?_) (bz 11 255) rfl rfl (by kernel_rfl) (fun _ _ _ h => h) (Or.inl ⟨by rfl, ?_⟩) hHeld ?_ ?_
  rotate_left
  · rintro w' ⟨s0, s1, s2, s3⟩
    go_simp
    with_reducible rfl
  rotate_left
  · simp only [Act.put, sa_, sb_, sc_]
    rfl
  refine one_ (i := 8) (N := (some 43)) (bz 11 511) rfl rfl (by kernel_rfl) (by decide) (fun K hK => ?_)
  refine goes_ Tryz.func96 (by kernel_rfl) rfl #[.int .u64 (m.get b)] (by rfl) rfl rfl (by (try simp only [List.map_toArray, List.map_cons, List.map_nil]); first | done | rfl) ?_
  refine (HE.out _).mono ?_
  rintro e w2 ⟨rfl, rfl⟩
  refine ⟨_, rfl, ?_⟩
  refine hK.out _ _ ⟨co0, co3, cm0, ca⟩ (fun hHeld => ?_)
  clear hK K
  refine norm_ (a' := ?_) ?_ ?_
  rotate_left
  · show Act.put _ (some 43) _ = _
    simp only [Act.put, sa_, sb_, sc_]
    rfl
  refine pure_ (i := 9) (N := (some 44)) (v := ?_) (a' := ?_) (bz 11 1023) rfl rfl (by kernel_rfl) (fun _ _ _ h => h) (Or.inl ⟨by rfl, ?_⟩) ?_ ?_
  rotate_left
  · intro w'
    go_simp
    with_reducible rfl
  rotate_left
  · simp only [Act.put, sa_, sb_, sc_]
    rfl
  refine pure_ (i := 10) (N := (some 4)) (v := ?_) (a' := ?_) (bz 11 2047) rfl rfl (by kernel_rfl) (fun _ _ _ h => h) (Or.inl ⟨by rfl, ?_⟩) ?_ ?_
  rotate_left
  · intro w'
    go_simp
    with_reducible rfl
  rotate_left
  · simp only [Act.put, sa_, sb_, sc_]
    rfl
  refine done_ (by kernel_rfl) ?_
  go_wp2_with fail
  go_ret
  exact ⟨ret_int (by rw [IntKind.wrap_u64]; omega), hbW.drew.drew⟩
set_option maxRecDepth 100000 in
set_option maxHeartbeats 4000000 in
theorem cost_cz (fn d a b imm : Int) (k : Int) (h9 : (k == 9) = false) (h10 : (k == 10) = false) (m : SM) (w : World) (base B2 mb nv : Nat) (h : MA w base B2 mb nv m) :
    Calls Tryz.prog 70 #[.pointer (some ⟨mb, 0, none⟩), .agg #[.int .u8 k, .int .u8 fn, .int .i64 d, .int .i64 a, .int .i64 b, .int .u64 imm]] w fun e w' => e = .returned (.int .u64 (1)) ∧ Below w.heap.size w w' := by
  obtain ⟨w1, hw1, h1, hbA, BO, hBase⟩ := op_begin (o := ⟨k, fn, d, a, b, imm⟩) h
  have hbW : Below w.heap.size w w1 := by rw [hw1]; exact (Below.refl _ _).alloc (Nat.le_refl _) _
  go_enter Tryz.func70, Tryz.ntmps70
  go_upto_region 1 with (fail)
  rw [show w.alloc (.cells #[.int .u8 k, .int .u8 fn, .int .i64 d, .int .i64 a, .int .i64 b, .int .u64 imm] 54) = w1 from hw1.symm]
  clear hw1
  obtain ⟨vv, hv, av, lv, tv, hbs, abs, hR, hM⟩ := h1.ex
  have co0 : w1.cell? ⟨w.heap.size, 0, none⟩ = some (.int .u8 k) := BO.cell 0
  go_region
  go_wp2_with fail
  go_ret
  exact ⟨rfl, hbW.drew⟩
theorem cost_c (o : SOp) (m : SM) (w : World) (base B2 mb nv : Nat) (h : MA w base B2 mb nv m) (ha : o.k = 9 → 0 ≤ o.a ∧ o.a < nv) (hb : o.k = 10 → 0 ≤ o.b ∧ o.b < nv) :
    Calls Tryz.prog 70 #[.pointer (some ⟨mb, 0, none⟩), o.val] w fun e w' => e = .returned (.int .u64 (costS m o)) ∧ Below w.heap.size w w' := by
  obtain ⟨k, fn, d, a, b, imm⟩ := o
  simp only [SOp.val] at *
  by_cases e9 : k = 9
  · subst e9
    cases hr : roomB m (m.get a) with
    | true =>
      have e : costS m ⟨9, fn, d, a, b, imm⟩ = 1 + eights (m.get a) := by unfold costS; rw [if_pos rfl, if_pos hr]
      rw [e]
      exact cost_c9t fn d a b imm m w base B2 mb nv h (ha rfl).1 (ha rfl).2 hr
    | false =>
      have e : costS m ⟨9, fn, d, a, b, imm⟩ = 1 := by unfold costS; rw [if_pos rfl, if_neg (by rw [hr]; decide)]
      rw [e]
      exact cost_c9f fn d a b imm m w base B2 mb nv h (ha rfl).1 (ha rfl).2 hr
  · by_cases e10 : k = 10
    · subst e10
      exact cost_c10 fn d a b imm m w base B2 mb nv h (hb rfl).1 (hb rfl).2
    · have e : costS m ⟨k, fn, d, a, b, imm⟩ = 1 := by unfold costS; rw [if_neg e9, if_neg e10]
      rw [e]
      exact cost_cz fn d a b imm k (by simpa using e9) (by simpa using e10) m w base B2 mb nv h
/-- Paid. -/
theorem MRows.paid {w : World} {base B2 mb nv : Nat} {m : SM} {vv hv av lv tv : Value} {hbs abs : List Value} (h : MRows w base B2 m vv hv av lv tv hbs abs) (hM : Bk w mb (mC m vv hv av lv tv) 81) (hm : base ≤ mb) (hw : MWf m nv) (n : Int) (h0 : 1 ≤ n) (h1 : ¬ m.fuel - m.steps < n) :
    MA (w.setCell ⟨mb, 12, none⟩ (.int .i64 (m.steps + n))) base B2 mb nv { m with steps := m.steps + n } := by
  obtain ⟨s0, s1, s2⟩ := hw.st
  have a1 := hw.am
  have a2 := hw.tm
  exact ⟨⟨_, _, _, _, _, _, _, (h.mach hM 12 _).like rfl rfl rfl rfl rfl, hM.set 12 _⟩, hm, { hw with
    st := ⟨by show 0 ≤ m.steps + n; omega, by show m.steps + n ≤ m.fuel; omega, s2⟩
    am := by show (m.arena.length : Int) ≤ m.steps + n; omega
    tm := by show (m.told.length : Int) ≤ m.steps + n; omega }⟩
theorem pay_val (x : Int) (h0 : 0 ≤ x) (h1 : x ≤ 4194304) : IntKind.u64.wrap (IntKind.i64.wrap x) = x := by
  have e1 : IntKind.i64.wrap x = x := by rw [IntKind.wrap_i64]; omega
  rw [e1, IntKind.wrap_u64]
  omega
set_option maxRecDepth 100000 in
set_option maxHeartbeats 4000000 in
theorem pay_c (n : Int) (n0 : 1 ≤ n) (n1 : n ≤ 2305843009213693953) (m : SM) (w : World) (base B2 mb nv : Nat) (h : MA w base B2 mb nv m) :
    Calls Tryz.prog 69 #[.pointer (some ⟨mb, 0, none⟩), .int .u64 n] w (OpPost w base B2 mb nv (payS m n)) := by
  obtain ⟨vv, hv, av, lv, tv, hbs, abs, hR, hM⟩ := h.ex
  have c6 : w.cell? ⟨mb, 6, none⟩ = some (.int .i64 m.fuel) := hM.cell 6
  have c12 : w.cell? ⟨mb, 12, none⟩ = some (.int .i64 m.steps) := hM.cell 12
  have f12 : w.frozen? ⟨mb, 12, none⟩ = false := hM.free 12
  obtain ⟨s0, s1, s2⟩ := h.wf.st
  have hpv := pay_val (m.fuel - m.steps) (by omega) (by omega)
  go_enter Tryz.func69, Tryz.ntmps69
  go_upto_region 0 with (fail)
  refine start_ (n := 13) (S := fun w' => w'.cell? ⟨mb, 6, none⟩ = some (.int .i64 m.fuel) ∧ w'.cell? ⟨mb, 12, none⟩ = some (.int .i64 m.steps)) (ds := []) (bz 13 0) (by kernel_rfl) rfl rfl ⟨c6, c12⟩ (fun hHeld => ?_)
  refine pure_ (i := 0) (N := (some 4)) (v := ?_) (a' := ?_) (bz 13 1) rfl rfl (by kernel_rfl) (fun _ _ _ h => h) (Or.inl ⟨by rfl, ?_⟩) ?_ ?_
  rotate_left
  · intro w'
    go_simp
    with_reducible rfl
  rotate_left
  · simp only [Act.put, sa_, sb_, sc_]
    rfl
  refine pure_ (i := 1) (N := (some 5)) (v := ?_) (a' := ?_) (bz 13 3) rfl rfl (by kernel_rfl) (fun _ _ _ h => h) (Or.inl ⟨by rfl, ?_⟩) ?_ ?_
  rotate_left
  · intro w'
    go_simp
    with_reducible rfl
  rotate_left
  · simp only [Act.put, sa_, sb_, sc_]
    rfl
  refine pure_ (i := 2) (N := (some 6)) (v := ?_) (a' := ?_) (bz 13 7) rfl rfl (by kernel_rfl) (fun _ _ _ h => h) (Or.inl ⟨by rfl, ?_⟩) ?_ ?_
  rotate_left
  · intro w'
    go_simp
    with_reducible rfl
  rotate_left
  · simp only [Act.put, sa_, sb_, sc_]
    rfl
  refine pure_ (i := 3) (N := (some 7)) (v := ?_) (a' := ?_) (bz 13 15) rfl rfl (by kernel_rfl) (fun _ _ _ h => h) (Or.inl ⟨by rfl, ?_⟩) ?_ ?_
  rotate_left
  · intro w'
    go_simp
    with_reducible rfl
  rotate_left
  · simp only [Act.put, sa_, sb_, sc_]
    rfl
  refine pure_ (i := 5) (N := (some 9)) (v := ?_) (a' := ?_) (bz 13 47) rfl rfl (by kernel_rfl) (fun _ _ _ h => h) (Or.inl ⟨by rfl, ?_⟩) ?_ ?_
  rotate_left
  · intro w'
    go_simp
    with_reducible rfl
  rotate_left
  · simp only [Act.put, sa_, sb_, sc_]
    rfl
  refine pure_ (i := 6) (N := (some 10)) (v := ?_) (a' := ?_) (bz 13 111) rfl rfl (by kernel_rfl) (fun _ _ _ h => h) (Or.inl ⟨by rfl, ?_⟩) ?_ ?_
  rotate_left
  · intro w'
    go_simp
    with_reducible rfl
  rotate_left
  · simp only [Act.put, sa_, sb_, sc_]
    rfl
  refine pure_ (i := 7) (N := (some 11)) (v := ?_) (a' := ?_) (bz 13 239) rfl rfl (by kernel_rfl) (fun _ _ _ h => h) (Or.inl ⟨by rfl, ?_⟩) ?_ ?_
  rotate_left
  · intro w'
    go_simp
    with_reducible rfl
  rotate_left
  · simp only [Act.put, sa_, sb_, sc_]
    rfl
  refine pure_ (i := 8) (N := (some 12)) (v := ?_) (a' := ?_) (bz 13 495) rfl rfl (by kernel_rfl) (fun _ _ _ h => h) (Or.inl ⟨by rfl, ?_⟩) ?_ ?_
  rotate_left
  · intro w'
    go_simp
    with_reducible rfl
  rotate_left
  · simp only [Act.put, sa_, sb_, sc_]
    rfl
  refine take_ (i := 4) (N := (some 8)) (v := ?_) (a' := ?_) (bz 13 511) rfl rfl (by kernel_rfl) (fun _ _ _ h => h) (Or.inl ⟨by rfl, ?_⟩) hHeld ?_ ?_
  rotate_left
  · rintro w' ⟨s0, s1⟩
    go_simp
    with_reducible rfl
  rotate_left
  · simp only [Act.put, sa_, sb_, sc_]
    rfl
  refine take_ (i := 9) (N := (some 13)) (v := ?_) (a' := ?_) (bz 13 1023) rfl rfl (by kernel_rfl) (fun _ _ _ h => h) (Or.inl ⟨by rfl, ?_⟩) hHeld ?_ ?_
  rotate_left
  · rintro w' ⟨s0, s1⟩
    go_simp
    with_reducible rfl
  rotate_left
  · simp only [Act.put, sa_, sb_, sc_]
    rfl
  refine pure_ (i := 10) (N := (some 14)) (v := ?_) (a' := ?_) (bz 13 2047) rfl rfl (by kernel_rfl) (fun _ _ _ h => h) (Or.inl ⟨by rfl, ?_⟩) ?_ ?_
  rotate_left
  · intro w'
    go_simp
    with_reducible rfl
  rotate_left
  · simp only [Act.put, sa_, sb_, sc_]
    rfl
  refine pure_ (i := 11) (N := (some 15)) (v := ?_) (a' := ?_) (bz 13 4095) rfl rfl (by kernel_rfl) (fun _ _ _ h => h) (Or.inl ⟨by rfl, ?_⟩) ?_ ?_
  rotate_left
  · intro w'
    go_simp
    with_reducible rfl
  rotate_left
  · simp only [Act.put, sa_, sb_, sc_]
    rfl
  refine pure_ (i := 12) (N := (some 16)) (v := ?_) (a' := ?_) (bz 13 8191) rfl rfl (by kernel_rfl) (fun _ _ _ h => h) (Or.inl ⟨by rfl, ?_⟩) ?_ ?_
  rotate_left
  · intro w'
    go_simp
    with_reducible rfl
  rotate_left
  · simp only [Act.put, sa_, sb_, sc_]
    rfl
  refine done_ (by kernel_rfl) ?_
  by_cases hlt : m.fuel - m.steps < n
  · have e : payS m n = .over 0 m := by unfold payS; rw [if_pos hlt]
    rw [e]
    go_wp2_with fail
    exact ⟨rfl, (Fr.refl _ _).drew, rfl, h.drew⟩
  · have e : payS m n = .go { m with steps := m.steps + n } := by unfold payS; rw [if_neg hlt]
    rw [e]
    go_wp2_with fail
    go_end0
    exact ⟨((Fr.refl base w).setCell h.mb0 hM.own _).drew, rfl, (hR.paid hM h.mb0 h.wf n n0 (by omega)).drew⟩
end Go.Proofs.YtoabiignjkcdmaaGreat
