/-
  Lemmas (texts RunA2 RunAt), each proved without a condition beyond its own hypotheses.
-/
import Derived.Test.YtoabiignjkcdmaaGreatFd4
import Derived.Test.YtoabiignjkcdmaaGreatFd5
namespace Go.Proofs.YtoabiignjkcdmaaGreat
open Go.RowKit Go.Proofs.YtoabiignjkcdmaaGreatW.PrintLast
set_option linter.unusedVariables false
set_option linter.unusedSimpArgs false

set_option maxRecDepth 100000 in
set_option maxHeartbeats 2000000 in
theorem alu_c (o : SOp) (m : SM) (w : World) (base B2 mb nv : Nat) (h : MA w base B2 mb nv m) (f0 : 1 ≤ o.fn) (f1 : o.fn ≤ 14) (hd0 : 0 ≤ o.d) (hd1 : o.d < nv) (ha0 : 0 ≤ o.a) (ha1 : o.a < nv) (hb0 : 0 ≤ o.b) (hb1 : o.b < nv) :
    Calls Tryz.prog 84 #[.pointer (some ⟨mb, 0, none⟩), o.val] w (OpPost w base B2 mb nv (.go (m.put o.d (aluP o.fn (m.get o.a) (m.get o.b))))) := by
  obtain ⟨w1, hw1, h1, hbA, BO, hBase⟩ := op_begin (o := o) h
  unfold SOp.val
  go_enter Tryz.func84, Tryz.ntmps84
  go_upto_region 1 with (fail)
  rw [← hw1]
  clear hw1
  obtain ⟨vv, hv, av, lv, tv, hbs, abs, hR, hM⟩ := h1.ex
  obtain ⟨g, c, rfl, hg0, hg1, hc, hf⟩ := hR.v_open h1.wf (by omega)
  have hra := get_range h.wf ha0 ha1
  have hrb := get_range h.wf hb0 hb1
  have hrx := aluP_range o.fn (m.get o.a) (m.get o.b) hra.1 hra.2 hrb.1 hrb.2
  have HW := Lib.hid (fun w => wordOp_c o.fn (m.get o.a) (m.get o.b) f0 f1 hra.1 hra.2 hrb.1 hrb.2 w)
  have fd := hf o.d.toNat
  have HS : ∀ W, Below w1.heap.size w1 W → W.cell? ⟨mb, 0, none⟩ = some (.slice (some ⟨g, 0, none⟩) nv c) ∧ W.cell? ⟨w.heap.size, 1, none⟩ = some (.int .u8 o.fn) ∧ W.cell? ⟨w.heap.size, 2, none⟩ = some (.int .i64 o.d) ∧ W.cell? ⟨w.heap.size, 3, none⟩ = some (.int .i64 o.a) ∧ W.cell? ⟨w.heap.size, 4, none⟩ = some (.int .i64 o.b) ∧ W.cell? ⟨g, o.a.toNat, none⟩ = some (.int .u64 (m.get o.a)) ∧ W.cell? ⟨g, o.b.toNat, none⟩ = some (.int .u64 (m.get o.b)) ∧ W.cell? ⟨g, o.d.toNat, none⟩ = some (.int .u64 (m.get o.d)) :=
    fun W hW => ⟨cm (hM.cell 0) hW, cm (BO.cell 1) hW, cm (BO.cell 2) hW, cm (BO.cell 3) hW, cm (BO.cell 4) hW, cm (hc o.a ha0 ha1) hW, cm (hc o.b hb0 hb1) hW, cm (hc o.d hd0 hd1) hW⟩
  have hcd := hc o.d hd0 hd1
  have HSS := Lib.hid HS
  clear HS hc hf
  refine start_ (n := 30) (S := fun w' => w'.cell? ⟨mb, 0, none⟩ = some (.slice (some ⟨g, 0, none⟩) nv c) ∧ w'.cell? ⟨w.heap.size, 1, none⟩ = some (.int .u8 o.fn) ∧ w'.cell? ⟨w.heap.size, 2, none⟩ = some (.int .i64 o.d) ∧ w'.cell? ⟨w.heap.size, 3, none⟩ = some (.int .i64 o.a) ∧ w'.cell? ⟨w.heap.size, 4, none⟩ = some (.int .i64 o.b) ∧ w'.cell? ⟨g, o.a.toNat, none⟩ = some (.int .u64 (m.get o.a)) ∧ w'.cell? ⟨g, o.b.toNat, none⟩ = some (.int .u64 (m.get o.b)) ∧ w'.cell? ⟨g, o.d.toNat, none⟩ = some (.int .u64 (m.get o.d))) (ds := [29]) (bz 30 0) (by kernel_rfl) rfl rfl (HSS.out _ (Below.refl _ _).drew) (fun hHeld => ?_)
  refine pure_ (i := 0) (N := (some 5)) (v := ?_) (a' := ?_) (bz 30 1) rfl rfl (by kernel_rfl) (fun _ _ _ h => h) (Or.inl ⟨by rfl, ?_⟩) ?_ ?_
  rotate_left
  · intro w'
    go_simp
    with_reducible rfl
  rotate_left
  · simp only [Act.put, sa_, sb_, sc_]
    rfl
  refine pure_ (i := 1) (N := (some 6)) (v := ?_) (a' := ?_) (bz 30 3) rfl rfl (by kernel_rfl) (fun _ _ _ h => h) (Or.inl ⟨by rfl, ?_⟩) ?_ ?_
  rotate_left
  · intro w'
    go_simp
    with_reducible rfl
  rotate_left
  · simp only [Act.put, sa_, sb_, sc_]
    rfl
  refine pure_ (i := 2) (N := (some 7)) (v := ?_) (a' := ?_) (bz 30 7) rfl rfl (by kernel_rfl) (fun _ _ _ h => h) (Or.inl ⟨by rfl, ?_⟩) ?_ ?_
  rotate_left
  · intro w'
    go_simp
    with_reducible rfl
  rotate_left
  · simp only [Act.put, sa_, sb_, sc_]
    rfl
  refine pure_ (i := 4) (N := (some 9)) (v := ?_) (a' := ?_) (bz 30 23) rfl rfl (by kernel_rfl) (fun _ _ _ h => h) (Or.inl ⟨by rfl, ?_⟩) ?_ ?_
  rotate_left
  · intro w'
    go_simp
    with_reducible rfl
  rotate_left
  · simp only [Act.put, sa_, sb_, sc_]
    rfl
  refine pure_ (i := 6) (N := (some 11)) (v := ?_) (a' := ?_) (bz 30 87) rfl rfl (by kernel_rfl) (fun _ _ _ h => h) (Or.inl ⟨by rfl, ?_⟩) ?_ ?_
  rotate_left
  · intro w'
    go_simp
    with_reducible rfl
  rotate_left
  · simp only [Act.put, sa_, sb_, sc_]
    rfl
  refine pure_ (i := 8) (N := (some 13)) (v := ?_) (a' := ?_) (bz 30 343) rfl rfl (by kernel_rfl) (fun _ _ _ h => h) (Or.inl ⟨by rfl, ?_⟩) ?_ ?_
  rotate_left
  · intro w'
    go_simp
    with_reducible rfl
  rotate_left
  · simp only [Act.put, sa_, sb_, sc_]
    rfl
  refine pure_ (i := 9) (N := (some 14)) (v := ?_) (a' := ?_) (bz 30 855) rfl rfl (by kernel_rfl) (fun _ _ _ h => h) (Or.inl ⟨by rfl, ?_⟩) ?_ ?_
  rotate_left
  · intro w'
    go_simp
    with_reducible rfl
  rotate_left
  · simp only [Act.put, sa_, sb_, sc_]
    rfl
  refine pure_ (i := 10) (N := (some 15)) (v := ?_) (a' := ?_) (bz 30 1879) rfl rfl (by kernel_rfl) (fun _ _ _ h => h) (Or.inl ⟨by rfl, ?_⟩) ?_ ?_
  rotate_left
  · intro w'
    go_simp
    with_reducible rfl
  rotate_left
  · simp only [Act.put, sa_, sb_, sc_]
    rfl
  refine pure_ (i := 12) (N := (some 17)) (v := ?_) (a' := ?_) (bz 30 5975) rfl rfl (by kernel_rfl) (fun _ _ _ h => h) (Or.inl ⟨by rfl, ?_⟩) ?_ ?_
  rotate_left
  · intro w'
    go_simp
    with_reducible rfl
  rotate_left
  · simp only [Act.put, sa_, sb_, sc_]
    rfl
  refine pure_ (i := 16) (N := (some 21)) (v := ?_) (a' := ?_) (bz 30 71511) rfl rfl (by kernel_rfl) (fun _ _ _ h => h) (Or.inl ⟨by rfl, ?_⟩) ?_ ?_
  rotate_left
  · intro w'
    go_simp
    with_reducible rfl
  rotate_left
  · simp only [Act.put, sa_, sb_, sc_]
    rfl
  refine pure_ (i := 17) (N := (some 22)) (v := ?_) (a' := ?_) (bz 30 202583) rfl rfl (by kernel_rfl) (fun _ _ _ h => h) (Or.inl ⟨by rfl, ?_⟩) ?_ ?_
  rotate_left
  · intro w'
    go_simp
    with_reducible rfl
  rotate_left
  · simp only [Act.put, sa_, sb_, sc_]
    rfl
  refine pure_ (i := 18) (N := (some 23)) (v := ?_) (a' := ?_) (bz 30 464727) rfl rfl (by kernel_rfl) (fun _ _ _ h => h) (Or.inl ⟨by rfl, ?_⟩) ?_ ?_
  rotate_left
  · intro w'
    go_simp
    with_reducible rfl
  rotate_left
  · simp only [Act.put, sa_, sb_, sc_]
    rfl
  refine pure_ (i := 20) (N := (some 25)) (v := ?_) (a' := ?_) (bz 30 1513303) rfl rfl (by kernel_rfl) (fun _ _ _ h => h) (Or.inl ⟨by rfl, ?_⟩) ?_ ?_
  rotate_left
  · intro w'
    go_simp
    with_reducible rfl
  rotate_left
  · simp only [Act.put, sa_, sb_, sc_]
    rfl
  refine take_ (i := 3) (N := (some 8)) (v := ?_) (a' := ?_) (bz 30 1513311) rfl rfl (by kernel_rfl) (fun _ _ _ h => h) (Or.inl ⟨by rfl, ?_⟩) hHeld ?_ ?_
  rotate_left
  · rintro w' ⟨s0, s1, s2, s3, s4, s5, s6, s7⟩
    go_simp
    with_reducible rfl
  rotate_left
  · simp only [Act.put, sa_, sb_, sc_]
    rfl
  refine take_ (i := 5) (N := (some 10)) (v := ?_) (a' := ?_) (bz 30 1513343) rfl rfl (by kernel_rfl) (fun _ _ _ h => h) (Or.inl ⟨by rfl, ?_⟩) hHeld ?_ ?_
  rotate_left
  · rintro w' ⟨s0, s1, s2, s3, s4, s5, s6, s7⟩
    go_simp
    with_reducible rfl
  rotate_left
  · simp only [Act.put, sa_, sb_, sc_]
    rfl
  refine take_ (i := 7) (N := (some 12)) (v := ?_) (a' := ?_) (bz 30 1513471) rfl rfl (by kernel_rfl) (fun _ _ _ h => h) (Or.inl ⟨by rfl, ?_⟩) hHeld ?_ ?_
  rotate_left
  · rintro w' ⟨s0, s1, s2, s3, s4, s5, s6, s7⟩
    go_simp
    with_reducible rfl
  rotate_left
  · simp only [Act.put, sa_, sb_, sc_]
    rfl
  refine take_ (i := 11) (N := (some 16)) (v := ?_) (a' := ?_) (bz 30 1515519) rfl rfl (by kernel_rfl) (fun _ _ _ h => h) (Or.inl ⟨by rfl, ?_⟩) hHeld ?_ ?_
  rotate_left
  · rintro w' ⟨s0, s1, s2, s3, s4, s5, s6, s7⟩
    go_simp
    with_reducible rfl
  rotate_left
  · simp only [Act.put, sa_, sb_, sc_]
    rfl
  refine take_ (i := 13) (N := (some 18)) (v := ?_) (a' := ?_) (bz 30 1523711) rfl rfl (by kernel_rfl) (fun _ _ _ h => h) (Or.inl ⟨by rfl, ?_⟩) hHeld ?_ ?_
  rotate_left
  · rintro w' ⟨s0, s1, s2, s3, s4, s5, s6, s7⟩
    go_simp
    with_reducible rfl
  rotate_left
  · simp only [Act.put, sa_, sb_, sc_]
    rfl
  refine pure_ (i := 14) (N := (some 19)) (v := ?_) (a' := ?_) (bz 30 1540095) rfl rfl (by kernel_rfl) (fun _ _ _ h => h) (Or.inl ⟨by rfl, ?_⟩) ?_ ?_
  rotate_left
  · intro w'
    go_simp
    with_reducible rfl
  rotate_left
  · simp only [Act.put, sa_, sb_, sc_]
    rfl
  refine take_ (i := 15) (N := (some 20)) (v := ?_) (a' := ?_) (bz 30 1572863) rfl rfl (by kernel_rfl) (fun _ _ _ h => h) (Or.inl ⟨by rfl, ?_⟩) hHeld ?_ ?_
  rotate_left
  · rintro w' ⟨s0, s1, s2, s3, s4, s5, s6, s7⟩
    go_simp
    with_reducible rfl
  rotate_left
  · simp only [Act.put, sa_, sb_, sc_]
    rfl
  refine take_ (i := 19) (N := (some 24)) (v := ?_) (a' := ?_) (bz 30 2097151) rfl rfl (by kernel_rfl) (fun _ _ _ h => h) (Or.inl ⟨by rfl, ?_⟩) hHeld ?_ ?_
  rotate_left
  · rintro w' ⟨s0, s1, s2, s3, s4, s5, s6, s7⟩
    go_simp
    with_reducible rfl
  rotate_left
  · simp only [Act.put, sa_, sb_, sc_]
    rfl
  refine take_ (i := 21) (N := (some 26)) (v := ?_) (a' := ?_) (bz 30 4194303) rfl rfl (by kernel_rfl) (fun _ _ _ h => h) (Or.inl ⟨by rfl, ?_⟩) hHeld ?_ ?_
  rotate_left
  · rintro w' ⟨s0, s1, s2, s3, s4, s5, s6, s7⟩
    go_simp
    with_reducible rfl
  rotate_left
  · simp only [Act.put, sa_, sb_, sc_]
    rfl
  refine pure_ (i := 22) (N := (some 27)) (v := ?_) (a' := ?_) (bz 30 8388607) rfl rfl (by kernel_rfl) (fun _ _ _ h => h) (Or.inl ⟨by rfl, ?_⟩) ?_ ?_
  rotate_left
  · intro w'
    go_simp
    with_reducible rfl
  rotate_left
  · simp only [Act.put, sa_, sb_, sc_]
    rfl
  refine take_ (i := 23) (N := (some 28)) (v := ?_) (a' := ?_) (bz 30 16777215) rfl rfl (by kernel_rfl) (fun _ _ _ h => h) (Or.inl ⟨by rfl, ?_⟩) hHeld ?_ ?_
  rotate_left
  · rintro w' ⟨s0, s1, s2, s3, s4, s5, s6, s7⟩
    go_simp
    with_reducible rfl
  rotate_left
  · simp only [Act.put, sa_, sb_, sc_]
    rfl
  refine one_ (i := 24) (N := (some 29)) (bz 30 33554431) rfl rfl (by kernel_rfl) (by decide) (fun K hK => ?_)
  refine goes_ Tryz.func75 (by kernel_rfl) rfl #[.int .u8 o.fn, .int .u64 (m.get o.a), .int .u64 (m.get o.b)] (by rfl) rfl rfl (by (try simp only [List.map_toArray, List.map_cons, List.map_nil]); first | done | rfl) ?_
  refine (HW.out _).mono ?_
  rintro e w2 ⟨rfl, hb2⟩
  refine ⟨_, rfl, ?_⟩
  have hb3 : Below w1.heap.size w1 w2 := (Below.refl w1.heap.size w1).drew.trans hb2
  have fd2 : w2.frozen? ⟨g, o.d.toNat, none⟩ = false := fm fd hcd hb3
  have cd2 := cm hcd hb3
  refine hK.out _ _ (HSS.out _ hb3) (fun hHeld => ?_)
  clear hK K
  refine norm_ (a' := ?_) ?_ ?_
  rotate_left
  · show Act.put _ (some 29) _ = _
    simp only [Act.put, sa_, sb_, sc_]
    rfl
  refine pure_ (i := 25) (N := (some 4)) (v := ?_) (a' := ?_) (bz 30 67108863) rfl rfl (by kernel_rfl) (fun _ _ _ h => h) (Or.inl ⟨by rfl, ?_⟩) ?_ ?_
  rotate_left
  · intro w'
    go_simp
    with_reducible rfl
  rotate_left
  · simp only [Act.put, sa_, sb_, sc_]
    rfl
  refine pure_ (i := 26) (N := (some 30)) (v := ?_) (a' := ?_) (bz 30 134217727) rfl rfl (by kernel_rfl) (fun _ _ _ h => h) (Or.inl ⟨by rfl, ?_⟩) ?_ ?_
  rotate_left
  · intro w'
    go_simp
    with_reducible rfl
  rotate_left
  · simp only [Act.put, sa_, sb_, sc_]
    rfl
  refine pure_ (i := 27) (N := (some 31)) (v := ?_) (a' := ?_) (bz 30 268435455) rfl rfl (by kernel_rfl) (fun _ _ _ h => h) (Or.inl ⟨by rfl, ?_⟩) ?_ ?_
  rotate_left
  · intro w'
    go_simp
    with_reducible rfl
  rotate_left
  · simp only [Act.put, sa_, sb_, sc_]
    rfl
  refine pure_ (i := 28) (N := (some 32)) (v := ?_) (a' := ?_) (bz 30 536870911) rfl rfl (by kernel_rfl) (fun _ _ _ h => h) (Or.inl ⟨by rfl, ?_⟩) ?_ ?_
  rotate_left
  · intro w'
    go_simp
    with_reducible rfl
  rotate_left
  · simp only [Act.put, sa_, sb_, sc_]
    rfl
  refine last_ (i := 29) (N := none) (bz 30 1073741823) rfl rfl (by kernel_rfl) (by decide) (fun K hK => ?_)
  refine skip_ (w1 := ?_) (by rfl) rfl ?_ ?_
  rotate_left
  · go_simp
    rfl
  refine hK.out _ _ ?_
  clear hK K
  refine done_ (by kernel_rfl) ?_
  go_end0
  exact ⟨(hbA.of hb3 h1.base).setCell hg0 (hR.below hb3).vO _, rfl, (hR.below hb3).put (hM.mono hb3) h.mb0 h.wf o.d _ hd0 hd1 hrx.1 hrx.2⟩
end Go.Proofs.YtoabiignjkcdmaaGreat

namespace Go.Proofs.YtoabiignjkcdmaaGreat
open Go.RowKit
set_option linter.unusedVariables false
set_option linter.unusedSimpArgs false

/-- An object's cells, by its number. -/
theorem obj_at {w : World} {B : Nat} {v : Value} {xs : List SObj} {bvs : List Value} (h : w.ownsRow B 85 4 v xs.length (objsC xs bvs)) (hl : bvs.length = xs.length) (i : Nat) (hi : i < xs.length) (hi2 : i < bvs.length) :
    ∃ g c, v = .slice (some ⟨g, 0, none⟩) xs.length c ∧ w.cell? ⟨g, i * 4, none⟩ = some (.int .u64 xs[i].at') ∧ w.cell? ⟨g, i * 4 + 1, none⟩ = some bvs[i] ∧ w.cell? ⟨g, i * 4 + 2, none⟩ = some (.bool xs[i].sec) ∧ w.cell? ⟨g, i * 4 + 3, none⟩ = some (.bool xs[i].fixed) := by
  obtain ⟨g, c, rfl, _, _⟩ := h.form (by omega)
  refine ⟨g, c, rfl, ?_, ?_, ?_, ?_⟩
  · rw [World.ownsRow.cellAt h (i * 4) (by omega)]
    have := objsC_get xs bvs i hi hi2 0 (by omega)
    rw [Nat.add_zero] at this
    rw [this]; rfl
  · rw [World.ownsRow.cellAt h (i * 4 + 1) (by omega), objsC_get xs bvs i hi hi2 1 (by omega)]; rfl
  · rw [World.ownsRow.cellAt h (i * 4 + 2) (by omega), objsC_get xs bvs i hi hi2 2 (by omega)]; rfl
  · rw [World.ownsRow.cellAt h (i * 4 + 3) (by omega), objsC_get xs bvs i hi hi2 3 (by omega)]; rfl
theorem own_shape' {w : World} {B n s : Nat} {e : TypeId} {v : Value} {xs : List Value} (h : w.ownsRow B e s v n xs) : ∃ a c, v = .slice a n c := by
  rcases h.2 with ⟨rfl, h0⟩ | ⟨g, cap, cur, rfl, _⟩
  · exact ⟨none, 0, by rw [h0]⟩
  · exact ⟨_, _, rfl⟩
theorem own_le {w : World} {B n s : Nat} {e : TypeId} {v : Value} {xs : List Value} (h : w.ownsRow B e s v n xs) : n ≤ 9223372036854775807 := by
  rcases h.2 with ⟨_, h0⟩ | ⟨g, cap, cur, _, _, _, h1, h2, _⟩
  · omega
  · unfold maxLen at h2
    omega
/-- What at answers. -/
def AtR (m : SM) (hbs abs : List Value) (p fn : Int) (st : Bool) (e : Ending) : Prop :=
  (∃ i, ∃ (h1 : i < m.handed.length) (h2 : i < hbs.length), m.handed.findIdx? (hits p fn st) = some i ∧ ∃ g c, hbs[i] = .slice (some ⟨g, 0, none⟩) m.handed[i].b.length c ∧ e = .returned (.pointer (some ⟨g, (p - m.handed[i].at').toNat, none⟩))) ∨
  (m.handed.findIdx? (hits p fn st) = none ∧ ∃ i, ∃ (h1 : i < m.arena.length) (h2 : i < abs.length), m.arena.findIdx? (hits p fn st) = some i ∧ ∃ g c, abs[i] = .slice (some ⟨g, 0, none⟩) m.arena[i].b.length c ∧ e = .returned (.pointer (some ⟨g, (p - m.arena[i].at').toNat, none⟩))) ∨
  (m.handed.findIdx? (hits p fn st) = none ∧ m.arena.findIdx? (hits p fn st) = none ∧ e = .panicked [{ v := overV 40, recovered := false }])
set_option maxRecDepth 100000 in
set_option maxHeartbeats 4000000 in
theorem at_c (m : SM) (w : World) (base B2 mb nv : Nat) (vv hv av lv tv : Value) (hbs abs : List Value) (hR : MRows w base B2 m vv hv av lv tv hbs abs) (hM : Bk w mb (mC m vv hv av lv tv) 81) (hw : MWf m nv) (p fn : Int) (st : Bool) (p0 : 0 ≤ p) (p1 : p < 18446744073709551616) :
    Calls Tryz.prog 111 #[.pointer (some ⟨mb, 0, none⟩), .int .u64 p, .int .u8 fn, .bool st] w fun e w' => AtR m hbs abs p fn st e ∧ Below w.heap.size w w' := by
  obtain ⟨ha, hac, rfl⟩ := own_shape' hR.h
  obtain ⟨aa, aac, rfl⟩ := own_shape' hR.a
  have CM := hM.cell
  go_enter Tryz.func111, Tryz.ntmps111
  go_wp2_with fail
  go_region
  go_wp2_with fail
  have hR0 := Lib.hid hR
  have hW0 := Lib.hid hw
  have hbA := ((Below.refl w.heap.size w).alloc (Nat.le_refl _) (.cells #[.slice ha m.handed.length hac, .slice aa m.arena.length aac] 78)).drew
  have BL := (Bk.new w #[.slice ha m.handed.length hac, .slice aa m.arena.length aac] 78).drew
  clear CM hM hR hw
  go_loopw [23] (fun k wr => ∃ kk : Nat, kk ≤ 2 ∧ k = .int .i64 kk ∧ (1 ≤ kk → m.handed.findIdx? (hits p fn st) = none) ∧ (2 ≤ kk → m.arena.findIdx? (hits p fn st) = none) ∧ Below w.heap.size w wr ∧ Bk wr w.heap.size #[.slice ha m.handed.length hac, .slice aa m.arena.length aac] 78) (fun k _ => 2 - (intOf k).toNat)
  case atStart => exact ⟨0, by omega, rfl, fun h => by omega, fun h => by omega, hbA, BL⟩
  case round =>
    clear hbA BL
    obtain ⟨kk, hk2, rfl, hn1, hn2, hb, BL⟩ := hrel
    by_cases hlt : (kk : Int) < 2
    · obtain ⟨xs, bvs, B, ra, rc, hown, hl, hby, crow, lhit, lnone, hxw⟩ : ∃ (xs : List SObj) (bvs : List Value) (B : Nat) (ra : Option Addr) (rc : Nat), w.ownsRow B 85 4 (.slice ra xs.length rc) xs.length (objsC xs bvs) ∧ bvs.length = xs.length ∧
          (∀ i (h1 : i < xs.length) (h2 : i < bvs.length), ∃ g c, bvs[i] = .slice (some ⟨g, 0, none⟩) xs[i].b.length c) ∧ wr.cell? ⟨w.heap.size, kk, none⟩ = some (.slice ra xs.length rc) ∧
          (∀ i (h1 : i < xs.length) (h2 : i < bvs.length) g c, xs.findIdx? (hits p fn st) = some i → bvs[i] = .slice (some ⟨g, 0, none⟩) xs[i].b.length c → AtR m hbs abs p fn st (.returned (.pointer (some ⟨g, (p - xs[i].at').toNat, none⟩)))) ∧
          (xs.findIdx? (hits p fn st) = none → (1 ≤ kk + 1 → m.handed.findIdx? (hits p fn st) = none) ∧ (2 ≤ kk + 1 → m.arena.findIdx? (hits p fn st) = none)) ∧ ∀ x ∈ xs, 0 ≤ x.at' ∧ x.at' < 18446744073709551616 ∧ x.b.length ≤ 65536 := by
        have hk01 : kk = 0 ∨ kk = 1 := by omega
        rcases hk01 with rfl | rfl
        · refine ⟨m.handed, hbs, base, ha, hac, hR0.out.h, hR0.out.hl, fun i h1 h2 => ?_, BL.cell 0, fun i h1 h2 g c e1 e2 => .inl ⟨i, h1, h2, e1, g, c, e2, rfl⟩, fun h => ⟨fun _ => h, fun h2 => by omega⟩, fun x hx => ?_⟩
          · obtain ⟨g, c, e, _⟩ := (hR0.out.hb i h1 h2).1.shape
            exact ⟨g, c, e⟩
          · have := hW0.out.ob x (List.mem_append_left _ hx)
            exact ⟨this.1, this.2.1, this.2.2.1⟩
        · refine ⟨m.arena, abs, B2, aa, aac, hR0.out.a, hR0.out.al, fun i h1 h2 => ?_, BL.cell 1, fun i h1 h2 g c e1 e2 => .inr (.inl ⟨hn1 (by omega), i, h1, h2, e1, g, c, e2, rfl⟩), fun h => ⟨fun _ => hn1 (by omega), fun _ => h⟩, fun x hx => ?_⟩
          · obtain ⟨g, c, e, _⟩ := (hR0.out.ab i h1 h2).shape
            exact ⟨g, c, e⟩
          · have := hW0.out.ob x (List.mem_append_right _ hx)
            exact ⟨this.1, this.2.1, this.2.2.1⟩
      have hxl := own_le hown
      have HOWN := Lib.hid hown
      have HBY := Lib.hid hby
      have LH := Lib.hid lhit
      have LN := Lib.hid lnone
      have HXW := Lib.hid hxw
      have HN1 := Lib.hid hn1
      clear hown hby lhit lnone hxw hn1 hn2
      go_wp2_with fail
      go_loopw [29] (fun s w2 => ∃ ii : Nat, ii ≤ xs.length ∧ s = .int .i64 ii ∧ (∀ j (h : j < xs.length), j < ii → hits p fn st xs[j] = false) ∧ Below w.heap.size w w2 ∧ Bk w2 w.heap.size #[.slice ha m.handed.length hac, .slice aa m.arena.length aac] 78) (fun s _ => xs.length - (intOf s).toNat)
      case atStart => exact ⟨0, Nat.zero_le _, rfl, fun j _ h => absurd h (by omega), hb, BL⟩
      case round =>
        clear hb BL crow
        obtain ⟨ii, hii, rfl, hall, hb2, BL2⟩ := hrel
        have HA := Lib.hid hall
        clear hall
        by_cases hlt2 : (ii : Int) < (xs.length : Int)
        · have hii2 : ii < xs.length := by omega
          have hii3 : ii < bvs.length := by omega
          obtain ⟨bg, bc, hbv⟩ := HBY.out ii hii2 hii3
          obtain ⟨rg, rc', hrow, q0, q1, q2, q3⟩ := obj_at (own_below HOWN.out hb2) hl ii hii2 hii3
          obtain ⟨rfl, rfl⟩ : ra = some ⟨rg, 0, none⟩ ∧ rc = rc' := by injection hrow with h1 h2 h3; exact ⟨h1, h3⟩
          clear hrow
          rw [hbv] at q1
          obtain ⟨x0, x1, x2⟩ := HXW.out _ (List.getElem_mem hii2)
          have hnext : hits p fn st xs[ii] = false → ∀ j (h : j < xs.length), j < ii + 1 → hits p fn st xs[j] = false := fun hf j h hj => by
            by_cases e : j = ii
            · subst e; exact hf
            · exact HA.out j h (by omega)
          have hhit : hits p fn st xs[ii] = true → xs.findIdx? (hits p fn st) = some ii := fun ht => by
            rw [List.findIdx?_eq_some_iff_getElem]
            exact ⟨hii2, ht, fun j hj => by rw [HA.out j (by omega) hj]; decide⟩
          have HNX := Lib.hid hnext
          have HHT := Lib.hid hhit
          clear hnext hhit
          have hba : ∀ v0 v1 v2 v3 : Value, Below w.heap.size w (wr.alloc (.cells #[v0, v1, v2, v3] 85)) := fun _ _ _ _ => hb2.alloc hb2.size _
          have BLa : ∀ v0 v1 v2 v3 : Value, Bk (wr.alloc (.cells #[v0, v1, v2, v3] 85)) w.heap.size #[.slice ha m.handed.length hac, .slice aa m.arena.length aac] 78 := fun _ _ _ _ => BL2.alloc _
          have HBA := Lib.hid hba
          have HBL := Lib.hid BLa
          clear hba BLa
          by_cases c1 : xs[ii].at' ≤ p
          case neg =>
            have hf : hits p fn st xs[ii] = false := by unfold hits; rw [decide_eq_false c1]; rfl
            go_wp2_with fail
            refine ⟨⟨ii + 1, hii2, ?_, HNX.out hf, HBA.out _ _ _ _, HBL.out _ _ _ _⟩, ?_⟩
            · go_num
            · simp [intOf]
              omega
          by_cases c2 : p - xs[ii].at' < (xs[ii].b.length : Int)
          case neg =>
            have hf : hits p fn st xs[ii] = false := by unfold hits; rw [decide_eq_false c2]; simp
            go_wp2_with fail
            refine ⟨⟨ii + 1, hii2, ?_, HNX.out hf, HBA.out _ _ _ _, HBL.out _ _ _ _⟩, ?_⟩
            · go_num
            · simp [intOf]
              omega
          cases c3 : (xs[ii].sec == (fn == 1)) with
          | false =>
            have hf : hits p fn st xs[ii] = false := by unfold hits; rw [c3]; simp
            go_wp2_with fail
            refine ⟨⟨ii + 1, hii2, ?_, HNX.out hf, HBA.out _ _ _ _, HBL.out _ _ _ _⟩, ?_⟩
            · go_num
            · simp [intOf]
              omega
          | true =>
          cases c4 : (!(st && xs[ii].fixed)) with
          | false =>
            have hf : hits p fn st xs[ii] = false := by unfold hits; rw [c4]; simp
            have hst : st = true ∧ xs[ii].fixed = true := by simpa using c4
            obtain ⟨rfl, c5⟩ := hst
            rw [c5] at q3
            clear c4 c5
            go_wp2_with fail
            refine ⟨⟨ii + 1, hii2, ?_, HNX.out hf, HBA.out _ _ _ _, HBL.out _ _ _ _⟩, ?_⟩
            · go_num
            · simp [intOf]
              omega
          | true =>
            have ht : hits p fn st xs[ii] = true := by unfold hits; rw [c3, c4, decide_eq_true c1, decide_eq_true c2]; rfl
            have hres := LH.out ii hii2 hii3 bg bc (HHT.out ht) hbv
            have hd0 : 0 ≤ p - xs[ii].at' := by omega
            have HRES := Lib.hid hres
            clear hres
            cases c5 : st with
            | false =>
              go_wp2_with fail
              go_ret
              exact ⟨HRES.out, HBA.out _ _ _ _⟩
            | true =>
              have hfx : xs[ii].fixed = false := by
                cases hx : xs[ii].fixed with
                | false => rfl
                | true => rw [hx, c5] at c4; exact absurd c4 (by decide)
              rw [hfx] at q3
              go_wp2_with fail
              go_ret
              have hz := HBA.out (.int .u64 xs[ii].at') (.slice (some ⟨bg, 0, none⟩) xs[ii].b.length bc) (.bool xs[ii].sec) (.bool false)
              exact ⟨HRES.out, hz⟩
        · have e : ii = xs.length := by omega
          subst e
          have hnone : xs.findIdx? (hits p fn st) = none := by
            rw [List.findIdx?_eq_none_iff]
            intro x hx
            obtain ⟨j, hj, rfl⟩ := List.getElem_of_mem hx
            exact HA.out j hj hj
          have hln := LN.out hnone
          go_wp2_with fail
          refine ⟨⟨kk + 1, ?_, ?_, hln.1, hln.2, hb2, BL2⟩, ?_⟩
          · omega
          · go_num
          · simp [intOf]
            omega
    · have e : kk = 2 := by omega
      subst e
      go_wp2_with fail
      refine ⟨rfl, .inr (.inr ⟨hn1 (by omega), hn2 (by omega), rfl⟩), hb⟩
end Go.Proofs.YtoabiignjkcdmaaGreat
