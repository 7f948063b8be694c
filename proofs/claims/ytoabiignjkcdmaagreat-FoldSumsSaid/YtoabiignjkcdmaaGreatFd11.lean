/-
  Lemmas (texts RunO8), each proved without a condition beyond its own hypotheses.
-/
import Derived.Test.YtoabiignjkcdmaaGreatFd10
import Derived.Test.YtoabiignjkcdmaaGreatFd5
namespace Go.Proofs.YtoabiignjkcdmaaGreat
open Go.RowKit Go.Proofs.YtoabiignjkcdmaaGreatW.PrintLast
set_option linter.unusedVariables false
set_option linter.unusedSimpArgs false

theorem own_cap {w : World} {B n s : Nat} {e : TypeId} {a : Option Addr} {c : Nat} {xs : List Value} (h : w.ownsRow B e s (.slice a n c) n xs) : n ≤ c := by
  rcases h.2 with ⟨e, h0⟩ | ⟨g, cap, cur, e, _, _, h1, _⟩
  · omega
  · injection e with _ _ e
    omega
set_option maxRecDepth 100000 in
set_option maxHeartbeats 2000000 in
theorem free_c (o : SOp) (m : SM) (w : World) (base B2 mb nv : Nat) (h : MA w base B2 mb nv m) (ha0 : 0 ≤ o.a) (ha1 : o.a < nv) :
    Calls Tryz.prog 92 #[.pointer (some ⟨mb, 0, none⟩), o.val] w (OpPost w base B2 mb nv (freeS m o)) := by
  obtain ⟨w1, hw1, h1, hbA, BO, hBase⟩ := op_begin (o := o) h
  unfold SOp.val
  go_enter Tryz.func92, Tryz.ntmps92
  go_upto_region 1 with (fail)
  rw [← hw1]
  clear hw1
  obtain ⟨vv, hv, av, lv, tv, hbs, abs, hR, hM⟩ := h1.ex
  obtain ⟨g, c, rfl, hg0, hg1, hc, hf⟩ := hR.v_open h1.wf (by omega)
  have hra := get_range h.wf ha0 ha1
  have CT : ∀ W, Below w1.heap.size w1 W → W.cell? ⟨mb, 0, none⟩ = some (.slice (some ⟨g, 0, none⟩) nv c) ∧ W.cell? ⟨w.heap.size, 3, none⟩ = some (.int .i64 o.a) ∧ W.cell? ⟨g, o.a.toNat, none⟩ = some (.int .u64 (m.get o.a)) :=
    fun W hW => ⟨cm (hM.cell 0) hW, cm (BO.cell 3) hW, cm (hc o.a ha0 ha1) hW⟩
  have HCT := Lib.hid CT
  clear CT
  have HST := Lib.hid fun W (hW : Below w1.heap.size w1 W) => start_c m W base B2 mb nv _ _ _ _ _ _ _ (hR.below hW) (hM.mono hW) h1.wf (m.get o.a) hra.1 hra.2 114 #[] (fun x => true) (enters_of Tryz.func114 (by kernel_rfl) rfl) (Lib.hid fun i h1' h2' W2 hW2 => free1_c _ _ W2)
  cases hq : m.arena.findIdx? (starts (m.get o.a)) with
  | none =>
    refine start_ (n := 11) (S := fun w' => w'.cell? ⟨mb, 0, none⟩ = some (.slice (some ⟨g, 0, none⟩) nv c) ∧ w'.cell? ⟨w.heap.size, 3, none⟩ = some (.int .i64 o.a) ∧ w'.cell? ⟨g, o.a.toNat, none⟩ = some (.int .u64 (m.get o.a))) (ds := []) (bz 11 0) (by kernel_rfl) rfl rfl (HCT.out _ (Below.refl _ _).drew) (fun hHeld => ?_)
    refine pure_ (i := 0) (N := (some 5)) (v := ?_) (a' := ?_) (bz 11 1) rfl rfl (by kernel_rfl) (fun _ _ _ h => h) (Or.inl ⟨by rfl, ?_⟩) ?_ ?_
    rotate_left
    · intro w'
      go_simp
      with_reducible rfl
    rotate_left
    · simp only [Act.put, sa_, sb_, sc_]
      rfl
    refine pure_ (i := 1) (N := (some 6)) (v := ?_) (a' := ?_) (bz 11 3) rfl rfl (by kernel_rfl) (fun _ _ _ h => h) (Or.inl ⟨by rfl, ?_⟩) ?_ ?_
    rotate_left
    · intro w'
      go_simp
      with_reducible rfl
    rotate_left
    · simp only [Act.put, sa_, sb_, sc_]
      rfl
    refine pure_ (i := 2) (N := (some 7)) (v := ?_) (a' := ?_) (bz 11 7) rfl rfl (by kernel_rfl) (fun _ _ _ h => h) (Or.inl ⟨by rfl, ?_⟩) ?_ ?_
    rotate_left
    · intro w'
      go_simp
      with_reducible rfl
    rotate_left
    · simp only [Act.put, sa_, sb_, sc_]
      rfl
    refine pure_ (i := 3) (N := (some 8)) (v := ?_) (a' := ?_) (bz 11 15) rfl rfl (by kernel_rfl) (fun _ _ _ h => h) (Or.inl ⟨by rfl, ?_⟩) ?_ ?_
    rotate_left
    · intro w'
      go_simp
      with_reducible rfl
    rotate_left
    · simp only [Act.put, sa_, sb_, sc_]
      rfl
    refine pure_ (i := 5) (N := (some 10)) (v := ?_) (a' := ?_) (bz 11 47) rfl rfl (by kernel_rfl) (fun _ _ _ h => h) (Or.inl ⟨by rfl, ?_⟩) ?_ ?_
    rotate_left
    · intro w'
      go_simp
      with_reducible rfl
    rotate_left
    · simp only [Act.put, sa_, sb_, sc_]
      rfl
    refine take_ (i := 4) (N := (some 9)) (v := ?_) (a' := ?_) (bz 11 63) rfl rfl (by kernel_rfl) (fun _ _ _ h => h) (Or.inl ⟨by rfl, ?_⟩) hHeld ?_ ?_
    rotate_left
    · rintro w' ⟨s0, s1, s2⟩
      go_simp
      with_reducible rfl
    rotate_left
    · simp only [Act.put, sa_, sb_, sc_]
      rfl
    refine take_ (i := 6) (N := (some 11)) (v := ?_) (a' := ?_) (bz 11 127) rfl rfl (by kernel_rfl) (fun _ _ _ h => h) (Or.inl ⟨by rfl, ?_⟩) hHeld ?_ ?_
    rotate_left
    · rintro w' ⟨s0, s1, s2⟩
      go_simp
      with_reducible rfl
    rotate_left
    · simp only [Act.put, sa_, sb_, sc_]
      rfl
    refine pure_ (i := 7) (N := (some 12)) (v := ?_) (a' := ?_) (bz 11 255) rfl rfl (by kernel_rfl) (fun _ _ _ h => h) (Or.inl ⟨by rfl, ?_⟩) ?_ ?_
    rotate_left
    · intro w'
      go_simp
      with_reducible rfl
    rotate_left
    · simp only [Act.put, sa_, sb_, sc_]
      rfl
    refine take_ (i := 8) (N := (some 13)) (v := ?_) (a' := ?_) (bz 11 511) rfl rfl (by kernel_rfl) (fun _ _ _ h => h) (Or.inl ⟨by rfl, ?_⟩) hHeld ?_ ?_
    rotate_left
    · rintro w' ⟨s0, s1, s2⟩
      go_simp
      with_reducible rfl
    rotate_left
    · simp only [Act.put, sa_, sb_, sc_]
      rfl
    refine one_ (i := 9) (N := (some 14)) (bz 11 1023) rfl rfl (by kernel_rfl) (by decide) (fun K hK => ?_)
    refine goesQ_ Tryz.func112 (by kernel_rfl) rfl #[.pointer (some ⟨mb, 0, none⟩), .int .u64 (m.get o.a), .func (.func 114) #[] #[]] (by rfl) rfl rfl (by (try simp only [List.map_toArray, List.map_cons, List.map_nil]); first | done | rfl) ?_
    refine (HST.out w1.drew (Below.refl _ _).drew).mono ?_
    intro e w4 hp
    unfold StartP at hp
    simp only [Bool.and_true] at hp
    rw [show m.arena.findIdx? (fun x => starts (m.get o.a) x) = m.arena.findIdx? (starts (m.get o.a)) from rfl, hq] at hp
    obtain ⟨hb4, rfl⟩ := hp
    have hb6 : Below w1.heap.size w1 w4 := (Below.refl w1.heap.size w1).drew.trans hb4
    refine .inr ⟨_, rfl, ?_⟩
    refine ⟨rfl, ?_⟩
    unfold freeS
    rw [hq]
    exact ⟨hbA.of hb6 h1.base, rfl, h1.below hb6⟩

  | some i =>
    refine start_ (n := 11) (S := fun w' => w'.cell? ⟨mb, 0, none⟩ = some (.slice (some ⟨g, 0, none⟩) nv c) ∧ w'.cell? ⟨w.heap.size, 3, none⟩ = some (.int .i64 o.a) ∧ w'.cell? ⟨g, o.a.toNat, none⟩ = some (.int .u64 (m.get o.a))) (ds := []) (bz 11 0) (by kernel_rfl) rfl rfl (HCT.out _ (Below.refl _ _).drew) (fun hHeld => ?_)
    refine pure_ (i := 0) (N := (some 5)) (v := ?_) (a' := ?_) (bz 11 1) rfl rfl (by kernel_rfl) (fun _ _ _ h => h) (Or.inl ⟨by rfl, ?_⟩) ?_ ?_
    rotate_left
    · intro w'
      go_simp
      with_reducible rfl
    rotate_left
    · simp only [Act.put, sa_, sb_, sc_]
      rfl
    refine pure_ (i := 1) (N := (some 6)) (v := ?_) (a' := ?_) (bz 11 3) rfl rfl (by kernel_rfl) (fun _ _ _ h => h) (Or.inl ⟨by rfl, ?_⟩) ?_ ?_
    rotate_left
    · intro w'
      go_simp
      with_reducible rfl
    rotate_left
    · simp only [Act.put, sa_, sb_, sc_]
      rfl
    refine pure_ (i := 2) (N := (some 7)) (v := ?_) (a' := ?_) (bz 11 7) rfl rfl (by kernel_rfl) (fun _ _ _ h => h) (Or.inl ⟨by rfl, ?_⟩) ?_ ?_
    rotate_left
    · intro w'
      go_simp
      with_reducible rfl
    rotate_left
    · simp only [Act.put, sa_, sb_, sc_]
      rfl
    refine pure_ (i := 3) (N := (some 8)) (v := ?_) (a' := ?_) (bz 11 15) rfl rfl (by kernel_rfl) (fun _ _ _ h => h) (Or.inl ⟨by rfl, ?_⟩) ?_ ?_
    rotate_left
    · intro w'
      go_simp
      with_reducible rfl
    rotate_left
    · simp only [Act.put, sa_, sb_, sc_]
      rfl
    refine pure_ (i := 5) (N := (some 10)) (v := ?_) (a' := ?_) (bz 11 47) rfl rfl (by kernel_rfl) (fun _ _ _ h => h) (Or.inl ⟨by rfl, ?_⟩) ?_ ?_
    rotate_left
    · intro w'
      go_simp
      with_reducible rfl
    rotate_left
    · simp only [Act.put, sa_, sb_, sc_]
      rfl
    refine take_ (i := 4) (N := (some 9)) (v := ?_) (a' := ?_) (bz 11 63) rfl rfl (by kernel_rfl) (fun _ _ _ h => h) (Or.inl ⟨by rfl, ?_⟩) hHeld ?_ ?_
    rotate_left
    · rintro w' ⟨s0, s1, s2⟩
      go_simp
      with_reducible rfl
    rotate_left
    · simp only [Act.put, sa_, sb_, sc_]
      rfl
    refine take_ (i := 6) (N := (some 11)) (v := ?_) (a' := ?_) (bz 11 127) rfl rfl (by kernel_rfl) (fun _ _ _ h => h) (Or.inl ⟨by rfl, ?_⟩) hHeld ?_ ?_
    rotate_left
    · rintro w' ⟨s0, s1, s2⟩
      go_simp
      with_reducible rfl
    rotate_left
    · simp only [Act.put, sa_, sb_, sc_]
      rfl
    refine pure_ (i := 7) (N := (some 12)) (v := ?_) (a' := ?_) (bz 11 255) rfl rfl (by kernel_rfl) (fun _ _ _ h => h) (Or.inl ⟨by rfl, ?_⟩) ?_ ?_
    rotate_left
    · intro w'
      go_simp
      with_reducible rfl
    rotate_left
    · simp only [Act.put, sa_, sb_, sc_]
      rfl
    refine take_ (i := 8) (N := (some 13)) (v := ?_) (a' := ?_) (bz 11 511) rfl rfl (by kernel_rfl) (fun _ _ _ h => h) (Or.inl ⟨by rfl, ?_⟩) hHeld ?_ ?_
    rotate_left
    · rintro w' ⟨s0, s1, s2⟩
      go_simp
      with_reducible rfl
    rotate_left
    · simp only [Act.put, sa_, sb_, sc_]
      rfl
    refine one_ (i := 9) (N := (some 14)) (bz 11 1023) rfl rfl (by kernel_rfl) (by decide) (fun K hK => ?_)
    refine goesQ_ Tryz.func112 (by kernel_rfl) rfl #[.pointer (some ⟨mb, 0, none⟩), .int .u64 (m.get o.a), .func (.func 114) #[] #[]] (by rfl) rfl rfl (by (try simp only [List.map_toArray, List.map_cons, List.map_nil]); first | done | rfl) ?_
    refine (HST.out w1.drew (Below.refl _ _).drew).mono ?_
    intro e w4 hp
    unfold StartP at hp
    simp only [Bool.and_true] at hp
    rw [show m.arena.findIdx? (fun x => starts (m.get o.a) x) = m.arena.findIdx? (starts (m.get o.a)) from rfl, hq] at hp
    obtain ⟨hb4, rfl⟩ := hp
    have hb6 : Below w1.heap.size w1 w4 := (Below.refl w1.heap.size w1).drew.trans hb4
    refine .inl ⟨_, rfl, ?_⟩
    refine hK.out _ _ (HCT.out _ hb6) (fun hHeld => ?_)
    clear hK K
    refine norm_ (a' := ?_) ?_ ?_
    rotate_left
    · show Act.put _ (some 14) _ = _
      simp only [Act.put, sa_, sb_, sc_]
      rfl
    refine pure_ (i := 10) (N := (some 4)) (v := ?_) (a' := ?_) (bz 11 2047) rfl rfl (by kernel_rfl) (fun _ _ _ h => h) (Or.inl ⟨by rfl, ?_⟩) ?_ ?_
    rotate_left
    · intro w'
      go_simp
      with_reducible rfl
    rotate_left
    · simp only [Act.put, sa_, sb_, sc_]
      rfl
    refine done_ (by kernel_rfl) ?_
    clear HST HCT hc hf
    obtain ⟨hi, hh⟩ := findIdx_hit hq
    have hR4 := hR.below hb6
    have hM4 := hM.mono hb6
    have hal := h1.wf.al
    obtain ⟨ga, ca, rfl, _, _⟩ := hR4.a.form (by omega)
    obtain ⟨gl, cl, rfl, _, _⟩ := hR4.l.form (by omega)
    have hil : i < m.left.length := by omega
    have hxa := own_le hR4.a
    have hxl := own_le hR4.l
    have hla : w4.cell? ⟨gl, i, none⟩ = some (.int .i64 (m.left.getD i 0)) := by
      rw [World.ownsRow.cellAt hR4.l i (by omega)]
      simp [show i < m.left.length by omega]
    have hla' : (m.left.getD i 0) = m.left[i]'(by omega) := by simp [show i < m.left.length by omega]
    have hlr := h1.wf.lf (m.left.getD i 0) (by rw [hla']; exact List.getElem_mem _)
    obtain ⟨tk, htk⟩ : ∃ tk, tk = m.left.getD i 0 := ⟨_, rfl⟩
    rw [← htk] at hla hlr
    have HTK := Lib.hid htk
    clear hla' hal htk
    have hR4h := Lib.hid hR4
    clear hR4
    obtain ⟨W5, hW5⟩ : ∃ W5, W5 = w4.setCell ⟨mb, 4, none⟩ (.int .i64 tk) := ⟨_, rfl⟩
    have CM := hM4.cell
    have FM := hM4.free
    go_upto_region 3 with (fail)
    rw [← hW5]
    have hR5 : MRows W5 base B2 { m with taken := tk } (.slice (some ⟨g, 0, none⟩) nv c) hv (.slice (some ⟨ga, 0, none⟩) m.arena.length ca) (.slice (some ⟨gl, 0, none⟩) m.left.length cl) tv hbs abs := by
      rw [hW5]
      exact (hR4h.out.mach hM4 4 _).like rfl rfl rfl rfl rfl
    have hM5 : Bk W5 mb (mC { m with taken := tk } (.slice (some ⟨g, 0, none⟩) nv c) hv (.slice (some ⟨ga, 0, none⟩) m.arena.length ca) (.slice (some ⟨gl, 0, none⟩) m.left.length cl) tv) 81 := by
      rw [hW5]
      exact hM4.set 4 _
    have hb5 : Fr base w W5 := by
      rw [hW5]
      exact (hbA.of hb6 h1.base).setCell h1.mb0 hM4.own _
    clear hW5 CM FM hla hR hM
    have CM5 := hM5.cell
    have FM5 := hM5.free
    have hci : i ≤ ca := Nat.le_trans (Nat.le_of_lt hi) (own_cap hR5.a)
    have hci2 : i ≤ cl := Nat.le_trans (Nat.le_of_lt hil) (own_cap hR5.l)
    refine start_ (n := 20) (S := fun w' => w'.cell? ⟨mb, 2, none⟩ = some (.slice (some ⟨ga, 0, none⟩) m.arena.length ca) ∧ w'.cell? ⟨mb, 3, none⟩ = some (.slice (some ⟨gl, 0, none⟩) m.left.length cl)) (ds := [16, 19]) (bz 20 0) (by kernel_rfl) rfl rfl ⟨CM5 2, CM5 3⟩ (fun hHeld => ?_)
    refine pure_ (i := 0) (N := (some 25)) (v := ?_) (a' := ?_) (bz 20 1) rfl rfl (by kernel_rfl) (fun _ _ _ h => h) (Or.inl ⟨by rfl, ?_⟩) ?_ ?_
    rotate_left
    · intro w'
      go_simp
      with_reducible rfl
    rotate_left
    · simp only [Act.put, sa_, sb_, sc_]
      rfl
    refine pure_ (i := 1) (N := (some 26)) (v := ?_) (a' := ?_) (bz 20 3) rfl rfl (by kernel_rfl) (fun _ _ _ h => h) (Or.inl ⟨by rfl, ?_⟩) ?_ ?_
    rotate_left
    · intro w'
      go_simp
      with_reducible rfl
    rotate_left
    · simp only [Act.put, sa_, sb_, sc_]
      rfl
    refine pure_ (i := 2) (N := (some 27)) (v := ?_) (a' := ?_) (bz 20 7) rfl rfl (by kernel_rfl) (fun _ _ _ h => h) (Or.inl ⟨by rfl, ?_⟩) ?_ ?_
    rotate_left
    · intro w'
      go_simp
      with_reducible rfl
    rotate_left
    · simp only [Act.put, sa_, sb_, sc_]
      rfl
    refine pure_ (i := 3) (N := (some 28)) (v := ?_) (a' := ?_) (bz 20 15) rfl rfl (by kernel_rfl) (fun _ _ _ h => h) (Or.inl ⟨by rfl, ?_⟩) ?_ ?_
    rotate_left
    · intro w'
      go_simp
      with_reducible rfl
    rotate_left
    · simp only [Act.put, sa_, sb_, sc_]
      rfl
    refine pure_ (i := 4) (N := (some 29)) (v := ?_) (a' := ?_) (bz 20 31) rfl rfl (by kernel_rfl) (fun _ _ _ h => h) (Or.inl ⟨by rfl, ?_⟩) ?_ ?_
    rotate_left
    · intro w'
      go_simp
      with_reducible rfl
    rotate_left
    · simp only [Act.put, sa_, sb_, sc_]
      rfl
    refine pure_ (i := 6) (N := (some 31)) (v := ?_) (a' := ?_) (bz 20 95) rfl rfl (by kernel_rfl) (fun _ _ _ h => h) (Or.inl ⟨by rfl, ?_⟩) ?_ ?_
    rotate_left
    · intro w'
      go_simp
      with_reducible rfl
    rotate_left
    · simp only [Act.put, sa_, sb_, sc_]
      rfl
    refine pure_ (i := 8) (N := (some 33)) (v := ?_) (a' := ?_) (bz 20 351) rfl rfl (by kernel_rfl) (fun _ _ _ h => h) (Or.inl ⟨by rfl, ?_⟩) ?_ ?_
    rotate_left
    · intro w'
      go_simp
      with_reducible rfl
    rotate_left
    · simp only [Act.put, sa_, sb_, sc_]
      rfl
    refine pure_ (i := 9) (N := (some 34)) (v := ?_) (a' := ?_) (bz 20 863) rfl rfl (by kernel_rfl) (fun _ _ _ h => h) (Or.inl ⟨by rfl, ?_⟩) ?_ ?_
    rotate_left
    · intro w'
      go_simp
      with_reducible rfl
    rotate_left
    · simp only [Act.put, sa_, sb_, sc_]
      rfl
    refine pure_ (i := 10) (N := (some 35)) (v := ?_) (a' := ?_) (bz 20 1887) rfl rfl (by kernel_rfl) (fun _ _ _ h => h) (Or.inl ⟨by rfl, ?_⟩) ?_ ?_
    rotate_left
    · intro w'
      go_simp
      with_reducible rfl
    rotate_left
    · simp only [Act.put, sa_, sb_, sc_]
      rfl
    refine pure_ (i := 12) (N := (some 37)) (v := ?_) (a' := ?_) (bz 20 5983) rfl rfl (by kernel_rfl) (fun _ _ _ h => h) (Or.inl ⟨by rfl, ?_⟩) ?_ ?_
    rotate_left
    · intro w'
      go_simp
      with_reducible rfl
    rotate_left
    · simp only [Act.put, sa_, sb_, sc_]
      rfl
    refine take_ (i := 5) (N := (some 30)) (v := ?_) (a' := ?_) (bz 20 6015) rfl rfl (by kernel_rfl) (fun _ _ _ h => h) (Or.inl ⟨by rfl, ?_⟩) hHeld ?_ ?_
    rotate_left
    · rintro w' ⟨s0, s1⟩
      go_simp
      with_reducible rfl
    rotate_left
    · simp only [Act.put, sa_, sb_, sc_]
      rfl
    refine pure_ (i := 7) (N := (some 32)) (v := ?_) (a' := ?_) (bz 20 6143) rfl rfl (by kernel_rfl) (fun _ _ _ h => h) (Or.inl ⟨by rfl, ?_⟩) ?_ ?_
    rotate_left
    · intro w'
      go_simp
      with_reducible rfl
    rotate_left
    · simp only [Act.put, sa_, sb_, sc_]
      rfl
    refine take_ (i := 11) (N := (some 36)) (v := ?_) (a' := ?_) (bz 20 8191) rfl rfl (by kernel_rfl) (fun _ _ _ h => h) (Or.inl ⟨by rfl, ?_⟩) hHeld ?_ ?_
    rotate_left
    · rintro w' ⟨s0, s1⟩
      go_simp
      with_reducible rfl
    rotate_left
    · simp only [Act.put, sa_, sb_, sc_]
      rfl
    refine pure_ (i := 13) (N := (some 38)) (v := ?_) (a' := ?_) (bz 20 16383) rfl rfl (by kernel_rfl) (fun _ _ _ h => h) (Or.inl ⟨by rfl, ?_⟩) ?_ ?_
    rotate_left
    · intro w'
      go_simp
      with_reducible rfl
    rotate_left
    · simp only [Act.put, sa_, sb_, sc_]
      rfl
    refine pure_ (i := 14) (N := (some 39)) (v := ?_) (a' := ?_) (bz 20 32767) rfl rfl (by kernel_rfl) (fun _ _ _ h => h) (Or.inl ⟨by rfl, ?_⟩) ?_ ?_
    rotate_left
    · intro w'
      go_simp
      with_reducible rfl
    rotate_left
    · simp only [Act.put, sa_, sb_, sc_]
      rfl
    refine pure_ (i := 15) (N := (some 40)) (v := ?_) (a' := ?_) (bz 20 65535) rfl rfl (by kernel_rfl) (fun _ _ _ h => h) (Or.inl ⟨by rfl, ?_⟩) ?_ ?_
    rotate_left
    · intro w'
      go_simp
      with_reducible rfl
    rotate_left
    · simp only [Act.put, sa_, sb_, sc_]
      rfl
    refine last_ (i := 16) (N := none) (bz 20 131071) rfl rfl (by kernel_rfl) (by decide) (fun K hK => ?_)
    refine skip_ (w1 := ?_) (by rfl) rfl ?_ ?_
    rotate_left
    · go_simp
      rfl
    refine hK.out _ _ ?_
    clear hK K
    refine pure_ (i := 17) (N := (some 41)) (v := ?_) (a' := ?_) (bz 20 262143) rfl rfl (by kernel_rfl) (fun _ _ _ h => h) (Or.inl ⟨by rfl, ?_⟩) ?_ ?_
    rotate_left
    · intro w'
      go_simp
      with_reducible rfl
    rotate_left
    · simp only [Act.put, sa_, sb_, sc_]
      rfl
    refine pure_ (i := 18) (N := (some 42)) (v := ?_) (a' := ?_) (bz 20 524287) rfl rfl (by kernel_rfl) (fun _ _ _ h => h) (Or.inl ⟨by rfl, ?_⟩) ?_ ?_
    rotate_left
    · intro w'
      go_simp
      with_reducible rfl
    rotate_left
    · simp only [Act.put, sa_, sb_, sc_]
      rfl
    refine last_ (i := 19) (N := none) (bz 20 1048575) rfl rfl (by kernel_rfl) (by decide) (fun K hK => ?_)
    refine skip_ (w1 := ?_) (by rfl) rfl ?_ ?_
    rotate_left
    · go_simp
      rfl
    refine hK.out _ _ ?_
    clear hK K
    refine done_ (by kernel_rfl) ?_
    go_end0
    have htk := HTK.out
    have hwf := h1.wf
    have hS : freeS m o = .go { m with taken := tk, arena := m.arena.take i, left := m.left.take i } := by
      unfold freeS
      rw [hq]
      simp only
      rw [← htk]
    rw [hS]
    clear hS HTK htk
    refine ⟨((hb5.setCell h1.mb0 hM5.own _).setCell h1.mb0 (hM5.set 2 _).own _).drew, rfl, MA.drew ⟨⟨_, _, _, _, _, _, _, ((hR5.mach hM5 2 _).mach (hM5.set 2 _) 3 _).cut i (Nat.le_of_lt hi) (Nat.le_of_lt hil), (hM5.set 2 _).set 3 _⟩, h1.mb0, ?_⟩⟩
    have hal := hwf.al
    exact {
      vl := hwf.vl
      vr := hwf.vr
      tk := by have := hwf.tk; exact ⟨hlr.1, hlr.2, this.2.2⟩
      st := hwf.st
      ob := fun x hx => by
        rcases List.mem_append.1 hx with h2 | h2
        · exact hwf.ob x (List.mem_append_left _ h2)
        · exact hwf.ob x (List.mem_append_right _ (List.mem_of_mem_take h2))
      al := by simp only [List.length_take]; omega
      lf := fun t ht => hwf.lf t (List.mem_of_mem_take ht)
      am := by have := hwf.am; simp only [List.length_take]; omega
      tm := hwf.tm }
end Go.Proofs.YtoabiignjkcdmaaGreat
