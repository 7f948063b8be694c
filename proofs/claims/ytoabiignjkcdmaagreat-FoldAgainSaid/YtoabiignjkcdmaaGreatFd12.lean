/-
  Lemmas (texts RunO9 RunS), each proved without a condition beyond its own hypotheses.
-/
import Derived.Test.YtoabiignjkcdmaaGreatFd11
import Derived.Test.YtoabiignjkcdmaaGreatFd5
import Derived.Deep.OwnRows
namespace Go.Proofs.YtoabiignjkcdmaaGreat
open Go.RowKit Go.Proofs.YtoabiignjkcdmaaGreatW.PrintLast
set_option linter.unusedVariables false
set_option linter.unusedSimpArgs false

theorem infoU8 : (Tryz.prog.info? 5).map (fun i => (i.zero, i.size, i.bytes)) = some (some (.int .u8 0), 1, 1) := by kernel_rfl
theorem infoI64 : (Tryz.prog.info? 3).map (fun i => (i.zero, i.size, i.bytes)) = some (some (.int .i64 0), 1, 8) := by kernel_rfl
theorem infoObj : (Tryz.prog.info? 85).map (fun i => (i.zero, i.size, i.bytes)) = some (some (.agg #[.int .u64 0, .slice none 0 0, .bool false, .bool false]), 4, 40) := by kernel_rfl
theorem made_row {w : World} {B g : Nat} (n : Nat) (hg : B ≤ g) (h : w.heap[g]? = some (.cells (madeCells #[.int .u8 0] n) 5)) : ByRow w B (.slice (some ⟨g, 0, none⟩) n n) (List.replicate n 0) := by
  refine ⟨g, n, madeCells #[.int .u8 0] n, 0, 0, by simp, hg, h, .inr rfl, fun j hj => ?_⟩
  simp only [List.length_replicate] at hj
  simp [madeCells, hj, Nat.mod_one]
set_option maxRecDepth 100000 in
set_option maxHeartbeats 4000000 in
theorem alloc_c (o : SOp) (m : SM) (w : World) (base B2 mb nv : Nat) (h : MA w base B2 mb nv m) (ha0 : 0 ≤ o.a) (ha1 : o.a < nv) (hd0 : 0 ≤ o.d) (hd1 : o.d < nv) (hfn : 0 ≤ o.fn ∧ o.fn < 256) (hst : (m.arena.length : Int) < m.steps) :
    Calls Tryz.prog 90 #[.pointer (some ⟨mb, 0, none⟩), o.val] w (OpPost w base B2 mb nv (allocS m o)) := by
  obtain ⟨w1, hw1, h1, hbA, BO, hBase⟩ := op_begin (o := o) h
  unfold SOp.val
  go_enter Tryz.func90, Tryz.ntmps90
  go_upto_region 1 with (fail)
  rw [← hw1]
  clear hw1
  obtain ⟨vv, hv, av, lv, tv, hbs, abs, hR, hM⟩ := h1.ex
  obtain ⟨g, c, rfl, hg0, hg1, hc, hf⟩ := hR.v_open h1.wf (by omega)
  have hra := get_range h.wf ha0 ha1
  obtain ⟨nn, hnn⟩ := Int.eq_ofNat_of_zero_le hra.1
  have CO := BO.cell
  have CM := hM.cell
  have ca := hc o.a ha0 ha1
  rw [hnn] at ca
  clear hf hc
  go_region
  have HRM := Lib.hid (room_c (nn : Int) (by omega) (by omega) m w1.drew mb nv _ _ _ _ _ hM.drew h1.wf)
  clear CO CM ca
  cases hrm : roomB m (nn : Int) with
  | false =>
    rw [hrm] at HRM
    go_wp2_with (go_at_call 95; refine HRM.out.mono ?_; rintro e w2 ⟨rfl, rfl⟩)
    refine (trap_c 3 m _ base B2 mb nv h1.drew.drew).mono ?_
    rintro e w2 ⟨hb2, rfl, h2⟩
    go_wp2_with fail
    have hS : allocS m o = trapS m 3 := by
      unfold allocS
      rw [hnn, hrm, if_neg (by decide)]
    rw [hS]
    exact ⟨rfl, hbA.drew.drew.trans hb2, rfl, h2⟩
  | true =>
    rw [hrm] at HRM
    go_upto_region 4 with (go_at_call 95; refine HRM.out.mono ?_; rintro e w2 ⟨rfl, rfl⟩)
    obtain ⟨W, hW⟩ : ∃ W, W = w1.drew.drew := ⟨_, rfl⟩
    have hbW : Fr base w W := by rw [hW]; exact hbA.drew.drew
    have hRW : MRows W base B2 m (.slice (some ⟨g, 0, none⟩) nv c) hv av lv tv hbs abs := by rw [hW]; exact hR.drew.drew
    have hMW : Bk W mb (mC m (.slice (some ⟨g, 0, none⟩) nv c) hv av lv tv) 81 := by rw [hW]; exact hM.drew.drew
    have BOW : Bk W w.heap.size (opA o) 54 := by rw [hW]; exact BO.drew.drew
    rw [← hW]
    clear hW HRM hR hM BO hbA hg1
    have hwf := h1.wf
    have hmb := h1.mb0
    clear h1 h
    have htk := hwf.tk
    have hstt := hwf.st
    have hnn6 : (nn : Int) ≤ 65536 := by
      unfold roomB at hrm
      simp only [decide_eq_true_eq] at hrm
      unfold eights at hrm
      omega
    obtain ⟨wa, hwa⟩ : ∃ wa, wa = W.drew.alloc (.cells (madeCells #[.int .u8 0] nn) 5) := ⟨_, rfl⟩
    have hba : Below W.heap.size W wa := by rw [hwa]; exact (Below.refl W.heap.size W).drew.alloc (Nat.le_refl _) _
    have sa : wa.heap.size = W.heap.size + 1 := by rw [hwa]; simp
    have bya : ByRow wa B2 (.slice (some ⟨W.heap.size, 0, none⟩) nn nn) (List.replicate nn 0) := made_row nn hRW.sz (by rw [hwa]; exact Bk.new W.drew _ _)
    have HMK := run_make_row' (P := Tryz.prog) 83 5 (.int .u8 0) 1 Tryz.underlying83 infoU8 rfl .u64 .u64 nn (by omega) (by omega) W.drew
    obtain ⟨x, hx⟩ : ∃ x : SObj, x = ⟨IntKind.u64.wrap (268435456 + IntKind.u64.wrap m.taken), List.replicate nn 0, o.fn == 1, false⟩ := ⟨_, rfl⟩
    have hpv : IntKind.u64.wrap (268435456 + IntKind.u64.wrap m.taken) = arenaBase + m.taken := by
      rw [IntKind.wrap_u64, IntKind.wrap_u64]
      unfold arenaBase
      omega
    obtain ⟨wb, hwb⟩ : ∃ wb, wb = wa.alloc (.cells #[.int .u64 (IntKind.u64.wrap (268435456 + IntKind.u64.wrap m.taken)), .slice (some ⟨W.heap.size, 0, none⟩) nn nn, .bool (o.fn == 1), .bool false] 85) := ⟨_, rfl⟩
    have hbb : Below wa.heap.size wa wb := by rw [hwb]; exact (Below.refl wa.heap.size wa).alloc (Nat.le_refl _) _
    have hNB : Bk wb wa.heap.size #[.int .u64 (IntKind.u64.wrap (268435456 + IntKind.u64.wrap m.taken)), .slice (some ⟨W.heap.size, 0, none⟩) nn nn, .bool (o.fn == 1), .bool false] 85 := by rw [hwb]; exact Bk.new wa _ _
    have hbWb : Below W.heap.size W wb := hba.trans (hbb.mono hba.size)
    have hRb := hRW.below hbWb
    have hMb := hMW.mono hbWb
    have BOb := BOW.mono hbWb
    have byb : ByRow wb B2 (.slice (some ⟨W.heap.size, 0, none⟩) nn nn) (List.replicate nn 0) := bya.kept (grown_of_below hbb none) fun g e => by cases e
    obtain ⟨i0, hi, hz0, hz1, hz2⟩ := info_parts infoObj
    have HPOST : ∀ av' w3, w3.ownsRow B2 85 4 av' (m.arena.length + 1) (objsC m.arena abs ++ objC x (.slice (some ⟨W.heap.size, 0, none⟩) nn nn)) → wb.grownBy w3 av.ownBlock →
        MRows w3 base B2 { m with arena := m.arena ++ [x] } (.slice (some ⟨g, 0, none⟩) nv c) hv av' lv tv hbs (abs ++ [.slice (some ⟨W.heap.size, 0, none⟩) nn nn]) ∧ Bk w3 mb (mC m (.slice (some ⟨g, 0, none⟩) nv c) hv av lv tv) 81 ∧ Bk w3 w.heap.size (opA o) 54 ∧ Fr base w w3 := by
      intro av' w3 ho hg
      have hR3 := hRb.add_a x (.slice (some ⟨W.heap.size, 0, none⟩) nn nn) av' hg ho (by rw [hx]; exact byb) (fun b hb k e1 e2 => by
        obtain ⟨j, hj, rfl⟩ := List.getElem_of_mem hb
        have h2 := (hRW.ab j (by rw [← hRW.al]; exact hj) hj).lt k e1
        simp only [Value.ownBlock, Option.some.injEq] at e2
        omega)
      have hoM := (hRb.other hMb (by decide) (by decide) (by decide) (by decide)).2.2.1
      have hoO := (hRb.other BOb (by decide) (by decide) (by decide) (by decide)).2.2.1
      refine ⟨hR3, ?_, ?_, ?_⟩
      · show w3.heap[mb]? = _
        rw [hg.block mb hMb.lt (fun e => hoM e.symm)]
        exact hMb
      · show w3.heap[w.heap.size]? = _
        rw [hg.block w.heap.size BOb.lt (fun e => hoO e.symm)]
        exact BOb
      · refine (hbW.of hbWb (Nat.le_trans hRW.le hRW.sz)).grown hg (Nat.le_trans hRb.le hRb.sz) fun k e => ⟨?_, own_oO hRb.a e⟩
        have := own_from hRb.a k e
        have := hRW.le
        omega
    have HP := Lib.hid HPOST
    clear HPOST
    have CS : ∀ V, Below W.heap.size W V → V.cell? ⟨mb, 2, none⟩ = some (av) ∧ V.cell? ⟨mb, 4, none⟩ = some (.int .i64 m.taken) ∧ V.cell? ⟨w.heap.size, 1, none⟩ = some (.int .u8 o.fn) :=
      fun V hV => ⟨cm (hMW.cell 2) hV, cm (hMW.cell 4) hV, cm (BOW.cell 1) hV⟩
    have HCS := Lib.hid CS
    clear CS
    refine start_ (n := 22) (S := fun w' => w'.cell? ⟨mb, 2, none⟩ = some (av) ∧ w'.cell? ⟨mb, 4, none⟩ = some (.int .i64 m.taken) ∧ w'.cell? ⟨w.heap.size, 1, none⟩ = some (.int .u8 o.fn)) (ds := [21]) (bz 22 0) (by kernel_rfl) rfl rfl (HCS.out _ (Below.refl _ _).drew) (fun hHeld => ?_)
    refine pure_ (i := 0) (N := (some 19)) (v := ?_) (a' := ?_) (bz 22 1) rfl rfl (by kernel_rfl) (fun _ _ _ h => h) (Or.inl ⟨by rfl, ?_⟩) ?_ ?_
    rotate_left
    · intro w'
      go_simp
      with_reducible rfl
    rotate_left
    · simp only [Act.put, sa_, sb_, sc_]
      rfl
    refine pure_ (i := 1) (N := (some 20)) (v := ?_) (a' := ?_) (bz 22 3) rfl rfl (by kernel_rfl) (fun _ _ _ h => h) (Or.inl ⟨by rfl, ?_⟩) ?_ ?_
    rotate_left
    · intro w'
      go_simp
      with_reducible rfl
    rotate_left
    · simp only [Act.put, sa_, sb_, sc_]
      rfl
    refine pure_ (i := 2) (N := (some 21)) (v := ?_) (a' := ?_) (bz 22 7) rfl rfl (by kernel_rfl) (fun _ _ _ h => h) (Or.inl ⟨by rfl, ?_⟩) ?_ ?_
    rotate_left
    · intro w'
      go_simp
      with_reducible rfl
    rotate_left
    · simp only [Act.put, sa_, sb_, sc_]
      rfl
    refine pure_ (i := 3) (N := (some 22)) (v := ?_) (a' := ?_) (bz 22 15) rfl rfl (by kernel_rfl) (fun _ _ _ h => h) (Or.inl ⟨by rfl, ?_⟩) ?_ ?_
    rotate_left
    · intro w'
      go_simp
      with_reducible rfl
    rotate_left
    · simp only [Act.put, sa_, sb_, sc_]
      rfl
    refine pure_ (i := 5) (N := (some 24)) (v := ?_) (a' := ?_) (bz 22 47) rfl rfl (by kernel_rfl) (fun _ _ _ h => h) (Or.inl ⟨by rfl, ?_⟩) ?_ ?_
    rotate_left
    · intro w'
      go_simp
      with_reducible rfl
    rotate_left
    · simp only [Act.put, sa_, sb_, sc_]
      rfl
    refine pure_ (i := 6) (N := (some 25)) (v := ?_) (a' := ?_) (bz 22 111) rfl rfl (by kernel_rfl) (fun _ _ _ h => h) (Or.inl ⟨by rfl, ?_⟩) ?_ ?_
    rotate_left
    · intro w'
      go_simp
      with_reducible rfl
    rotate_left
    · simp only [Act.put, sa_, sb_, sc_]
      rfl
    refine pure_ (i := 7) (N := (some 26)) (v := ?_) (a' := ?_) (bz 22 239) rfl rfl (by kernel_rfl) (fun _ _ _ h => h) (Or.inl ⟨by rfl, ?_⟩) ?_ ?_
    rotate_left
    · intro w'
      go_simp
      with_reducible rfl
    rotate_left
    · simp only [Act.put, sa_, sb_, sc_]
      rfl
    refine pure_ (i := 11) (N := (some 30)) (v := ?_) (a' := ?_) (bz 22 2287) rfl rfl (by kernel_rfl) (fun _ _ _ h => h) (Or.inl ⟨by rfl, ?_⟩) ?_ ?_
    rotate_left
    · intro w'
      go_simp
      with_reducible rfl
    rotate_left
    · simp only [Act.put, sa_, sb_, sc_]
      rfl
    refine pure_ (i := 13) (N := (some 32)) (v := ?_) (a' := ?_) (bz 22 10479) rfl rfl (by kernel_rfl) (fun _ _ _ h => h) (Or.inl ⟨by rfl, ?_⟩) ?_ ?_
    rotate_left
    · intro w'
      go_simp
      with_reducible rfl
    rotate_left
    · simp only [Act.put, sa_, sb_, sc_]
      rfl
    refine take_ (i := 4) (N := (some 23)) (v := ?_) (a' := ?_) (bz 22 10495) rfl rfl (by kernel_rfl) (fun _ _ _ h => h) (Or.inl ⟨by rfl, ?_⟩) hHeld ?_ ?_
    rotate_left
    · rintro w' ⟨s0, s1, s2⟩
      go_simp
      with_reducible rfl
    rotate_left
    · simp only [Act.put, sa_, sb_, sc_]
      rfl
    refine take_ (i := 8) (N := (some 27)) (v := ?_) (a' := ?_) (bz 22 10751) rfl rfl (by kernel_rfl) (fun _ _ _ h => h) (Or.inl ⟨by rfl, ?_⟩) hHeld ?_ ?_
    rotate_left
    · rintro w' ⟨s0, s1, s2⟩
      go_simp
      with_reducible rfl
    rotate_left
    · simp only [Act.put, sa_, sb_, sc_]
      rfl
    refine pure_ (i := 9) (N := (some 28)) (v := ?_) (a' := ?_) (bz 22 11263) rfl rfl (by kernel_rfl) (fun _ _ _ h => h) (Or.inl ⟨by rfl, ?_⟩) ?_ ?_
    rotate_left
    · intro w'
      go_simp
      with_reducible rfl
    rotate_left
    · simp only [Act.put, sa_, sb_, sc_]
      rfl
    refine pure_ (i := 10) (N := (some 29)) (v := ?_) (a' := ?_) (bz 22 12287) rfl rfl (by kernel_rfl) (fun _ _ _ h => h) (Or.inl ⟨by rfl, ?_⟩) ?_ ?_
    rotate_left
    · intro w'
      go_simp
      with_reducible rfl
    rotate_left
    · simp only [Act.put, sa_, sb_, sc_]
      rfl
    refine take_ (i := 14) (N := (some 33)) (v := ?_) (a' := ?_) (bz 22 28671) rfl rfl (by kernel_rfl) (fun _ _ _ h => h) (Or.inl ⟨by rfl, ?_⟩) hHeld ?_ ?_
    rotate_left
    · rintro w' ⟨s0, s1, s2⟩
      go_simp
      with_reducible rfl
    rotate_left
    · simp only [Act.put, sa_, sb_, sc_]
      rfl
    refine pure_ (i := 15) (N := (some 34)) (v := ?_) (a' := ?_) (bz 22 61439) rfl rfl (by kernel_rfl) (fun _ _ _ h => h) (Or.inl ⟨by rfl, ?_⟩) ?_ ?_
    rotate_left
    · intro w'
      go_simp
      with_reducible rfl
    rotate_left
    · simp only [Act.put, sa_, sb_, sc_]
      rfl
    refine one_ (i := 12) (N := (some 31)) (bz 22 65535) rfl rfl (by kernel_rfl) (by decide) (fun K hK => ?_)
    refine value_ (v := .slice (some ⟨W.heap.size, 0, none⟩) nn nn) (w1 := wa) (by rfl) rfl ?_ ?_
    · rw [hwa]
      go_simp
    refine hK.out _ _ (HCS.out _ hba) (fun hHeld => ?_)
    clear hK K
    refine norm_ (a' := ?_) ?_ ?_
    rotate_left
    · show Act.put _ (some 31) _ = _
      simp only [Act.put, sa_, sb_, sc_]
      rfl
    refine pure_ (i := 16) (N := (some 35)) (v := ?_) (a' := ?_) (bz 22 131071) rfl rfl (by kernel_rfl) (fun _ _ _ h => h) (Or.inl ⟨by rfl, ?_⟩) ?_ ?_
    rotate_left
    · intro w'
      go_simp
      with_reducible rfl
    rotate_left
    · simp only [Act.put, sa_, sb_, sc_]
      rfl
    refine one_ (i := 17) (N := (some 36)) (bz 22 262143) rfl rfl (by kernel_rfl) (by decide) (fun K hK => ?_)
    refine value_ (v := .slice (some ⟨wa.heap.size, 0, none⟩) 1 1) (w1 := wb) (by rfl) rfl ?_ ?_
    · rw [hwb]
      go_simp
    refine hK.out _ _ (HCS.out _ hbWb) (fun hHeld => ?_)
    clear hK K
    refine norm_ (a' := ?_) ?_ ?_
    rotate_left
    · show Act.put _ (some 36) _ = _
      simp only [Act.put, sa_, sb_, sc_]
      rfl
    refine one_ (i := 18) (N := (some 37)) (bz 22 524287) rfl rfl (by kernel_rfl) (by decide) (fun K hK => ?_)
    refine step_append_lies _ rfl _ _ 78 (by rfl) B2 85 i0 (.agg #[.int .u64 0, .slice none 0 0, .bool false, .bool false]) 4 40 Tryz.underlying78 hi hz0 hz1 hz2 rfl (by decide) av m.arena.length (objsC m.arena abs) (by rfl) hRb.a ⟨wa.heap.size, 0, none⟩ 1 1 (objC x (.slice (some ⟨W.heap.size, 0, none⟩) nn nn)) (by rfl) rfl (fun j u hu => ?_) (by simp [objC, Value.oneCell']) (by decide) (by unfold maxLen; omega) (by omega) hRb.sz _ rfl ?_
    · rw [hx] at hu
      exact World.news_of_block hNB j u hu
    intro ga cap w3 ho hgr _ _
    obtain ⟨hR3, hM3, BO3, hb3⟩ := HP.out _ _ ho hgr
    refine hK.out _ _ ⟨hM3.cell 2, hM3.cell 4, BO3.cell 1⟩ (fun hHeld => ?_)
    clear hK K
    have fM3 := hM3.free
    have cM3 := hM3.cell 2
    refine norm_ (a' := ?_) ?_ ?_
    rotate_left
    · show Act.put _ (some 37) _ = _
      simp only [Act.put, sa_, sb_, sc_]
      rfl
    refine pure_ (i := 19) (N := (some 38)) (v := ?_) (a' := ?_) (bz 22 1048575) rfl rfl (by kernel_rfl) (fun _ _ _ h => h) (Or.inl ⟨by rfl, ?_⟩) ?_ ?_
    rotate_left
    · intro w'
      go_simp
      with_reducible rfl
    rotate_left
    · simp only [Act.put, sa_, sb_, sc_]
      rfl
    refine pure_ (i := 20) (N := (some 39)) (v := ?_) (a' := ?_) (bz 22 2097151) rfl rfl (by kernel_rfl) (fun _ _ _ h => h) (Or.inl ⟨by rfl, ?_⟩) ?_ ?_
    rotate_left
    · intro w'
      go_simp
      with_reducible rfl
    rotate_left
    · simp only [Act.put, sa_, sb_, sc_]
      rfl
    refine last_ (i := 21) (N := none) (bz 22 4194303) rfl rfl (by kernel_rfl) (by decide) (fun K hK => ?_)
    refine skip_ (w1 := ?_) (by rfl) rfl ?_ ?_
    rotate_left
    · go_simp
      rfl
    refine hK.out _ _ ?_
    clear hK K
    refine done_ (by kernel_rfl) ?_
    obtain ⟨av', hav⟩ : ∃ v : Value, v = .slice (some ⟨ga, 0, none⟩) (m.arena.length + 1) cap := ⟨_, rfl⟩
    rw [← hav] at hR3 ⊢
    obtain ⟨W5, hW5⟩ : ∃ W5, W5 = w3.setCell ⟨mb, 2, none⟩ av' := ⟨_, rfl⟩
    have hR5 : MRows W5 base B2 { m with arena := m.arena ++ [x] } (.slice (some ⟨g, 0, none⟩) nv c) hv av' lv tv hbs (abs ++ [.slice (some ⟨W.heap.size, 0, none⟩) nn nn]) := by rw [hW5]; exact hR3.mach hM3 2 _
    have hM5 : Bk W5 mb (mC { m with arena := m.arena ++ [x] } (.slice (some ⟨g, 0, none⟩) nv c) hv av' lv tv) 81 := by rw [hW5]; exact hM3.set 2 _
    have BO5 : Bk W5 w.heap.size (opA o) 54 := by rw [hW5]; exact BO3.other (bk_ne BO3 hM3 (by decide)) _
    have hb5 : Fr base w W5 := by rw [hW5]; exact hb3.setCell hmb hM3.own _
    rw [← hW5]
    clear hav hW5 hR3 hM3 BO3 hb3 ho hgr fM3 cM3 hHeld HP HCS hRb hMb BOb byb hNB hbb hwb bya hba hwa HMK sa hbWb hRW hMW BOW hbW hi hz0 hz1 hz2
    obtain ⟨i0, hi, hz0, hz1, hz2⟩ := info_parts infoI64
    obtain ⟨wc, hwc⟩ : ∃ wc, wc = W5.drew.alloc (.cells #[.int .i64 m.taken] 3) := ⟨_, rfl⟩
    have hbc : Below W5.heap.size W5 wc := by rw [hwc]; exact (Below.refl W5.heap.size W5).drew.alloc (Nat.le_refl _) _
    have hNB : Bk wc W5.heap.size #[.int .i64 m.taken] 3 := by rw [hwc]; exact Bk.new W5.drew _ _
    have hRb := hR5.below hbc
    have hMb := hM5.mono hbc
    have BOb := BO5.mono hbc
    have hll : (m.left.length : Int) < m.steps := by have := hwf.al; omega
    have HPOST : ∀ lv' w3, w3.ownsRow B2 3 1 lv' (m.left.length + 1) (m.left.map (Value.int .i64) ++ [.int .i64 m.taken]) → wc.grownBy w3 lv.ownBlock →
        MRows w3 base B2 { m with arena := m.arena ++ [x], left := m.left ++ [m.taken] } (.slice (some ⟨g, 0, none⟩) nv c) hv av' lv' tv hbs (abs ++ [.slice (some ⟨W.heap.size, 0, none⟩) nn nn]) ∧ Bk w3 mb (mC { m with arena := m.arena ++ [x] } (.slice (some ⟨g, 0, none⟩) nv c) hv av' lv tv) 81 ∧ Bk w3 w.heap.size (opA o) 54 ∧ Fr base w w3 := by
      intro lv' w3 ho hg
      have hR3 := hRb.add_l m.taken lv' hg ho
      have hoM := (hRb.other hMb (by decide) (by decide) (by decide) (by decide)).2.2.2.1
      have hoO := (hRb.other BOb (by decide) (by decide) (by decide) (by decide)).2.2.2.1
      refine ⟨hR3, ?_, ?_, ?_⟩
      · show w3.heap[mb]? = _
        rw [hg.block mb hMb.lt (fun e => hoM e.symm)]
        exact hMb
      · show w3.heap[w.heap.size]? = _
        rw [hg.block w.heap.size BOb.lt (fun e => hoO e.symm)]
        exact BOb
      · refine (hb5.of hbc (Nat.le_trans hR5.le hR5.sz)).grown hg (Nat.le_trans hRb.le hRb.sz) fun k e => ⟨?_, own_iO hRb.l e⟩
        have := own_from hRb.l k e
        have := hRb.le
        omega
    have HP := Lib.hid HPOST
    clear HPOST
    have CS : ∀ V, Below W5.heap.size W5 V → V.cell? ⟨mb, 3, none⟩ = some (lv) ∧ V.cell? ⟨mb, 4, none⟩ = some (.int .i64 m.taken) :=
      fun V hV => ⟨cm (hM5.cell 3) hV, cm (hM5.cell 4) hV⟩
    have HCS := Lib.hid CS
    clear CS
    go_upto_region 5 with (fail)
    refine start_ (n := 14) (S := fun w' => w'.cell? ⟨mb, 3, none⟩ = some (lv) ∧ w'.cell? ⟨mb, 4, none⟩ = some (.int .i64 m.taken)) (ds := [13]) (bz 14 0) (by kernel_rfl) rfl rfl (HCS.out _ (Below.refl _ _).drew) (fun hHeld => ?_)
    refine pure_ (i := 0) (N := (some 40)) (v := ?_) (a' := ?_) (bz 14 1) rfl rfl (by kernel_rfl) (fun _ _ _ h => h) (Or.inl ⟨by rfl, ?_⟩) ?_ ?_
    rotate_left
    · intro w'
      go_simp
      with_reducible rfl
    rotate_left
    · simp only [Act.put, sa_, sb_, sc_]
      rfl
    refine pure_ (i := 1) (N := (some 41)) (v := ?_) (a' := ?_) (bz 14 3) rfl rfl (by kernel_rfl) (fun _ _ _ h => h) (Or.inl ⟨by rfl, ?_⟩) ?_ ?_
    rotate_left
    · intro w'
      go_simp
      with_reducible rfl
    rotate_left
    · simp only [Act.put, sa_, sb_, sc_]
      rfl
    refine pure_ (i := 2) (N := (some 42)) (v := ?_) (a' := ?_) (bz 14 7) rfl rfl (by kernel_rfl) (fun _ _ _ h => h) (Or.inl ⟨by rfl, ?_⟩) ?_ ?_
    rotate_left
    · intro w'
      go_simp
      with_reducible rfl
    rotate_left
    · simp only [Act.put, sa_, sb_, sc_]
      rfl
    refine pure_ (i := 3) (N := (some 43)) (v := ?_) (a' := ?_) (bz 14 15) rfl rfl (by kernel_rfl) (fun _ _ _ h => h) (Or.inl ⟨by rfl, ?_⟩) ?_ ?_
    rotate_left
    · intro w'
      go_simp
      with_reducible rfl
    rotate_left
    · simp only [Act.put, sa_, sb_, sc_]
      rfl
    refine pure_ (i := 5) (N := (some 45)) (v := ?_) (a' := ?_) (bz 14 47) rfl rfl (by kernel_rfl) (fun _ _ _ h => h) (Or.inl ⟨by rfl, ?_⟩) ?_ ?_
    rotate_left
    · intro w'
      go_simp
      with_reducible rfl
    rotate_left
    · simp only [Act.put, sa_, sb_, sc_]
      rfl
    refine pure_ (i := 6) (N := (some 46)) (v := ?_) (a' := ?_) (bz 14 111) rfl rfl (by kernel_rfl) (fun _ _ _ h => h) (Or.inl ⟨by rfl, ?_⟩) ?_ ?_
    rotate_left
    · intro w'
      go_simp
      with_reducible rfl
    rotate_left
    · simp only [Act.put, sa_, sb_, sc_]
      rfl
    refine pure_ (i := 7) (N := (some 47)) (v := ?_) (a' := ?_) (bz 14 239) rfl rfl (by kernel_rfl) (fun _ _ _ h => h) (Or.inl ⟨by rfl, ?_⟩) ?_ ?_
    rotate_left
    · intro w'
      go_simp
      with_reducible rfl
    rotate_left
    · simp only [Act.put, sa_, sb_, sc_]
      rfl
    refine take_ (i := 4) (N := (some 44)) (v := ?_) (a' := ?_) (bz 14 255) rfl rfl (by kernel_rfl) (fun _ _ _ h => h) (Or.inl ⟨by rfl, ?_⟩) hHeld ?_ ?_
    rotate_left
    · rintro w' ⟨s0, s1⟩
      go_simp
      with_reducible rfl
    rotate_left
    · simp only [Act.put, sa_, sb_, sc_]
      rfl
    refine take_ (i := 8) (N := (some 48)) (v := ?_) (a' := ?_) (bz 14 511) rfl rfl (by kernel_rfl) (fun _ _ _ h => h) (Or.inl ⟨by rfl, ?_⟩) hHeld ?_ ?_
    rotate_left
    · rintro w' ⟨s0, s1⟩
      go_simp
      with_reducible rfl
    rotate_left
    · simp only [Act.put, sa_, sb_, sc_]
      rfl
    refine one_ (i := 9) (N := (some 49)) (bz 14 1023) rfl rfl (by kernel_rfl) (by decide) (fun K hK => ?_)
    refine value_ (v := .slice (some ⟨W5.heap.size, 0, none⟩) 1 1) (w1 := wc) (by rfl) rfl ?_ ?_
    · rw [hwc]
      go_simp
    refine hK.out _ _ (HCS.out _ hbc) (fun hHeld => ?_)
    clear hK K
    refine norm_ (a' := ?_) ?_ ?_
    rotate_left
    · show Act.put _ (some 49) _ = _
      simp only [Act.put, sa_, sb_, sc_]
      rfl
    refine one_ (i := 10) (N := (some 50)) (bz 14 2047) rfl rfl (by kernel_rfl) (by decide) (fun K hK => ?_)
    refine step_append_lies _ rfl _ _ 79 (by rfl) B2 3 i0 (.int .i64 0) 1 8 Tryz.underlying79 hi hz0 hz1 hz2 rfl (by decide) lv m.left.length (m.left.map (Value.int .i64)) (by rfl) hRb.l ⟨W5.heap.size, 0, none⟩ 1 1 [.int .i64 m.taken] (by rfl) rfl (fun j u hu => ?_) (by simp [Value.oneCell']) (by decide) (by unfold maxLen; omega) (by omega) hRb.sz _ rfl ?_
    · exact World.news_of_block hNB j u hu
    intro gl cap2 w6 ho hgr _ _
    obtain ⟨hR3, hM3, BO3, hb3⟩ := HP.out _ _ ho hgr
    refine hK.out _ _ ⟨hM3.cell 3, hM3.cell 4⟩ (fun hHeld => ?_)
    clear hK K
    have fM3 := hM3.free
    have cM3 := hM3.cell 3
    refine norm_ (a' := ?_) ?_ ?_
    rotate_left
    · show Act.put _ (some 50) _ = _
      simp only [Act.put, sa_, sb_, sc_]
      rfl
    refine pure_ (i := 11) (N := (some 51)) (v := ?_) (a' := ?_) (bz 14 4095) rfl rfl (by kernel_rfl) (fun _ _ _ h => h) (Or.inl ⟨by rfl, ?_⟩) ?_ ?_
    rotate_left
    · intro w'
      go_simp
      with_reducible rfl
    rotate_left
    · simp only [Act.put, sa_, sb_, sc_]
      rfl
    refine pure_ (i := 12) (N := (some 52)) (v := ?_) (a' := ?_) (bz 14 8191) rfl rfl (by kernel_rfl) (fun _ _ _ h => h) (Or.inl ⟨by rfl, ?_⟩) ?_ ?_
    rotate_left
    · intro w'
      go_simp
      with_reducible rfl
    rotate_left
    · simp only [Act.put, sa_, sb_, sc_]
      rfl
    refine last_ (i := 13) (N := none) (bz 14 16383) rfl rfl (by kernel_rfl) (by decide) (fun K hK => ?_)
    refine skip_ (w1 := ?_) (by rfl) rfl ?_ ?_
    rotate_left
    · go_simp
      rfl
    refine hK.out _ _ ?_
    clear hK K
    refine done_ (by kernel_rfl) ?_
    obtain ⟨lv', hlv⟩ : ∃ v : Value, v = .slice (some ⟨gl, 0, none⟩) (m.left.length + 1) cap2 := ⟨_, rfl⟩
    rw [← hlv] at hR3 ⊢
    obtain ⟨W6, hW6⟩ : ∃ W6, W6 = w6.setCell ⟨mb, 3, none⟩ lv' := ⟨_, rfl⟩
    have hR6 : MRows W6 base B2 { m with arena := m.arena ++ [x], left := m.left ++ [m.taken] } (.slice (some ⟨g, 0, none⟩) nv c) hv av' lv' tv hbs (abs ++ [.slice (some ⟨W.heap.size, 0, none⟩) nn nn]) := by rw [hW6]; exact hR3.mach hM3 3 _
    have hM6 : Bk W6 mb (mC { m with arena := m.arena ++ [x], left := m.left ++ [m.taken] } (.slice (some ⟨g, 0, none⟩) nv c) hv av' lv' tv) 81 := by rw [hW6]; exact hM3.set 3 _
    have BO6 : Bk W6 w.heap.size (opA o) 54 := by rw [hW6]; exact BO3.other (bk_ne BO3 hM3 (by decide)) _
    have hb6 : Fr base w W6 := by rw [hW6]; exact hb3.setCell hmb hM3.own _
    rw [← hW6]
    clear hlv hW6 hR3 hM3 BO3 hb3 ho hgr fM3 cM3 hHeld HP HCS hRb hMb BOb hNB hwc hbc hR5 hM5 BO5 hb5 hi hz0 hz1 hz2
    have hwf6 : MWf { m with arena := m.arena ++ [x], left := m.left ++ [m.taken] } nv := {
      vl := hwf.vl
      vr := hwf.vr
      tk := hwf.tk
      st := hwf.st
      ob := fun y hy => by
        rw [← List.append_assoc] at hy
        rcases List.mem_append.1 hy with h2 | h2
        · exact hwf.ob y h2
        · obtain rfl : y = x := by simpa using h2
          rw [hx, hpv]
          refine ⟨?_, ?_, ?_, fun c hc => ?_⟩
          · show 0 ≤ arenaBase + m.taken
            unfold arenaBase
            omega
          · show arenaBase + m.taken < _
            unfold arenaBase
            omega
          · simp only [List.length_replicate]
            omega
          · obtain ⟨_, rfl⟩ := List.mem_replicate.1 hc
            omega
      al := by have := hwf.al; simp only [List.length_append, List.length_cons, List.length_nil]; omega
      lf := fun t ht => by
        rcases List.mem_append.1 ht with h2 | h2
        · exact hwf.lf t h2
        · obtain rfl : t = m.taken := by simpa using h2
          exact ⟨htk.1, htk.2.1⟩
      am := by simp only [List.length_append, List.length_cons, List.length_nil]; omega
      tm := hwf.tm }
    obtain ⟨g', c', e', _, _, hc6, hf6⟩ := hR6.v_open hwf6 (by omega)
    cases e'
    have CO := BO6.cell
    have CM := hM6.cell
    have cd := hc6 o.d hd0 hd1
    have fd := hf6 o.d.toNat
    clear hc6 hf6
    go_upto_region 6 with (fail)
    go_region
    go_upto_region 7 with (fail)
    have hMA := (hR6.put hM6 hmb hwf6 o.d (268435456 + m.taken) hd0 hd1 (by omega) (by omega)).drew
    obtain ⟨W7, hW7⟩ : ∃ W7, W7 = (W6.setCell ⟨g, o.d.toNat, none⟩ (.int .u64 (268435456 + m.taken))).drew := ⟨_, rfl⟩
    have hb7 : Fr base w W7 := by rw [hW7]; exact (hb6.setCell hg0 hR6.vO _).drew
    rw [← hW7] at hMA ⊢
    clear hW7 hb6 CO CM cd fd hR6 hM6 BO6
    obtain ⟨vv7, hv7, av7, lv7, tv7, hbs7, abs7, hR7, hM7⟩ := hMA.ex
    have hwf7 := hMA.wf
    clear hMA
    have he : 0 ≤ eights nn ∧ m.taken + 8 * eights nn ≤ m.size := by
      refine ⟨eights_nn _, ?_⟩
      unfold roomB at hrm
      simp only [decide_eq_true_eq] at hrm
      omega
    have hE := Lib.hid (eights_c (nn : Int) (by omega) (by omega))
    have C7 : W7.cell? ⟨mb, 4, none⟩ = some (.int .i64 m.taken) := hM7.cell 4
    have F7 := hM7.free
    have C7h := Lib.hid C7
    generalize hge : eights (nn : Int) = ee at he hE
    have HGE := Lib.hid hge
    clear hge
    refine start_ (n := 12) (S := fun w' => w'.cell? ⟨mb, 4, none⟩ = some (.int .i64 m.taken) ∧ w'.cell? ⟨mb, 5, none⟩ = some (.int .i64 m.size)) (ds := [11]) (bz 12 0) (by kernel_rfl) rfl rfl ⟨C7, hM7.cell 5⟩ (fun hHeld => ?_)
    refine pure_ (i := 0) (N := (some 66)) (v := ?_) (a' := ?_) (bz 12 1) rfl rfl (by kernel_rfl) (fun _ _ _ h => h) (Or.inl ⟨by rfl, ?_⟩) ?_ ?_
    rotate_left
    · intro w'
      go_simp
      with_reducible rfl
    rotate_left
    · simp only [Act.put, sa_, sb_, sc_]
      rfl
    refine pure_ (i := 1) (N := (some 67)) (v := ?_) (a' := ?_) (bz 12 3) rfl rfl (by kernel_rfl) (fun _ _ _ h => h) (Or.inl ⟨by rfl, ?_⟩) ?_ ?_
    rotate_left
    · intro w'
      go_simp
      with_reducible rfl
    rotate_left
    · simp only [Act.put, sa_, sb_, sc_]
      rfl
    refine pure_ (i := 2) (N := (some 68)) (v := ?_) (a' := ?_) (bz 12 7) rfl rfl (by kernel_rfl) (fun _ _ _ h => h) (Or.inl ⟨by rfl, ?_⟩) ?_ ?_
    rotate_left
    · intro w'
      go_simp
      with_reducible rfl
    rotate_left
    · simp only [Act.put, sa_, sb_, sc_]
      rfl
    refine pure_ (i := 4) (N := (some 70)) (v := ?_) (a' := ?_) (bz 12 23) rfl rfl (by kernel_rfl) (fun _ _ _ h => h) (Or.inl ⟨by rfl, ?_⟩) ?_ ?_
    rotate_left
    · intro w'
      go_simp
      with_reducible rfl
    rotate_left
    · simp only [Act.put, sa_, sb_, sc_]
      rfl
    refine take_ (i := 3) (N := (some 69)) (v := ?_) (a' := ?_) (bz 12 31) rfl rfl (by kernel_rfl) (fun _ _ _ h => h) (Or.inl ⟨by rfl, ?_⟩) hHeld ?_ ?_
    rotate_left
    · rintro w' ⟨s0, s1⟩
      go_simp
      with_reducible rfl
    rotate_left
    · simp only [Act.put, sa_, sb_, sc_]
      rfl
    refine one_ (i := 5) (N := (some 71)) (bz 12 63) rfl rfl (by kernel_rfl) (by decide) (fun K hK => ?_)
    refine goes_ Tryz.func96 (by kernel_rfl) rfl #[.int .u64 (nn : Int)] (by rfl) rfl rfl (by (try simp only [List.map_toArray, List.map_cons, List.map_nil]); first | done | rfl) ?_
    refine (hE.out _).mono ?_
    rintro e w' ⟨rfl, rfl⟩
    refine ⟨_, rfl, ?_⟩
    refine hK.out _ _ hHeld (fun hHeld => ?_)
    clear hK K
    refine norm_ (a' := ?_) ?_ ?_
    rotate_left
    · show Act.put _ (some 71) _ = _
      simp only [Act.put, sa_, sb_, sc_]
      rfl
    refine pure_ (i := 6) (N := (some 72)) (v := ?_) (a' := ?_) (bz 12 127) rfl rfl (by kernel_rfl) (fun _ _ _ h => h) (Or.inl ⟨by rfl, ?_⟩) ?_ ?_
    rotate_left
    · intro w'
      go_simp
      with_reducible rfl
    rotate_left
    · simp only [Act.put, sa_, sb_, sc_]
      rfl
    refine pure_ (i := 7) (N := (some 73)) (v := ?_) (a' := ?_) (bz 12 255) rfl rfl (by kernel_rfl) (fun _ _ _ h => h) (Or.inl ⟨by rfl, ?_⟩) ?_ ?_
    rotate_left
    · intro w'
      go_simp
      with_reducible rfl
    rotate_left
    · simp only [Act.put, sa_, sb_, sc_]
      rfl
    refine pure_ (i := 8) (N := (some 74)) (v := ?_) (a' := ?_) (bz 12 511) rfl rfl (by kernel_rfl) (fun _ _ _ h => h) (Or.inl ⟨by rfl, ?_⟩) ?_ ?_
    rotate_left
    · intro w'
      go_simp
      with_reducible rfl
    rotate_left
    · simp only [Act.put, sa_, sb_, sc_]
      rfl
    refine pure_ (i := 9) (N := (some 75)) (v := ?_) (a' := ?_) (bz 12 1023) rfl rfl (by kernel_rfl) (fun _ _ _ h => h) (Or.inl ⟨by rfl, ?_⟩) ?_ ?_
    rotate_left
    · intro w'
      go_simp
      with_reducible rfl
    rotate_left
    · simp only [Act.put, sa_, sb_, sc_]
      rfl
    refine pure_ (i := 10) (N := (some 76)) (v := ?_) (a' := ?_) (bz 12 2047) rfl rfl (by kernel_rfl) (fun _ _ _ h => h) (Or.inl ⟨by rfl, ?_⟩) ?_ ?_
    rotate_left
    · intro w'
      go_simp
      with_reducible rfl
    rotate_left
    · simp only [Act.put, sa_, sb_, sc_]
      rfl
    refine last_ (i := 11) (N := none) (bz 12 4095) rfl rfl (by kernel_rfl) (by decide) (fun K hK => ?_)
    refine skip_ (w1 := ?_) (by rfl) rfl ?_ ?_
    rotate_left
    · go_simp
      rfl
    refine hK.out _ _ ?_
    clear hK K
    refine done_ (by kernel_rfl) ?_
    go_end0
    have hge := HGE.out
    have hwr : IntKind.i64.wrap (m.taken + IntKind.i64.wrap (IntKind.u64.wrap (8 * ee))) = m.taken + 8 * ee := by
      rw [IntKind.wrap_u64, IntKind.wrap_i64, IntKind.wrap_i64]
      omega
    rw [hwr]
    have hS : allocS m o = .go { ({ m with arena := m.arena ++ [x], left := m.left ++ [m.taken] } : SM).put o.d (268435456 + m.taken) with taken := m.taken + 8 * ee } := by
      unfold allocS
      rw [hnn, if_pos hrm, hge, hx, hpv]
      rfl
    unfold OpPost
    rw [hS]
    exact ⟨(hb7.setCell hmb hM7.own _).drew, rfl, MA.drew ⟨⟨_, _, _, _, _, _, _, (hR7.mach hM7 4 _).like rfl rfl rfl rfl rfl, hM7.set 4 _⟩, hmb, { hwf7 with tk := ⟨by show 0 ≤ m.taken + 8 * ee; omega, by show m.taken + 8 * ee ≤ m.size; omega, htk.2.2⟩ }⟩⟩
end Go.Proofs.YtoabiignjkcdmaaGreat

namespace Go.Proofs.YtoabiignjkcdmaaGreat
open Go.RowKit Go.MapKept
set_option linter.unusedVariables false
set_option linter.unusedSimpArgs false

section
variable {P : Program} {ops : Array Oper} {Q : Exit → Act → World → Prop} {rest : List Oper} {a : Act} {w : World} {o : Oper}
theorem wpl_insert8 (hg : o.guard = none) (m x v : Operand) (t k e : TypeId) (hop : o.op = .insert t m x v) (ht : P.underlying t = some (.map k e)) (hk : P.underlying k = some (.int .u8)) (b clk : Nat) (es : Array MapEntry) (key : Int) (val : Value)
    (hm : a.eval m = .map (some b)) (hx : a.eval x = .int .u8 key) (hv : a.eval v = val) (hb : Ob w b (.map es clk)) (hf : Instr.findNow (.int .u8) (.int .u8 key) es.toList 0 = some none)
    (h : ∀ w', Ob w' b (.map (es.push { key := .int .u8 key, val := val, born := clk }) (clk + 1)) → w.grownBy w' (some b) → wpList P ops Q rest (a.put o.dst undef) w') : wpList P ops Q (o :: rest) a w := by
  refine wpList_run0 hg (setOb w b (.map (es.push { key := .int .u8 key, val := val, born := clk }) (clk + 1))) ?_ (h _ (setOb_ob hb) (setOb_grown _))
  unfold execOp
  simp only [hop, hm, hx, hv, Instr.mapUpdate, Sem.run_bind, run_underlying ht, Result.andThen, run_getObj_ob hb (by simp), run_checkKey hk (k := .int .u8 key) rfl, run_findKey hk hf, run_setObj_ob hb (by simp)]
  rfl
end
abbrev stEn (k : Int) (f n : Nat) : MapEntry := { key := .int .u8 k, val := .func (.func f) #[] #[], born := n }
abbrev stepEs : Array MapEntry := #[stEn 1 82 0, stEn 2 83 1, stEn 3 84 2, stEn 4 85 3, stEn 5 86 4, stEn 6 87 5, stEn 7 88 6, stEn 8 89 7, stEn 9 90 8, stEn 10 91 9, stEn 11 92 10, stEn 12 93 11, stEn 13 94 12]
set_option maxRecDepth 100000 in
set_option maxHeartbeats 2000000 in
theorem steps_c (w : World) : Calls Tryz.prog 68 #[] w fun e w' => e = .returned (.map (some w.heap.size)) ∧ Ob w' w.heap.size (.map stepEs 13) ∧ Below w.heap.size w w' := by
  have hmm := @run_makeMap Tryz.prog
  have hOb := Ob.new w (.map #[] 0)
  have hBl : Below w.heap.size w (w.alloc (.map #[] 0)) := (Below.refl w.heap.size w).alloc (Nat.le_refl _) _
  go_enter Tryz.func68, Tryz.ntmps68
  go_wp2_with (refine wpl_insert8 rfl _ _ _ _ _ _ rfl Tryz.underlying122 Tryz.underlying5 _ _ _ _ _ rfl rfl rfl hOb (by rfl) ?_; clear hOb; intro w' hOb hG; replace hBl := hBl.trans (grown_below hG hBl.size (fun k e => by cases e; exact Nat.le_refl _)); clear hG)
  go_ret
  exact ⟨rfl, hOb, hBl⟩
end Go.Proofs.YtoabiignjkcdmaaGreat
