/-
  Lemmas (texts FoldWd), each proved without a condition beyond its own hypotheses.
-/
import Derived.Test.YtoabiignjkcdmaaGreatFd39
namespace Go.Proofs.YtoabiignjkcdmaaGreat
open Go.RowKit Go.Lib Go.Shelf Go.Maps Go.Proofs.YtoabiignjkcdmaaGreatW.PrintLast
set_option linter.unusedVariables false
set_option linter.unusedSimpArgs false
attribute [local go_sem] Oper.semAt_some

theorem fold_blks {p : SIr} (h : checkS p = true) : ∀ b ∈ p.blk.map forwardS, BlkOk p.sec.length p.blk.length b := by
  intro b hb
  obtain ⟨b1, h1, rfl⟩ := List.mem_map.1 hb
  have hb1 : blockS p b1 = true := by
    unfold checkS at h
    simp only [Bool.and_eq_true, List.all_eq_true] at h
    exact h.2 b1 h1
  exact blkOk_of (forwardS_block hb1)
theorem fold_ops {p : SIr} (h : checkS p = true) (hs : p.sec.length ≤ 100000) (hl : ∀ b ∈ p.blk, b.ops.length ≤ 100000) : ∀ b ∈ p.blk.map forwardS, b.ops.length ≤ 100000 ∧ ∀ o ∈ b.ops, OpIn p.sec.length o ∧ -9223372036854775808 ≤ o.d ∧ o.d < 9223372036854775808 := by
  intro b hb
  obtain ⟨b1, h1, rfl⟩ := List.mem_map.1 hb
  have hb1 : blockS p b1 = true := by
    unfold checkS at h
    simp only [Bool.and_eq_true, List.all_eq_true] at h
    exact h.2 b1 h1
  have hb2 := forwardS_block hb1
  unfold blockS at hb2
  rw [Bool.and_eq_true, List.all_eq_true] at hb2
  refine ⟨by have := hl b1 h1; have e : (forwardS b1).ops.length = b1.ops.length := forwardL_length _ _; omega, fun o ho => ?_⟩
  have ho2 := hb2.2 o ho
  refine ⟨opIn_of ho2, ?_⟩
  obtain ⟨hk, hv, -⟩ := opS_parts ho2
  obtain ⟨v1, -⟩ := opV_parts hv
  unfold varB at v1
  split at v1
  · simp at v1; omega
  · simp at v1; omega
@[local go_sem] theorem run_store_map {P : Program} {w : World} {a : Addr} {m : Mode} (p : Option Nat) : (store a (.map p) m).run P w = stored P w a (.map p) m := run_store P w a _ m rfl
theorem infoWants : (Tryz.prog.info? 70).map (fun i => (i.zero, i.size, i.bytes)) = some (some (.map none), 1, 8) := by kernel_rfl
set_option maxRecDepth 100000 in
set_option maxHeartbeats 8000000 in
theorem of_yes (p : SIr) (S P B : Option Addr) (c1 c2 c3 : Nat) (w : World) (hS : kBool.Row w S p.sec) (hP : kHanded.Row w P p.par) (hB : kBlock.Row w B p.blk) (hok : FoldOk p) (hyes : checkS p = true) :
    Calls Tryz.prog 15 #[.agg #[.slice S p.sec.length c1, .slice P p.par.length c2, .slice B p.blk.length c3]] w (OfPost p w) := by
  refine (callsIn_wide (n := 9)).1 ?_
  refine callsIn_of_wp_marks Tryz.func15 rfl trivial ?_ rfl
  simp only [Tryz.ntmps15, List.size_toArray, List.length_cons, List.length_nil, Nat.reduceAdd, Nat.reduceSub, Array.replicate_succ, Array.replicate_zero, List.push_toArray, List.append_toArray, List.nil_append, List.cons_append]
  refine wpIn_wide.2 ?_
  obtain ⟨w1, hw1⟩ : ∃ w1, w1 = (w.alloc (.cells #[.slice S p.sec.length c1, .slice P p.par.length c2, .slice B p.blk.length c3] 26)).alloc (.cells zeroIr 26) := ⟨_, rfl⟩
  have hb1 : Below w.heap.size w w1 := by rw [hw1]; exact ((Below.refl w.heap.size w).alloc (Nat.le_refl _) _).alloc (by simp) _
  have BP : Bk w1 w.heap.size #[.slice S p.sec.length c1, .slice P p.par.length c2, .slice B p.blk.length c3] 26 := by rw [hw1]; exact (Bk.new w _ _).alloc _
  have BO : Bk w1 (w.heap.size + 1) zeroIr 26 := by rw [hw1]; exact Bk.newAt _ _ (by simp)
  have HCK := check_c p S P B c1 c2 c3 w1 (hS.mono hb1) (hP.mono hb1) (hB.mono hb1) hok.par (fun b hb => by have := hok.ops b hb; omega)
  have hcn : checkN p = 0 := by unfold checkN; rw [hyes]; rfl
  rw [hcn] at HCK
  have hsl := hok.sec
  have hpl := hok.par
  have hbl := hok.blk
  have HOK := Lib.hid hok
  have HY := Lib.hid hyes
  clear hcn hok hyes
  go_upto_region 1 with (fail)
  rw [← hw1]
  clear hw1
  have CP := BP.cell
  go_upto_region 4 with (go_at_call 11; refine HCK.mono ?_; rintro e W ⟨rfl, hb2⟩)
  have BPW := BP.mono hb2
  have BOW := BO.mono hb2
  have hbW := bt hb1 hb2
  have hws : w.heap.size ≤ W.heap.size := hbW.size
  have hgw : w.heap.size + 2 ≤ W.heap.size := BOW.lt
  clear HCK BP BO CP hb1 hb2
  have HSR := Lib.hid (fun W2 (h : Below W.heap.size W W2) => (hS.mono hbW).mono h)
  have HPR := Lib.hid (fun W2 (h : Below W.heap.size W W2) => (hP.mono hbW).mono h)
  have hCS : ∀ V, Below W.heap.size W V → V.cell? ⟨w.heap.size, 0, none⟩ = some (.slice S p.sec.length c1) ∧ V.cell? ⟨w.heap.size, 1, none⟩ = some (.slice P p.par.length c2) := fun V hV => ⟨(BPW.mono hV).cell 0, (BPW.mono hV).cell 1⟩
  have HCS := Lib.hid hCS
  clear hCS
  refine startM_ (n := 9) (S := fun w' => w'.cell? ⟨w.heap.size, 0, none⟩ = some (.slice S p.sec.length c1) ∧ w'.cell? ⟨w.heap.size, 1, none⟩ = some (.slice P p.par.length c2)) (ds := [8]) (bz 9 0) (by kernel_rfl) rfl rfl (HCS.out _ (Below.refl _ _).drew) (fun hHeld => ?_)
  refine pure_ (i := 0) (N := (some 22)) (v := ?_) (a' := ?_) (bz 9 1) rfl rfl (by kernel_rfl) (fun _ _ _ h => h) (Or.inl ⟨by rfl, ?_⟩) ?_ ?_
  rotate_left
  · intro w'
    go_simp
    with_reducible rfl
  rotate_left
  · simp only [Act.put, sa_, sb_, sc_]
    rfl
  refine pure_ (i := 3) (N := (some 25)) (v := ?_) (a' := ?_) (bz 9 9) rfl rfl (by kernel_rfl) (fun _ _ _ h => h) (Or.inl ⟨by rfl, ?_⟩) ?_ ?_
  rotate_left
  · intro w'
    go_simp
    with_reducible rfl
  rotate_left
  · simp only [Act.put, sa_, sb_, sc_]
    rfl
  refine take_ (i := 1) (N := (some 23)) (v := ?_) (a' := ?_) (bz 9 11) rfl rfl (by kernel_rfl) (fun _ _ _ h => h) (Or.inl ⟨by rfl, ?_⟩) hHeld ?_ ?_
  rotate_left
  · rintro w' ⟨s0, s1⟩
    go_simp
    with_reducible rfl
  rotate_left
  · simp only [Act.put, sa_, sb_, sc_]
    rfl
  refine take_ (i := 4) (N := (some 26)) (v := ?_) (a' := ?_) (bz 9 27) rfl rfl (by kernel_rfl) (fun _ _ _ h => h) (Or.inl ⟨by rfl, ?_⟩) hHeld ?_ ?_
  rotate_left
  · rintro w' ⟨s0, s1⟩
    go_simp
    with_reducible rfl
  rotate_left
  · simp only [Act.put, sa_, sb_, sc_]
    rfl
  refine join_ (σ := Value × Value × Nat) 1 (bz 9 255) (fun s => [(24, s.1), (27, s.2.1), (28, .agg #[s.1, s.2.1, .slice none 0 0]), (5, .pointer (some ⟨s.2.2, 0, none⟩))]) (fun s w' => Below W.heap.size W w' ∧ w'.ownsRow w.heap.size 4 1 s.1 p.sec.length (p.sec.flatMap fun x => [.bool x]) ∧ w'.ownsRow w.heap.size 61 5 s.2.1 p.par.length (p.par.flatMap SHanded.cells) ∧ Bk w' s.2.2 zeroIr 26 ∧ W.heap.size ≤ s.2.2) ?_ (fun HC => ?_)
  rotate_left
  · refine two_ (i := 2) (j := 7) (Ni := (some 24)) (Nj := (some 5)) (bz 9 31) (bz 9 155) rfl rfl rfl rfl (by kernel_rfl) (by decide) (by decide) (fun K hK => ?_) (fun K hK => ?_)
    · refine goes_ Tryz.func30 (by kernel_rfl) rfl #[.slice S p.sec.length c1] (by rfl) rfl rfl (by (try simp only [List.map_toArray, List.map_cons, List.map_nil]); first | done | rfl) ?_
      refine (cloneB_c (HSR.out _ (Below.refl W.heap.size W).drew) (by omega)).mono ?_
      rintro e2 wA ⟨sv, rfl, hosv, hcs⟩
      refine ⟨_, rfl, ?_⟩
      replace hosv := own_base_le hosv (show w.heap.size ≤ _ from Nat.le_trans hws (Below.refl W.heap.size W).drew.size)
      obtain ⟨sa, sc, rfl⟩ := own_shape' hosv
      have hbA : Below W.heap.size W wA := bt' (Below.refl W.heap.size W).drew (Below.refl W.heap.size W).drew.size hcs
      refine hK.out _ _ (HCS.out _ hbA) (fun hHeld => ?_)
      clear hK K
      refine norm_ (a' := ?_) ?_ ?_
      rotate_left
      · show Act.put _ (some 24) _ = _
        simp only [Act.put, sa_, sb_, sc_]
        rfl
      refine two_ (i := 5) (j := 7) (Ni := (some 27)) (Nj := (some 5)) (bz 9 63) (bz 9 159) rfl rfl rfl rfl (by kernel_rfl) (by decide) (by decide) (fun K hK => ?_) (fun K hK => ?_)
      · refine goes_ Tryz.func31 (by kernel_rfl) rfl #[.slice P p.par.length c2] (by rfl) rfl rfl (by (try simp only [List.map_toArray, List.map_cons, List.map_nil]); first | done | rfl) ?_
        refine (cloneH_c (HPR.out _ hbA) (by omega)).mono ?_
        rintro e2 wB ⟨pv, rfl, hopv, hcp⟩
        refine ⟨_, rfl, ?_⟩
        replace hopv := own_base_le hopv (show w.heap.size ≤ _ from Nat.le_trans hws hbA.size)
        obtain ⟨pa, pc, rfl⟩ := own_shape' hopv
        have hbB : Below W.heap.size W wB := bt' hbA hbA.size hcp
        refine hK.out _ _ (HCS.out _ hbB) (fun hHeld => ?_)
        clear hK K
        refine norm_ (a' := ?_) ?_ ?_
        rotate_left
        · show Act.put _ (some 27) _ = _
          simp only [Act.put, sa_, sb_, sc_]
          rfl
        refine pure_ (i := 6) (N := (some 28)) (v := ?_) (a' := ?_) (bz 9 127) rfl rfl (by kernel_rfl) (fun _ _ _ h => h) (Or.inl ⟨by rfl, ?_⟩) ?_ ?_
        rotate_left
        · intro w'
          go_simp
          with_reducible rfl
        rotate_left
        · simp only [Act.put, sa_, sb_, sc_]
          rfl
        refine one_ (i := 7) (N := (some 5)) (bz 9 255) rfl rfl (by kernel_rfl) (by decide) (fun K hK => ?_)
        obtain ⟨wC, hwC⟩ : ∃ V, V = wB.alloc (.cells zeroIr 26) := ⟨_, rfl⟩
        have hbC : Below W.heap.size W wC := by rw [hwC]; exact hbB.alloc hbB.size _
        have hxtwC : Below wB.heap.size wB wC := by rw [hwC]; exact (Below.refl _ _).alloc (Nat.le_refl _) _
        have hkwC : Bk wC wB.heap.size zeroIr 26 := by rw [hwC]; exact Bk.new wB _ _
        refine value_ (v := .pointer (some ⟨wB.heap.size, 0, none⟩)) (w1 := wC) (by rfl) rfl ?_ ?_
        · rw [hwC]
          go_simp
        clear hwC
        refine hK.out _ _ (HCS.out _ hbC) (fun hHeld => ?_)
        clear hK K
        refine norm_ (a' := ?_) ?_ ?_
        rotate_left
        · show Act.put _ (some 5) _ = _
          simp only [Act.put, sa_, sb_, sc_]
          rfl
        refine norm_ (by simp only [putAll, Act.put, List.setIfInBounds_toArray, List.set_cons_zero, List.set_cons_succ]) (HC (.slice sa p.sec.length sc, .slice pa p.par.length pc, wB.heap.size) _ ⟨hbC, own_below (own_below hosv hcp) hxtwC, own_below hopv hxtwC, hkwC, hbB.size⟩)
      · obtain ⟨wB, hwB⟩ : ∃ V, V = wA.alloc (.cells zeroIr 26) := ⟨_, rfl⟩
        have hbB : Below W.heap.size W wB := by rw [hwB]; exact hbA.alloc hbA.size _
        have hxtwB : Below wA.heap.size wA wB := by rw [hwB]; exact (Below.refl _ _).alloc (Nat.le_refl _) _
        have hkwB : Bk wB wA.heap.size zeroIr 26 := by rw [hwB]; exact Bk.new wA _ _
        refine value_ (v := .pointer (some ⟨wA.heap.size, 0, none⟩)) (w1 := wB) (by rfl) rfl ?_ ?_
        · rw [hwB]
          go_simp
        clear hwB
        refine hK.out _ _ (HCS.out _ hbB) (fun hHeld => ?_)
        clear hK K
        refine norm_ (a' := ?_) ?_ ?_
        rotate_left
        · show Act.put _ (some 5) _ = _
          simp only [Act.put, sa_, sb_, sc_]
          rfl
        refine one_ (i := 5) (N := (some 27)) (bz 9 191) rfl rfl (by kernel_rfl) (by decide) (fun K hK => ?_)
        refine goes_ Tryz.func31 (by kernel_rfl) rfl #[.slice P p.par.length c2] (by rfl) rfl rfl (by (try simp only [List.map_toArray, List.map_cons, List.map_nil]); first | done | rfl) ?_
        refine (cloneH_c (HPR.out _ hbB) (by omega)).mono ?_
        rintro e2 wC ⟨pv, rfl, hopv, hcp⟩
        refine ⟨_, rfl, ?_⟩
        replace hopv := own_base_le hopv (show w.heap.size ≤ _ from Nat.le_trans hws hbB.size)
        obtain ⟨pa, pc, rfl⟩ := own_shape' hopv
        have hbC : Below W.heap.size W wC := bt' hbB hbB.size hcp
        refine hK.out _ _ (HCS.out _ hbC) (fun hHeld => ?_)
        clear hK K
        refine norm_ (a' := ?_) ?_ ?_
        rotate_left
        · show Act.put _ (some 27) _ = _
          simp only [Act.put, sa_, sb_, sc_]
          rfl
        refine pure_ (i := 6) (N := (some 28)) (v := ?_) (a' := ?_) (bz 9 255) rfl rfl (by kernel_rfl) (fun _ _ _ h => h) (Or.inl ⟨by rfl, ?_⟩) ?_ ?_
        rotate_left
        · intro w'
          go_simp
          with_reducible rfl
        rotate_left
        · simp only [Act.put, sa_, sb_, sc_]
          rfl
        refine norm_ (by simp only [putAll, Act.put, List.setIfInBounds_toArray, List.set_cons_zero, List.set_cons_succ]) (HC (.slice sa p.sec.length sc, .slice pa p.par.length pc, wA.heap.size) _ ⟨hbC, own_below (own_below hosv hxtwB) hcp, hopv, hkwB.mono hcp, hbA.size⟩)
    · obtain ⟨wA, hwA⟩ : ∃ V, V = W.drew.alloc (.cells zeroIr 26) := ⟨_, rfl⟩
      have hbA : Below W.heap.size W wA := by rw [hwA]; exact (Below.refl W.heap.size W).drew.alloc (Below.refl W.heap.size W).drew.size _
      have hxtwA : Below W.drew.heap.size W.drew wA := by rw [hwA]; exact (Below.refl _ _).alloc (Nat.le_refl _) _
      have hkwA : Bk wA W.drew.heap.size zeroIr 26 := by rw [hwA]; exact Bk.new W.drew _ _
      refine value_ (v := .pointer (some ⟨W.drew.heap.size, 0, none⟩)) (w1 := wA) (by rfl) rfl ?_ ?_
      · rw [hwA]
        go_simp
      clear hwA
      refine hK.out _ _ (HCS.out _ hbA) (fun hHeld => ?_)
      clear hK K
      refine norm_ (a' := ?_) ?_ ?_
      rotate_left
      · show Act.put _ (some 5) _ = _
        simp only [Act.put, sa_, sb_, sc_]
        rfl
      refine one_ (i := 2) (N := (some 24)) (bz 9 159) rfl rfl (by kernel_rfl) (by decide) (fun K hK => ?_)
      refine goes_ Tryz.func30 (by kernel_rfl) rfl #[.slice S p.sec.length c1] (by rfl) rfl rfl (by (try simp only [List.map_toArray, List.map_cons, List.map_nil]); first | done | rfl) ?_
      refine (cloneB_c (HSR.out _ hbA) (by omega)).mono ?_
      rintro e2 wB ⟨sv, rfl, hosv, hcs⟩
      refine ⟨_, rfl, ?_⟩
      replace hosv := own_base_le hosv (show w.heap.size ≤ _ from Nat.le_trans hws hbA.size)
      obtain ⟨sa, sc, rfl⟩ := own_shape' hosv
      have hbB : Below W.heap.size W wB := bt' hbA hbA.size hcs
      refine hK.out _ _ (HCS.out _ hbB) (fun hHeld => ?_)
      clear hK K
      refine norm_ (a' := ?_) ?_ ?_
      rotate_left
      · show Act.put _ (some 24) _ = _
        simp only [Act.put, sa_, sb_, sc_]
        rfl
      refine one_ (i := 5) (N := (some 27)) (bz 9 191) rfl rfl (by kernel_rfl) (by decide) (fun K hK => ?_)
      refine goes_ Tryz.func31 (by kernel_rfl) rfl #[.slice P p.par.length c2] (by rfl) rfl rfl (by (try simp only [List.map_toArray, List.map_cons, List.map_nil]); first | done | rfl) ?_
      refine (cloneH_c (HPR.out _ hbB) (by omega)).mono ?_
      rintro e2 wC ⟨pv, rfl, hopv, hcp⟩
      refine ⟨_, rfl, ?_⟩
      replace hopv := own_base_le hopv (show w.heap.size ≤ _ from Nat.le_trans hws hbB.size)
      obtain ⟨pa, pc, rfl⟩ := own_shape' hopv
      have hbC : Below W.heap.size W wC := bt' hbB hbB.size hcp
      refine hK.out _ _ (HCS.out _ hbC) (fun hHeld => ?_)
      clear hK K
      refine norm_ (a' := ?_) ?_ ?_
      rotate_left
      · show Act.put _ (some 27) _ = _
        simp only [Act.put, sa_, sb_, sc_]
        rfl
      refine pure_ (i := 6) (N := (some 28)) (v := ?_) (a' := ?_) (bz 9 255) rfl rfl (by kernel_rfl) (fun _ _ _ h => h) (Or.inl ⟨by rfl, ?_⟩) ?_ ?_
      rotate_left
      · intro w'
        go_simp
        with_reducible rfl
      rotate_left
      · simp only [Act.put, sa_, sb_, sc_]
        rfl
      refine norm_ (by simp only [putAll, Act.put, List.setIfInBounds_toArray, List.set_cons_zero, List.set_cons_succ]) (HC (.slice sa p.sec.length sc, .slice pa p.par.length pc, W.drew.heap.size) _ ⟨hbC, own_below hosv hcp, hopv, (hkwA.mono hcs).mono hcp, Nat.le_refl _⟩)
  rintro ⟨sv, pv, qb⟩ w8 ⟨hb8, hosv, hopv, hx8, hqb⟩
  refine norm_ (a' := ?_) ?_ ?_
  rotate_left
  · simp only [putAll, Act.put, List.setIfInBounds_toArray, List.set_cons_zero, List.set_cons_succ]
    rfl
  simp only at hosv hopv hx8 hqb
  have CX8 := hx8.cell
  have FX8 := hx8.free
  obtain ⟨sa, sc, rfl⟩ := own_shape' hosv
  obtain ⟨pa, pc, rfl⟩ := own_shape' hopv
  refine last_ (i := 8) (N := none) (bz 9 511) rfl rfl (by kernel_rfl) (by decide) (fun K hK => ?_)
  refine skip_ (w1 := ?_) (by rfl) rfl ?_ ?_
  rotate_left
  · go_simp
    rfl
  refine hK.out _ _ ?_
  clear hK K
  refine done_ (by kernel_rfl) ?_
  unfold onlyN
  have hst3 : Bk (((w8.setCell ⟨qb, 0, none⟩ (.slice sa p.sec.length sc)).setCell ⟨qb, 1, none⟩ (.slice pa p.par.length pc)).setCell ⟨qb, 2, none⟩ (.slice none 0 0)) qb #[.slice sa p.sec.length sc, .slice pa p.par.length pc, .slice none 0 0] 26 := ((hx8.set 0 _).set 1 _).set 2 _
  have hg3 : w8.grownBy (((w8.setCell ⟨qb, 0, none⟩ (.slice sa p.sec.length sc)).setCell ⟨qb, 1, none⟩ (.slice pa p.par.length pc)).setCell ⟨qb, 2, none⟩ (.slice none 0 0)) (some qb) := grown_trans (grown_trans (set_grown w8 qb 0 _) (set_grown _ qb 1 _)) (set_grown _ qb 2 _)
  obtain ⟨W9, hW9⟩ : ∃ W9, W9 = (((w8.setCell ⟨qb, 0, none⟩ (.slice sa p.sec.length sc)).setCell ⟨qb, 1, none⟩ (.slice pa p.par.length pc)).setCell ⟨qb, 2, none⟩ (.slice none 0 0)) := ⟨_, rfl⟩
  rw [← hW9] at hst3 hg3 ⊢
  have hb9 : Below W.heap.size W W9 := hb8.grown hg3 hb8.size (fun k e => by cases e; exact hqb)
  have hI9 : OfI w W9 p S P B c1 c2 c3 qb ⟨p.sec, p.par, (p.blk.map forwardS).take 0⟩ (.slice sa p.sec.length sc) (.slice pa p.par.length pc) (.slice none 0 0) [] :=
    ⟨⟨own_kept hosv hg3 (fun g e => by cases e; exact own_not hosv hx8 (by decide)), own_kept hopv hg3 (fun g e => by cases e; exact own_not hopv hx8 (by decide)), rfl, nil_own _ _ _ _, fun i h h' => by simp at h'⟩, hst3, BPW.mono hb9, BOW.mono hb9, bt hbW hb9, by omega⟩
  clear hW9 hb8 hosv hopv hx8 CX8 FX8 hg3 hHeld HSR HPR HCS BPW BOW hb9 hst3
  have CX9 := hI9.X.cell
  go_upto_region 6 with (fail)
  clear CX9
  go_loopw [32] (fun s wr => ∃ (k : Nat) (bv : Value) (vs : List Value), s = .int .i64 k ∧ k ≤ p.blk.length ∧ OfI w wr p S P B c1 c2 c3 qb ⟨p.sec, p.par, (p.blk.map forwardS).take k⟩ (.slice sa p.sec.length sc) (.slice pa p.par.length pc) bv vs) (fun s _ => p.blk.length - (intOf s).toNat)
  case atStart => exact ⟨0, _, [], rfl, Nat.zero_le _, hI9⟩
  case round =>
    clear hI9
    obtain ⟨k, bv, vs, rfl, hk, hI⟩ := hrel
    by_cases hlt : k < p.blk.length
    · obtain ⟨bb, bo, O, oc, rfl, g0, g1, g2, g3, g4, gm, hO⟩ := kBlock_at (hB.mono hI.lt) k hlt
      obtain ⟨bk, hbk⟩ : ∃ bk, bk = p.blk[k] := ⟨_, rfl⟩
      rw [← hbk] at g0 g1 g2 g3 g4 gm hO
      have hbm : bk ∈ p.blk := by rw [hbk]; exact List.getElem_mem hlt
      have hol := HOK.out.ops bk hbm
      have HOPW := Lib.hid (HOK.out.opw HY.out bk hbm)
      have hbe := (checkS_blk HY.out).1 bk hbm
      have HTK := Lib.hid (show (p.blk.map forwardS).take (k + 1) = (p.blk.map forwardS).take k ++ [forwardS bk] by rw [List.take_succ_eq_append_getElem (by simpa using hlt), List.getElem_map, hbk])
      clear hbk
      go_upto_region 8 with (fail)
      obtain ⟨Wb, hWb⟩ : ∃ Wb, Wb = wr.alloc (.cells #[.slice O bk.ops.length oc, .int .u8 bk.e, .int .i64 bk.a, .int .i64 bk.go, .int .i64 bk.els] 38) := ⟨_, rfl⟩
      rw [← hWb]
      have BB : Bk Wb wr.heap.size #[.slice O bk.ops.length oc, .int .u8 bk.e, .int .i64 bk.a, .int .i64 bk.go, .int .i64 bk.els] 38 := by rw [hWb]; exact Bk.new wr _ _
      have hbb : Below wr.heap.size wr Wb := by rw [hWb]; exact (Below.refl wr.heap.size wr).alloc (Nat.le_refl _) _
      obtain ⟨nb, hnb⟩ : ∃ nb, nb = wr.heap.size := ⟨_, rfl⟩
      rw [← hnb] at BB ⊢
      clear hWb hnb g0 g1 g2 g3 g4
      have hIb := hI.below hbb
      have hbwb := hIb.lt
      have HFW := Lib.hid (forward_c bk O oc p.sec.length Wb.drew ((hO.mono hbb).drewN 1) hol hsl HOPW.out hbe.a)
      have hSS : ∀ V, Below Wb.heap.size Wb V → V.cell? ⟨qb, 2, none⟩ = some (bv) ∧ V.cell? ⟨nb, 0, none⟩ = some (.slice O bk.ops.length oc) ∧ V.cell? ⟨nb, 1, none⟩ = some (.int .u8 bk.e) ∧ V.cell? ⟨nb, 2, none⟩ = some (.int .i64 bk.a) ∧ V.cell? ⟨nb, 3, none⟩ = some (.int .i64 bk.go) ∧ V.cell? ⟨nb, 4, none⟩ = some (.int .i64 bk.els) := fun V hV => ⟨(hIb.Q.mono hV).cell 2, (BB.mono hV).cell 0, (BB.mono hV).cell 1, (BB.mono hV).cell 2, (BB.mono hV).cell 3, (BB.mono hV).cell 4⟩
      have HSS := Lib.hid hSS
      clear hSS hO hbe hI hbb
      refine startM_ (n := 8) (S := fun w' => w'.cell? ⟨qb, 2, none⟩ = some (bv) ∧ w'.cell? ⟨nb, 0, none⟩ = some (.slice O bk.ops.length oc) ∧ w'.cell? ⟨nb, 1, none⟩ = some (.int .u8 bk.e) ∧ w'.cell? ⟨nb, 2, none⟩ = some (.int .i64 bk.a) ∧ w'.cell? ⟨nb, 3, none⟩ = some (.int .i64 bk.go) ∧ w'.cell? ⟨nb, 4, none⟩ = some (.int .i64 bk.els)) (ds := [5, 7]) (bz 8 0) (by kernel_rfl) rfl rfl (HSS.out _ (Below.refl _ _).drew) (fun hHeld => ?_)
      refine pure_ (i := 0) (N := (some 36)) (v := ?_) (a' := ?_) (bz 8 1) rfl rfl (by kernel_rfl) (fun _ _ _ h => h) (Or.inl ⟨by rfl, ?_⟩) ?_ ?_
      rotate_left
      · intro w'
        go_simp
        with_reducible rfl
      rotate_left
      · simp only [Act.put, sa_, sb_, sc_]
        rfl
      refine take_ (i := 1) (N := (some 37)) (v := ?_) (a' := ?_) (bz 8 3) rfl rfl (by kernel_rfl) (fun _ _ _ h => h) (Or.inl ⟨by rfl, ?_⟩) hHeld ?_ ?_
      rotate_left
      · rintro w' ⟨s0, s1, s2, s3, s4, s5⟩
        go_simp
        with_reducible rfl
      rotate_left
      · simp only [Act.put, sa_, sb_, sc_]
        rfl
      refine take_ (i := 2) (N := (some 38)) (v := ?_) (a' := ?_) (bz 8 7) rfl rfl (by kernel_rfl) (fun _ _ _ h => h) (Or.inl ⟨by rfl, ?_⟩) hHeld ?_ ?_
      rotate_left
      · rintro w' ⟨s0, s1, s2, s3, s4, s5⟩
        go_simp
        with_reducible rfl
      rotate_left
      · simp only [Act.put, sa_, sb_, sc_]
        rfl
      refine one_ (i := 3) (N := (some 39)) (bz 8 15) rfl rfl (by kernel_rfl) (by decide) (fun K hK => ?_)
      refine goes_ Tryz.func32 (by kernel_rfl) rfl #[.agg (blkC5 (.slice O bk.ops.length oc) bk.e bk.a bk.go bk.els)] (by rfl) rfl rfl (by (try simp only [List.map_toArray, List.map_cons, List.map_nil]); first | done | rfl) ?_
      refine HFW.out.mono ?_
      rintro e2 w2 ⟨v2, rfl, hov2, hb2⟩
      refine ⟨_, rfl, ?_⟩
      have hb2' : Below Wb.heap.size Wb w2 := bt' (Below.refl Wb.heap.size Wb).drew (Nat.le_refl _) hb2
      replace hov2 := own_base_le hov2 (show w.heap.size ≤ _ from hbwb.size)
      obtain ⟨A2, ca2, rfl⟩ := own_shape' hov2
      refine hK.out _ _ (HSS.out _ hb2') (fun hHeld => ?_)
      clear hK K
      refine norm_ (a' := ?_) ?_ ?_
      rotate_left
      · show Act.put _ (some 39) _ = _
        simp only [Act.put, sa_, sb_, sc_]
        rfl
      refine one_ (i := 4) (N := (some 40)) (bz 8 31) rfl rfl (by kernel_rfl) (by decide) (fun K hK => ?_)
      refine value_ (v := .slice (some ⟨w2.heap.size, 0, none⟩) 1 1) (w1 := w2.alloc (.cells (blkC (forwardS bk) (.slice A2 bk.ops.length ca2)).toArray 38)) (by rfl) rfl ?_ ?_
      · go_simp
        rfl
      have hb3 : Below w2.heap.size w2 (w2.alloc (.cells (blkC (forwardS bk) (.slice A2 bk.ops.length ca2)).toArray 38)) := (Below.refl _ _).alloc (Nat.le_refl _) _
      have hB3 := Bk.new w2 (blkC (forwardS bk) (.slice A2 bk.ops.length ca2)).toArray 38
      have hb3' := bt hb2' hb3
      have hI3 := (hIb.below hb2').below hb3
      have hov3 := own_below hov2 hb3
      obtain ⟨n2, hn2⟩ : ∃ n2, n2 = w2.heap.size := ⟨_, rfl⟩
      rw [← hn2] at hB3 ⊢
      clear hn2
      generalize w2.alloc (.cells (blkC (forwardS bk) (.slice A2 bk.ops.length ca2)).toArray 38) = w3 at hb3 hB3 hb3' hI3 hov3 ⊢
      refine hK.out _ _ (HSS.out _ hb3') (fun hHeld => ?_)
      clear hK K
      refine norm_ (a' := ?_) ?_ ?_
      rotate_left
      · show Act.put _ (some 40) _ = _
        simp only [Act.put, sa_, sb_, sc_]
        rfl
      refine last_ (i := 5) (N := (some 41)) (bz 8 63) rfl rfl (by kernel_rfl) (by decide) (fun K hK => ?_)
      have HRB3 := Lib.hid (show w3.ownsRow w.heap.size 38 5 bv k (blksC ((p.blk.map forwardS).take k) vs) by have := hI3.C.rb; have e : ((p.blk.map forwardS).take k).length = k := (by simp; omega); rw [e] at this; exact this)
      have HI3 := Lib.hid hI3
      refine appendBlk_ (by rfl) rfl _ _ rfl w.heap.size bv k (blksC ((p.blk.map forwardS).take k) vs) rfl HRB3.out n2 (forwardS bk) (.slice A2 bk.ops.length ca2) rfl rfl hB3 (by omega) hI3.lt.size (fun bv4 w4 hob4 hg4 => ?_)
      have hI3b := HI3.out
      have hX4 : Bk w4 qb #[.slice sa p.sec.length sc, .slice pa p.par.length pc, bv] 26 := hI3b.Q.grown hg4 (fun e => own_not hI3b.C.rb hI3b.Q (by decide) e.symm)
      have CX4 := hX4.cell 2
      have FX4 := hX4.free 2
      obtain ⟨ba4, bc4, rfl⟩ := own_shape' hob4
      refine hK.out _ _ ?_
      clear hK K
      refine norm_ (a' := ?_) ?_ ?_
      rotate_left
      · show Act.put _ (some 41) _ = _
        simp only [Act.put, sa_, sb_, sc_]
        rfl
      refine pure_ (i := 6) (N := (some 42)) (v := ?_) (a' := ?_) (bz 8 127) rfl rfl (by kernel_rfl) (fun _ _ _ h => h) (Or.inl ⟨by rfl, ?_⟩) ?_ ?_
      rotate_left
      · intro w'
        go_simp
        with_reducible rfl
      rotate_left
      · simp only [Act.put, sa_, sb_, sc_]
        rfl
      refine last_ (i := 7) (N := none) (bz 8 255) rfl rfl (by kernel_rfl) (by decide) (fun K hK => ?_)
      refine skip_ (w1 := ?_) (by rfl) rfl ?_ ?_
      rotate_left
      · go_simp
        rfl
      refine hK.out _ _ ?_
      clear hK K
      refine done_ (by kernel_rfl) ?_
      dsimp only [onlyN]
      have hI3 := HI3.out
      have TB4 : TY (fun t => t = 38) w3 w4 := TY.of_grown hg4 (fun j e => by
        obtain ⟨cur, fz, hh⟩ := own_type HRB3.out e
        exact ⟨cur, _, fz, hh, rfl⟩)
      have hb34 : ∀ j, IsTy (fun t => t = 38) w3 j → True := fun _ _ => trivial
      have hX4' := hI3.X.ty TB4 (by decide)
      have hZ4' := hI3.Z.ty TB4 (by decide)
      have hst := set_grown w4 qb 2 (.slice ba4 (k + 1) bc4)
      have hqn := hI3.qn
      have hlt4 : Below w.heap.size w w4 := hI3.lt.grown hg4 hI3.lt.size (fun j e => own_from HRB3.out j e)
      have hot : ∀ {e : TypeId} {sz n : Nat} {v : Value} {xs : List Value}, w3.ownsRow w.heap.size e sz v n xs → e ≠ 38 → e ≠ 26 → (w4.setCell ⟨qb, 2, none⟩ (.slice ba4 (k + 1) bc4)).ownsRow w.heap.size e sz v n xs := fun ho h1 h2 => by
        have ho4 := own_ty ho TB4 h1
        exact own_kept ho4 hst (fun g e => by cases e; exact own_not ho4 hX4 h2)
      have hlk : ((p.blk.map forwardS).take k).length = k := by simp; omega
      have hvl : vs.length = k := hI3.C.l.trans hlk
      have hfl : (forwardS bk).ops.length = bk.ops.length := forwardL_length _ _
      have hrb : (w4.setCell ⟨qb, 2, none⟩ (.slice ba4 (k + 1) bc4)).ownsRow w.heap.size 38 5 (.slice ba4 (k + 1) bc4) ((p.blk.map forwardS).take (k + 1)).length (blksC ((p.blk.map forwardS).take (k + 1)) (vs ++ [.slice A2 bk.ops.length ca2])) := by
        rw [HTK.out, blksC_snoc _ _ _ _ (by rw [hlk, hvl]), List.length_append, hlk]
        exact own_kept hob4 hst (fun g e => by cases e; exact own_not hob4 hX4 (by decide))
      have hro : ∀ i (h : i < ((p.blk.map forwardS).take (k + 1)).length) (h' : i < (vs ++ [Value.slice A2 bk.ops.length ca2]).length), (w4.setCell ⟨qb, 2, none⟩ (.slice ba4 (k + 1) bc4)).ownsRow w.heap.size 54 6 (vs ++ [Value.slice A2 bk.ops.length ca2])[i] ((p.blk.map forwardS).take (k + 1))[i].ops.length (((p.blk.map forwardS).take (k + 1))[i].ops.flatMap SOp.cells) := by
        intro i h h'
        by_cases e : i < k
        · have h1 : i < ((p.blk.map forwardS).take k).length := by omega
          have e1 : ((p.blk.map forwardS).take (k + 1))[i] = ((p.blk.map forwardS).take k)[i] := by simp
          rw [List.getElem_append_left (by omega), e1]
          exact hot (hI3.C.ro i h1 (by omega)) (by decide) (by decide)
        · have hik : i = k := by simp at h'; omega
          subst hik
          have e1 : ((p.blk.map forwardS).take (i + 1))[i] = forwardS bk := by
            have := HTK.out
            have h2 : ((p.blk.map forwardS).take (i + 1))[i]? = some (forwardS bk) := by rw [this, List.getElem?_append_right (by omega), hlk]; simp
            exact (List.getElem_eq_iff h).2 h2
          rw [List.getElem_append_right (by omega), e1]
          simp only [hvl, Nat.sub_self, List.getElem_cons_zero]
          rw [hfl]
          exact hot hov3 (by decide) (by decide)
      have HNEW := Lib.hid (show OfI w (w4.setCell ⟨qb, 2, none⟩ (.slice ba4 (k + 1) bc4)) p S P (some ⟨bb, bo, none⟩) c1 c2 c3 qb ⟨p.sec, p.par, (p.blk.map forwardS).take (k + 1)⟩ (.slice sa p.sec.length sc) (.slice pa p.par.length pc) (.slice ba4 (k + 1) bc4) (vs ++ [.slice A2 bk.ops.length ca2]) from
        ⟨⟨hot hI3.C.rs (by decide) (by decide), hot hI3.C.rp (by decide) (by decide), by (show (vs ++ [_]).length = ((p.blk.map forwardS).take (k + 1)).length); simp; omega, hrb, hro⟩, hX4.set 2 _, hX4'.other (by show w.heap.size ≠ qb; omega) _, hZ4'.other (by show w.heap.size + 1 ≠ qb; omega) _, hlt4.setCell (p := ⟨qb, 2, none⟩) (by show w.heap.size ≤ qb; omega) _, hqn⟩)
      clear hot hrb hro hlk hvl hfl hb34 hst hX4' hZ4' hX4 TB4 hlt4 hI3 hob4 hov3 hg4 CX4 FX4
      go_wp2_with fail
      go_roundw
      case rel => exact ⟨k + 1, _, _, by go_num, by omega, HNEW.out⟩
      case measure => simp [intOf]; omega
    · have hke : k = p.blk.length := by omega
      have htk : (p.blk.map forwardS).take k = p.blk.map forwardS := List.take_of_length_le (by simp; omega)
      rw [htk] at hI
      clear htk
      obtain ⟨ba, bc, rfl⟩ := own_shape' hI.C.rb
      have hFl : (p.blk.map forwardS).length = p.blk.length := by simp
      have CQ := hI.Q.cell
      have HMK := run_make_row' (P := Tryz.prog) 65 70 (.map none) 8 Tryz.underlying65 infoWants rfl .i64 .i64 p.blk.length (by omega) (by omega)
      go_upto_region 11 with (fail)
      obtain ⟨W2, hW2⟩ : ∃ W2, (wr.alloc (.cells (madeCells #[.map none] p.blk.length) 70)).alloc (.cells #[.slice (some ⟨wr.heap.size, 0, none⟩) p.blk.length p.blk.length] 65) = W2 := ⟨_, rfl⟩
      have hG2 : Bk W2 wr.heap.size (madeCells #[.map none] p.blk.length) 70 := by rw [← hW2]; exact (Bk.new wr _ _).alloc _
      have hib2 : Bk W2 (wr.heap.size + 1) #[.slice (some ⟨wr.heap.size, 0, none⟩) p.blk.length p.blk.length] 65 := by rw [← hW2]; exact Bk.newAt _ _ (by simp)
      have hbr2 : Below wr.heap.size wr W2 := by rw [← hW2]; exact ((Below.refl _ _).alloc (Nat.le_refl _) _).alloc (by simp) _
      have hs2 : W2.heap.size = wr.heap.size + 2 := by rw [← hW2]; simp
      rw [hW2]
      clear hW2 HMK CQ
      go_upto_region 12 with (fail)
      obtain ⟨bs, hbs⟩ : ∃ bs, p.blk.map forwardS = bs := ⟨_, rfl⟩
      have hokb := fold_blks HY.out
      rw [hbs] at hI hFl hokb
      have hI2 : OfI w wr p S P B c1 c2 c3 qb ⟨p.sec, p.par, bs⟩ (.slice sa p.sec.length sc) (.slice pa p.par.length pc) (.slice ba p.blk.length bc) vs := by rw [← hFl]; exact hI
      have hrb : wr.ownsRow w.heap.size 38 5 (.slice ba p.blk.length bc) bs.length (blksC bs vs) := hI2.C.rb
      have hvl : vs.length = bs.length := hI2.C.l
      have hws2 := hI2.lt.size
      have HI := Lib.hid hI2
      have HFL := Lib.hid hFl
      have HBS := Lib.hid hbs
      have HRB := Lib.hid hrb
      have HVL := Lib.hid hvl
      have HOB := Lib.hid hokb
      have hfo := fold_ops HY.out hsl HOK.out.ops
      rw [hbs] at hfo
      have HFO := Lib.hid hfo
      clear hfo
      have HSH := Lib.hid (fun (x : Fin bs.length) => show ∃ A c, (vs[x.val]'(by rw [HVL.out]; exact x.isLt)) = .slice A (bs[x.val]'x.isLt).ops.length c ∧ kOp.Row wr A (bs[x.val]'x.isLt).ops from opsRow_own (hI2.C.ro x.val x.isLt (by rw [hvl]; exact x.isLt)))
      have hbl2 : bs.length ≤ 100000 := by omega
      have hR2 : InsRow W2 wr.heap.size p.blk.length p.sec.length (fun _ _ => false) := insRow_made hG2
      have HS2 := Lib.hid hs2
      have HK := Lib.hid hke
      have hQ0 : ∀ W, Below wr.heap.size wr W → W.cell? ⟨qb, 2, none⟩ = some (.slice ba p.blk.length bc) := fun W hW => (HI.out.Q.mono hW).cell 2
      have HQ0 := Lib.hid hQ0
      have HA2 := Lib.hid (show Bk (W2.alloc (.cells #[.bool true] 4)) (wr.heap.size + 2) #[.bool true] 4 from Bk.newAt _ _ (by rw [hs2]))
      have hal : Below W2.heap.size W2 (W2.alloc (.cells #[.bool true] 4)) := (Below.refl _ _).alloc (Nat.le_refl _) _
      have hba := bt hbr2 hal
      have hRa := hR2.below hal
      have hIBa := hib2.mono hal
      clear hI hrb hvl hokb hs2 hke hQ0 hI2 hbs hG2 hib2 hR2 hal hbr2
      refine wp_loop_ghost (fun M a W => ∃ (Ds : List Nat) (ab : Nat) (ag : Bool) (ins : Int → Want) (t48 t49 t50 t51 t74 : Value), a = { tmps := #[.agg #[.slice S p.sec.length c1, .slice P p.par.length c2, .slice B p.blk.length c3], .pointer (some ⟨w.heap.size, 0, none⟩), .pointer (some ⟨w.heap.size + 1, 0, none⟩), .int .i64 0, .int .i64 0, .pointer (some ⟨qb, 0, none⟩), undef, u7, .pointer (some ⟨wr.heap.size + 1, 0, none⟩), .pointer (some ⟨ab, 0, none⟩), undef, undef, undef, undef, undef, undef, .agg #[.slice S p.sec.length c1, .slice P p.par.length c2, .slice B p.blk.length c3], .int .i64 0, .int .i64 0, .bool false, undef, undef, .pointer (some ⟨w.heap.size, 0, none⟩), .slice S p.sec.length c1, .slice sa p.sec.length sc, .pointer (some ⟨w.heap.size, 1, none⟩), .slice P p.par.length c2, .slice pa p.par.length pc, .agg #[.slice sa p.sec.length sc, .slice pa p.par.length pc, .slice none 0 0], .pointer (some ⟨w.heap.size, 2, none⟩), .slice B p.blk.length c3, .int .i64 p.blk.length, .int .i64 p.blk.length, .bool false, u34, u35, u36, u37, u38, u39, u40, u41, u42, u43, .pointer (some ⟨qb, 2, none⟩), .slice ba p.blk.length bc, .int .i64 p.blk.length, .slice (some ⟨wr.heap.size, 0, none⟩) p.blk.length p.blk.length, t48, t49, t50, t51, undef, undef, undef, undef, undef, undef, undef, undef, undef, undef, undef, undef, undef, undef, undef, undef, undef, undef, undef, undef, undef, undef, t74, undef, undef, undef, undef, undef, undef, undef, undef, undef, undef, undef, undef, undef, undef, undef, undef, undef, undef, undef, undef, undef, undef, undef], defers := Ds.map mkD } ∧ Below wr.heap.size wr W ∧ Ds.Nodup ∧ Marks W Ds ∧ (∀ D ∈ Ds, wr.heap.size ≤ D) ∧ wr.heap.size + 2 ≤ ab ∧ Bk W ab #[.bool ag] 4 ∧
        InsRow W wr.heap.size p.blk.length p.sec.length ins ∧ Bk W (wr.heap.size + 1) #[.slice (some ⟨wr.heap.size, 0, none⟩) p.blk.length p.blk.length] 65 ∧ SoFar bs p.sec.length ins ∧ (ag = false → FixedW bs ins) ∧ M = (if ag = true then bs.length * p.sec.length - sumSz ins p.sec.length bs.length + 1 else 0)) (bs.length * p.sec.length - sumSz (fun _ _ => false) p.sec.length bs.length + 1) ?h0 ?round
      case h0 => exact ⟨[], wr.heap.size + 2, true, fun _ _ => false, undef, undef, undef, undef, undef, rfl, hba, List.nodup_nil, (fun D h => by cases h), (fun D h => by cases h), Nat.le_refl _, HA2.out, hRa, hIBa, SoFar.z _ _, (fun h => by cases h), rfl⟩
      case round =>
        clear hba hRa hIBa
        rintro M a W ⟨Ds, ab, ag, ins, t48, t49, t50, t51, t74, rfl, hbr, hnd, hmk, hmg, hab, hA, hR, hIB, hSF, hfx, hM⟩
        have CA := hA.cell
        have FA := hA.free
        cases ag with
        | true =>
          go_upto_region 14 with (fail)
          have hT3 : TB (fun k => k = ab) W (W.setCell ⟨ab, 0, none⟩ (.bool false)) := TB.of_grown (set_grown W ab 0 _) (fun k e => by cases e; rfl)
          have hA3 : Bk (W.setCell ⟨ab, 0, none⟩ (.bool false)) ab #[.bool false] 4 := hA.set 0 _
          have hbr3 := hbr.trans (hT3.below hbr.size (by rintro k rfl; omega))
          have hmk3 : Marks (W.setCell ⟨ab, 0, none⟩ (.bool false)) Ds := hmk.tb hT3 (fun D hD e => by have := hmk D hD; unfold Bk at hA; rw [e, hA] at this; cases this)
          have hR3 := hR.tb hT3 (by omega) (fun m es clk hm e => by unfold Bk at hA; rw [e, hA] at hm; cases hm)
          have hIB3 := hIB.tb hT3 (by omega)
          have habW := hA.lt
          have hsW : (W.setCell ⟨ab, 0, none⟩ (.bool false)).heap.size = W.heap.size := by simp
          obtain ⟨W3, hW3⟩ : ∃ W3, W.setCell ⟨ab, 0, none⟩ (.bool false) = W3 := ⟨_, rfl⟩
          rw [hW3] at hT3 hA3 hbr3 hmk3 hR3 hIB3 hsW ⊢
          clear hW3 hA hbr hmk hR hIB CA FA hT3
          have cq := HQ0.out W3 hbr3
          go_wp2_with (go_at_call 33; go_must (refine (backwardBlk_c ba p.blk.length bc _).mono ?_); rintro e w7 ⟨rfl, rfl⟩)
          have B7 := Bk.new W3 #[.slice ba p.blk.length bc] 24
          have hal7 : Below W3.heap.size W3 (W3.alloc (.cells #[.slice ba p.blk.length bc] 24)) := (Below.refl _ _).alloc (Nat.le_refl _) _
          have hs7 : (W3.alloc (.cells #[.slice ba p.blk.length bc] 24)).heap.size = W3.heap.size + 1 := by simp
          have hOI7 : OI wr wr.heap.size ab p.blk.length p.sec.length bs ins Ds [] (W3.alloc (.cells #[.slice ba p.blk.length bc] 24)) := ⟨bt hbr3 hal7, hR3.below hal7, hA3.mono hal7, hIB3.mono hal7, hmk3.below hal7⟩
          obtain ⟨W7, hW7⟩ : ∃ W7, W3.alloc (.cells #[.slice ba p.blk.length bc] 24) = W7 := ⟨_, rfl⟩
          obtain ⟨s3, hs3⟩ : ∃ s3, W.heap.size = s3 := ⟨_, rfl⟩
          rw [hW7] at B7 hs7 hOI7 ⊢
          rw [hsW, hs3] at B7 hs7
          rw [hs3] at habW ⊢
          have hwr3 : wr.heap.size + 3 ≤ s3 := by omega
          have hablt : ab < s3 := habW
          clear hW7 hs3 hal7 hR3 hA3 hIB3 hmk3 hbr3 cq hsW
          refine (wpIn_wide (n := 9)).1 ?_
          refine range_goes (P := Tryz.prog) (α := Fin bs.length) (gf := 57) (lb := #[.pointer (some ⟨s3, 0, none⟩)]) rfl (Go.Proofs.YtoabiignjkcdmaaGreat.enters_of Tryz.func57 (by kernel_rfl) rfl)
            (fun x => #[.int .i64 (x.val : Int), blkV (vs[x.val]'(by rw [HVL.out]; exact x.isLt)) (bs[x.val]'x.isLt)]) (fun _ => rfl) (List.finRange bs.length).reverse bs.length (KpS (fun k => k < wr.heap.size ∨ k = s3)) (fun h1 h2 => KpS.trans h1 h2) ?kp ?iter
            (OI wr wr.heap.size ab p.blk.length p.sec.length bs ins Ds) hOI7 (fun pre W o h => h.below ((Below.refl _ _).alloc (Nat.le_refl _) _)) ?ip
            (fun x a' W => ∃ Bx, Bk W Bx (blkC5 (vs[x.val]'(by rw [HVL.out]; exact x.isLt)) (bs[x.val]'x.isLt).e (bs[x.val]'x.isLt).a (bs[x.val]'x.isLt).go (bs[x.val]'x.isLt).els) 38 ∧ a' = { tmps := #[.agg #[.slice S p.sec.length c1, .slice P p.par.length c2, .slice B p.blk.length c3], .pointer (some ⟨w.heap.size, 0, none⟩), .pointer (some ⟨w.heap.size + 1, 0, none⟩), .int .i64 0, .int .i64 0, .pointer (some ⟨qb, 0, none⟩), undef, u7, .pointer (some ⟨wr.heap.size + 1, 0, none⟩), .pointer (some ⟨ab, 0, none⟩), .int .i64 (x.val : Int), .pointer (some ⟨Bx, 0, none⟩), undef, undef, undef, undef, .agg #[.slice S p.sec.length c1, .slice P p.par.length c2, .slice B p.blk.length c3], .int .i64 0, .int .i64 0, .bool false, undef, undef, .pointer (some ⟨w.heap.size, 0, none⟩), .slice S p.sec.length c1, .slice sa p.sec.length sc, .pointer (some ⟨w.heap.size, 1, none⟩), .slice P p.par.length c2, .slice pa p.par.length pc, .agg #[.slice sa p.sec.length sc, .slice pa p.par.length pc, .slice none 0 0], .pointer (some ⟨w.heap.size, 2, none⟩), .slice B p.blk.length c3, .int .i64 p.blk.length, .int .i64 p.blk.length, .bool false, u34, u35, u36, u37, u38, u39, u40, u41, u42, u43, .pointer (some ⟨qb, 2, none⟩), .slice ba p.blk.length bc, .int .i64 p.blk.length, .slice (some ⟨wr.heap.size, 0, none⟩) p.blk.length p.blk.length, .bool true, .pointer (some ⟨qb, 2, none⟩), .slice ba p.blk.length bc, .func (.func 57) #[] #[.pointer (some ⟨s3, 0, none⟩)], .int .i64 (x.val : Int), blkV (vs[x.val]'(by rw [HVL.out]; exact x.isLt)) (bs[x.val]'x.isLt), undef, undef, undef, undef, undef, undef, undef, undef, undef, undef, undef, undef, undef, undef, undef, undef, undef, undef, undef, undef, t74, undef, undef, undef, undef, undef, undef, undef, undef, undef, undef, undef, undef, undef, undef, undef, undef, undef, undef, undef, undef, undef, undef, undef], defers := [] }) ?ax ?assign ?body ?done
          case kp =>
            intro W r o' h a v ha hc
            exact (World.cell?_of_block (World.putObj_heap_other (by rcases ha with ha | ha <;> omega))).trans hc
          case iter =>
            intro l J W hW hY h0
            refine (backBlk_in Fence.wide 8 trivial rfl (by omega) l s3 (fun k => k < wr.heap.size ∨ k = s3) bs vs HVL.out (by omega) ba bc J (fun _ _ => False) hY W ?_ (.inr rfl) ?_ ?_ h0).mono ?_
            · have := (B7.mono hW).cell 0
              rw [HFL.out]
              exact this
            · exact blkRow_of (own_below (own_below HRB.out hOI7.1) hW) HVL.out
            · intro hp bb o e
              refine .inl ?_
              have hrow := blkRow_of HRB.out HVL.out 0 hp (by rw [HVL.out]; exact hp)
              obtain ⟨b', o', e', g0, -⟩ := hrow
              rw [e] at e'
              cases e'
              exact World.block_lt_of_cell? wr _ g0
            · rintro e W' ⟨hv, h⟩
              refine ⟨hv, ?_⟩
              rcases h with ⟨ys, rfl, h⟩ | ⟨_, _, h⟩
              · exact h
              · exact h.elim
          case ip =>
            intro pre W r o' h hl
            have ht : TB (fun k => k = W7.heap.size + 1) W (W.putObj (W7.heap.size + 1) o') := TB.of_grown (grownBy_putObj' W (W7.heap.size + 1) o') (fun k e => by cases e; rfl)
            refine h.tb ht (by omega) (by omega) (by omega) (fun D hD e => ?_) (by rintro k rfl; omega) (fun m es clk hm e => by rw [e, hl] at hm; cases hm)
            have := h.2.2.2.2 D hD
            rw [e, hl] at this
            cases this
          case ax =>
            rintro x a' W r o' ⟨Bx, hBx, rfl⟩ hl
            have ht : TB (fun k => k = W7.heap.size + 1) W (W.putObj (W7.heap.size + 1) o') := TB.of_grown (grownBy_putObj' W (W7.heap.size + 1) o') (fun k e => by cases e; rfl)
            exact ⟨Bx, hBx.tb ht (fun e => by unfold Bk at hBx; rw [e, hl] at hBx; cases hBx), rfl⟩
          case assign =>
            rintro l pre x W K hi hsz hK
            obtain ⟨A1, c1', hva, -⟩ := HSH.out x
            rw [hva]
            rw [hva] at hK
            unfold blkV
            gi_wp2
            exact hK _ _ ⟨Below.heap_alloc _ _ _ (by omega), Below.heap_alloc _ _ _ (by omega)⟩ (KpS.alloc W _) (hi.below ((Below.refl _ _).alloc (Nat.le_refl _) _)) ⟨W.heap.size, Bk.new .., rfl⟩
          case body =>
            rintro l pre x a' W hsz ⟨o1, o2, o3, o4, o5⟩ ⟨Bx, hBx, rfl⟩ hlt
            have hsn := insSt_snoc bs p.sec.length ins pre x
            obtain ⟨A, cx, hva, hrow⟩ := HSH.out x
            have hok1 := HOB.out _ (List.getElem_mem x.isLt)
            have hfo1 := HFO.out _ (List.getElem_mem x.isLt)
            have hxl := x.isLt
            have hxp : x.val < p.blk.length := by have := HFL.out; omega
            unfold insSt1 at hsn
            rw [hva] at hBx ⊢
            obtain ⟨b, hbe⟩ : ∃ b, bs[x.val]'x.isLt = b := ⟨_, rfl⟩
            rw [hbe] at hsn hrow hok1 hfo1 hBx ⊢
            obtain ⟨st, hste⟩ : ∃ st, insSt bs p.sec.length ins pre = st := ⟨_, rfl⟩
            rw [hste] at hsn o2 o3
            have hrowW := hrow.mono o1
            have HBH := Lib.hid (behind_c b (.slice A b.ops.length cx) (some ⟨wr.heap.size, 0, none⟩) p.blk.length p.sec.length p.blk.length st.1 W.drew (o2.below (Below.refl _ _).drew).at hsl hok1.go hok1.els hbl)
            have HBK := Lib.hid (fun W2 m (h : Below W.heap.size W W2) (hm : WantAt W2 m p.sec.length (behindW b st.1)) => backward_c b A cx m p.sec.length (behindW b st.1) W2 (hrowW.mono h) hfo1.1 hsl hfo1.2 hok1.a hm)
            have hSX : ∀ V, Below W.heap.size W V → V.cell? ⟨Bx, 0, none⟩ = some (.slice A b.ops.length cx) ∧ V.cell? ⟨Bx, 1, none⟩ = some (.int .u8 b.e) ∧ V.cell? ⟨Bx, 2, none⟩ = some (.int .i64 b.a) ∧ V.cell? ⟨Bx, 3, none⟩ = some (.int .i64 b.go) ∧ V.cell? ⟨Bx, 4, none⟩ = some (.int .i64 b.els) ∧ V.cell? ⟨wr.heap.size + 1, 0, none⟩ = some (.slice (some ⟨wr.heap.size, 0, none⟩) p.blk.length p.blk.length) := fun V hV => ⟨(hBx.mono hV).cell 0, (hBx.mono hV).cell 1, (hBx.mono hV).cell 2, (hBx.mono hV).cell 3, (hBx.mono hV).cell 4, (o4.mono hV).cell 0⟩
            have HSX := Lib.hid hSX
            clear hSX hste hbe hok1 hfo1 hrow hva
            unfold blkV
            dsimp only
            refine wpIn_block ?_
            refine wpIn_seq ?_
            refine startInM_ (n0 := 10) (S := fun w' => w'.cell? ⟨Bx, 0, none⟩ = some (.slice A b.ops.length cx) ∧ w'.cell? ⟨Bx, 1, none⟩ = some (.int .u8 b.e) ∧ w'.cell? ⟨Bx, 2, none⟩ = some (.int .i64 b.a) ∧ w'.cell? ⟨Bx, 3, none⟩ = some (.int .i64 b.go) ∧ w'.cell? ⟨Bx, 4, none⟩ = some (.int .i64 b.els) ∧ w'.cell? ⟨wr.heap.size + 1, 0, none⟩ = some (.slice (some ⟨wr.heap.size, 0, none⟩) p.blk.length p.blk.length)) (ds := []) (bz 10 0) (by kernel_rfl) rfl rfl (by kernel_rfl) (HSX.out _ (Below.refl _ _).drew) (fun hHeld => ?_)
            refine take_ (i := 0) (N := (some 55)) (v := ?_) (a' := ?_) (bz 10 1) rfl rfl (by kernel_rfl) (fun _ _ _ h => h) (Or.inl ⟨by rfl, ?_⟩) hHeld ?_ ?_
            rotate_left
            · rintro w' ⟨s0, s1, s2, s3, s4, s5⟩
              go_simp
              with_reducible rfl
            rotate_left
            · simp only [Act.put, sa_, sb_, sc_]
              rfl
            refine take_ (i := 1) (N := (some 56)) (v := ?_) (a' := ?_) (bz 10 3) rfl rfl (by kernel_rfl) (fun _ _ _ h => h) (Or.inl ⟨by rfl, ?_⟩) hHeld ?_ ?_
            rotate_left
            · rintro w' ⟨s0, s1, s2, s3, s4, s5⟩
              go_simp
              with_reducible rfl
            rotate_left
            · simp only [Act.put, sa_, sb_, sc_]
              rfl
            refine take_ (i := 2) (N := (some 57)) (v := ?_) (a' := ?_) (bz 10 7) rfl rfl (by kernel_rfl) (fun _ _ _ h => h) (Or.inl ⟨by rfl, ?_⟩) hHeld ?_ ?_
            rotate_left
            · rintro w' ⟨s0, s1, s2, s3, s4, s5⟩
              go_simp
              with_reducible rfl
            rotate_left
            · simp only [Act.put, sa_, sb_, sc_]
              rfl
            refine one_ (i := 3) (N := (some 58)) (bz 10 15) rfl rfl (by kernel_rfl) (by decide) (fun K hK => ?_)
            refine goes_ Tryz.func35 (by kernel_rfl) rfl #[.agg (blkC5 (.slice A b.ops.length cx) b.e b.a b.go b.els), .slice (some ⟨wr.heap.size, 0, none⟩) p.blk.length p.blk.length] (by rfl) rfl rfl (by (try simp only [List.map_toArray, List.map_cons, List.map_nil]); first | done | rfl) ?_
            refine HBH.out.mono ?_
            rintro e2 w2 ⟨m2, rfl, hm2, hW2, hb2⟩
            refine ⟨_, rfl, ?_⟩
            have hb2' : Below W.heap.size W w2 := bt' (Below.refl W.heap.size W).drew (Nat.le_refl _) hb2
            refine hK.out _ _ (HSX.out _ hb2') (fun hHeld => ?_)
            clear hK K
            refine norm_ (a' := ?_) ?_ ?_
            rotate_left
            · show Act.put _ (some 58) _ = _
              simp only [Act.put, sa_, sb_, sc_]
              rfl
            refine one_ (i := 4) (N := (some 59)) (bz 10 31) rfl rfl (by kernel_rfl) (by decide) (fun K hK => ?_)
            refine goes_ Tryz.func34 (by kernel_rfl) rfl #[.agg (blkC5 (.slice A b.ops.length cx) b.e b.a b.go b.els), .map (some m2)] (by rfl) rfl rfl (by (try simp only [List.map_toArray, List.map_cons, List.map_nil]); first | done | rfl) ?_
            refine (HBK.out w2 m2 hb2' hW2).mono ?_
            rintro e3 w3 ⟨v3, m3, rfl, hown3, hm3, hW3, hb3'⟩
            refine ⟨_, rfl, ?_⟩
            have hb3 := bt hb2' hb3'
            refine hK.out _ _ (HSX.out _ hb3) (fun hHeld => ?_)
            clear hK K
            refine norm_ (a' := ?_) ?_ ?_
            rotate_left
            · show Act.put _ (some 59) _ = _
              simp only [Act.put, sa_, sb_, sc_]
              rfl
            refine pure_ (i := 5) (N := (some 54)) (v := ?_) (a' := ?_) (bz 10 63) rfl rfl (by kernel_rfl) (fun _ _ _ h => h) (Or.inl ⟨by rfl, ?_⟩) ?_ ?_
            rotate_left
            · intro w'
              go_simp
              with_reducible rfl
            rotate_left
            · simp only [Act.put, sa_, sb_, sc_]
              rfl
            refine pure_ (i := 6) (N := (some 60)) (v := ?_) (a' := ?_) (bz 10 127) rfl rfl (by kernel_rfl) (fun _ _ _ h => h) (Or.inl ⟨by rfl, ?_⟩) ?_ ?_
            rotate_left
            · intro w'
              go_simp
              with_reducible rfl
            rotate_left
            · simp only [Act.put, sa_, sb_, sc_]
              rfl
            refine pure_ (i := 7) (N := (some 61)) (v := ?_) (a' := ?_) (bz 10 255) rfl rfl (by kernel_rfl) (fun _ _ _ h => h) (Or.inl ⟨by rfl, ?_⟩) ?_ ?_
            rotate_left
            · intro w'
              go_simp
              with_reducible rfl
            rotate_left
            · simp only [Act.put, sa_, sb_, sc_]
              rfl
            refine pure_ (i := 8) (N := (some 12)) (v := ?_) (a' := ?_) (bz 10 511) rfl rfl (by kernel_rfl) (fun _ _ _ h => h) (Or.inl ⟨by rfl, ?_⟩) ?_ ?_
            rotate_left
            · intro w'
              go_simp
              with_reducible rfl
            rotate_left
            · simp only [Act.put, sa_, sb_, sc_]
              rfl
            refine pure_ (i := 9) (N := (some 13)) (v := ?_) (a' := ?_) (bz 10 1023) rfl rfl (by kernel_rfl) (fun _ _ _ h => h) (Or.inl ⟨by rfl, ?_⟩) ?_ ?_
            rotate_left
            · intro w'
              go_simp
              with_reducible rfl
            rotate_left
            · simp only [Act.put, sa_, sb_, sc_]
              rfl
            refine done_ (by kernel_rfl) ?_
            dsimp only [onlyN, Exit.then]
            clear hHeld HBH HBK HSX
            obtain ⟨p0, hc0, hs0⟩ : ∃ p0, W.cell? ⟨wr.heap.size, x.val, none⟩ = some (.map p0) ∧ SlotAt W p0 p.sec.length (st.1 (x.val : Int)) := by
              obtain ⟨b9, o9, p9, e9, h91, h92⟩ := o2.at x.val (by have := HFL.out; omega)
              cases e9
              rw [Nat.zero_add] at h91
              exact ⟨p9, h91, h92⟩
            obtain ⟨z1, hz1⟩ : ∃ z1, (backB b st.1).2.sz p.sec.length = z1 := ⟨_, rfl⟩
            obtain ⟨z2, hz2⟩ : ∃ z2, (st.1 (x.val : Int)).sz p.sec.length = z2 := ⟨_, rfl⟩
            have HL1 := Lib.hid (fun (V : World) (hV : Below w3.heap.size w3 V) ty => by have := wantLen (hW3.below hV) ty; rw [show (backL b.ops (endW b (behindW b st.1))).2.sz p.sec.length = z1 from hz1] at this; exact this)
            have HL2 := Lib.hid (fun (V : World) (hV : Below W.heap.size W V) ty => by have := slotLen (hs0.below hV) ty; rw [hz2] at this; exact this)
            rw [hz1, hz2] at hsn
            have hSY : ∀ V, Below W.heap.size W V → V.cell? ⟨wr.heap.size + 1, 0, none⟩ = some (.slice (some ⟨wr.heap.size, 0, none⟩) p.blk.length p.blk.length) ∧ V.cell? ⟨wr.heap.size, x.val, none⟩ = some (.map p0) := fun V hV => ⟨(o4.mono hV).cell 0, cm hc0 hV⟩
            have HSY := Lib.hid hSY
            have HSN := Lib.hid hsn
            have hb4 := bt hb3 (Below.refl w3.heap.size w3).drew
            have HSC := Lib.hid hc0
            clear hSY hsn hz1 hz2 hc0 hs0
            refine wpIn_seq ?_
            refine startInM_ (n0 := 8) (S := fun w' => w'.cell? ⟨wr.heap.size + 1, 0, none⟩ = some (.slice (some ⟨wr.heap.size, 0, none⟩) p.blk.length p.blk.length) ∧ w'.cell? ⟨wr.heap.size, x.val, none⟩ = some (.map p0)) (ds := []) (bz 8 0) (by kernel_rfl) rfl rfl (by kernel_rfl) (HSY.out _ hb4) (fun hHeld => ?_)
            refine pure_ (i := 0) (N := (some 62)) (v := ?_) (a' := ?_) (bz 8 1) rfl rfl (by kernel_rfl) (fun _ _ _ h => h) (Or.inl ⟨by rfl, ?_⟩) ?_ ?_
            rotate_left
            · intro w'
              go_simp
              with_reducible rfl
            rotate_left
            · simp only [Act.put, sa_, sb_, sc_]
              rfl
            refine pure_ (i := 3) (N := (some 65)) (v := ?_) (a' := ?_) (bz 8 9) rfl rfl (by kernel_rfl) (fun _ _ _ h => h) (Or.inl ⟨by rfl, ?_⟩) ?_ ?_
            rotate_left
            · intro w'
              go_simp
              with_reducible rfl
            rotate_left
            · simp only [Act.put, sa_, sb_, sc_]
              rfl
            refine take_ (i := 2) (N := (some 64)) (v := ?_) (a' := ?_) (bz 8 13) rfl rfl (by kernel_rfl) (fun _ _ _ h => h) (Or.inl ⟨by rfl, ?_⟩) hHeld ?_ ?_
            rotate_left
            · rintro w' ⟨s0, s1⟩
              go_simp
              with_reducible rfl
            rotate_left
            · simp only [Act.put, sa_, sb_, sc_]
              rfl
            refine pure_ (i := 4) (N := (some 66)) (v := ?_) (a' := ?_) (bz 8 29) rfl rfl (by kernel_rfl) (fun _ _ _ h => h) (Or.inl ⟨by rfl, ?_⟩) ?_ ?_
            rotate_left
            · intro w'
              go_simp
              with_reducible rfl
            rotate_left
            · simp only [Act.put, sa_, sb_, sc_]
              rfl
            refine take_ (i := 5) (N := (some 67)) (v := ?_) (a' := ?_) (bz 8 61) rfl rfl (by kernel_rfl) (fun _ _ _ h => h) (Or.inl ⟨by rfl, ?_⟩) hHeld ?_ ?_
            rotate_left
            · rintro w' ⟨s0, s1⟩
              go_simp
              with_reducible rfl
            rotate_left
            · simp only [Act.put, sa_, sb_, sc_]
              rfl
            refine one_ (i := 1) (N := (some 63)) (bz 8 63) rfl rfl (by kernel_rfl) (by decide) (fun K hK => ?_)
            refine len_ (by rfl) rfl _ _ rfl _ rfl _ (HL1.out _ (Below.refl _ _).drew) ?_
            refine hK.out _ _ hHeld (fun hHeld => ?_)
            clear hK K
            refine norm_ (a' := ?_) ?_ ?_
            rotate_left
            · show Act.put _ (some 63) _ = _
              simp only [Act.put, sa_, sb_, sc_]
              rfl
            refine one_ (i := 6) (N := (some 68)) (bz 8 127) rfl rfl (by kernel_rfl) (by decide) (fun K hK => ?_)
            refine len_ (by rfl) rfl _ _ rfl _ rfl _ (HL2.out _ hb4) ?_
            refine hK.out _ _ hHeld (fun hHeld => ?_)
            clear hK K
            refine norm_ (a' := ?_) ?_ ?_
            rotate_left
            · show Act.put _ (some 68) _ = _
              simp only [Act.put, sa_, sb_, sc_]
              rfl
            refine pure_ (i := 7) (N := (some 69)) (v := ?_) (a' := ?_) (bz 8 255) rfl rfl (by kernel_rfl) (fun _ _ _ h => h) (Or.inl ⟨by rfl, ?_⟩) ?_ ?_
            rotate_left
            · intro w'
              go_simp
              with_reducible rfl
            rotate_left
            · simp only [Act.put, sa_, sb_, sc_]
              rfl
            refine done_ (by kernel_rfl) ?_
            dsimp only [onlyN, Exit.then]
            have hW5 : WantAt w3.drew m3 p.sec.length (backB b st.1).2 := hW3.below (Below.refl _ _).drew
            have o2' := o2.below hb4
            have o3' := o3.mono hb4
            obtain ⟨V0, hV0⟩ : ∃ V0, w3.drew = V0 := ⟨_, rfl⟩
            rw [hV0] at hW5 o2' o3' hb4 ⊢
            clear HL1 HL2 hHeld hV0
            by_cases hz : z1 = z2
            · have HN := Lib.hid ((HSN.out).trans (if_neg (by simp [hz])))
              subst hz
              clear HSN HSY
              gi_wp2_with fail
              refine ⟨⟨hb4.block _ (by omega), hb4.block _ (by omega)⟩, KpS.of_tb (T := fun _ => False) (TB.of_below hb4) (fun _ _ h => h), ?_⟩
              unfold OI
              rw [HN.out]
              exact ⟨bt o1 hb4, o2', o3', o4.mono hb4, o5.below hb4⟩
            · have HN := Lib.hid ((HSN.out).trans (if_pos hz))
              have hzi : ¬ (z1 : Int) = (z2 : Int) := by omega
              obtain ⟨cur, hcur, hcs, -⟩ := id o2'
              have cx0 := cm HSC.out hb4
              have fx0 := hcur.free x.val
              have A9 := o3'.other (a := ⟨wr.heap.size, x.val, none⟩) (by show ab ≠ wr.heap.size; omega) (.map (some m3))
              have cab := o3'.cell 0
              have fab := o3'.free 0
              have hgab : ab ≠ wr.heap.size := by omega
              have ci4 := (o4.mono hb4).cell 0
              clear HSN HSY hz hcur hcs
              gi_wp2_with fail
              have hT : TB (fun k => k = wr.heap.size ∨ k = ab) W ((V0.setCell ⟨wr.heap.size, x.val, none⟩ (.map (some m3))).setCell ⟨ab, 0, none⟩ (.bool true)) :=
                ((TB.of_below hb4).trans (TB.of_grown (set_grown _ wr.heap.size x.val _) (fun k e => by cases e; exact .inl rfl))).trans (TB.of_grown (set_grown _ ab 0 _) (fun k e => by cases e; exact .inr rfl))
              have hT2 : TB (fun k => k = ab) (V0.setCell ⟨wr.heap.size, x.val, none⟩ (.map (some m3))) ((V0.setCell ⟨wr.heap.size, x.val, none⟩ (.map (some m3))).setCell ⟨ab, 0, none⟩ (.bool true)) := TB.of_grown (set_grown _ ab 0 _) (fun k e => by cases e; rfl)
              refine ⟨⟨hT.block _ (by omega) (by rintro (e | e) <;> omega), hT.block _ (by omega) (by rintro (e | e) <;> omega)⟩, KpS.of_tb hT (by rintro k (h | h) (e | e) <;> omega), ?_⟩
              unfold OI
              rw [HN.out]
              refine ⟨o1.trans (hT.below o1.size (by rintro k (e | e) <;> omega)), (o2'.put hxp hW5).tb hT2 (by omega) (fun m es clk hm e => by have hA9 := A9; unfold Bk at hA9; rw [e, hA9] at hm; cases hm), A9.set 0 _, o4.tb hT (by rintro (e | e) <;> omega), o5.tb hT (fun D hD e => ?_)⟩
              obtain ⟨cur0, hcur0, -, -⟩ := o2
              have h5 := o5 D hD
              rcases e with e | e
              · unfold Bk at hcur0
                rw [e, hcur0] at h5
                cases h5
              · unfold Bk at o3
                rw [e, o3] at h5
                cases h5
          case done =>
            intro W8 h8 hd8
            have hRL := round_law HOB.out hSF
            unfold OI at h8
            obtain ⟨⟨ins', ag'⟩, hst⟩ : ∃ st, insSt bs p.sec.length ins (List.finRange bs.length).reverse = st := ⟨_, rfl⟩
            rw [hst] at h8 hRL
            obtain ⟨o1, o2, o3, o4, o5⟩ := h8
            simp only at hRL o2 o3
            have HM := Lib.hid hM
            have C3 := o3.cell 0
            have HRL := Lib.hid hRL
            have HO7 := Lib.hid (⟨hOI7.2.2.2.2, hOI7.1.size⟩ : Marks W7 Ds ∧ wr.heap.size ≤ W7.heap.size)
            clear hRL hM hst hSF hOI7
            go_wp2_with fail
            have hal8 : Below W8.heap.size W8 (W8.alloc (.cells #[.bool ag'] 4)) := (Below.refl _ _).alloc (Nat.le_refl _) _
            obtain ⟨r1, r2, r3⟩ := HRL.out
            have hM := HM.out
            have hd7 := HO7.out
            have hlt8 := o4.lt
            have hd9 : (W8.alloc (.cells #[.bool ag'] 4)).heap[W7.heap.size]? = some (.deferred (some [])) := (hal8.block _ (Array.getElem?_eq_some_iff.1 hd8).1).trans hd8
            have hsum := sumSz_le ins' p.sec.length bs.length
            refine ⟨if ag' = true then bs.length * p.sec.length - sumSz ins' p.sec.length bs.length + 1 else 0, ?_, W7.heap.size :: Ds, W8.heap.size, ag', ins', _, _, _, _, _, rfl, bt o1 hal8, List.nodup_cons.2 ⟨fun hD => ?_, hnd⟩, ?_, ?_, ?_, Bk.new .., o2.below hal8, o4.mono hal8, r1, r2, rfl⟩
            · rw [if_pos trivial] at hM
              cases ag' with
              | true =>
                have := r3 rfl
                rw [if_pos rfl]
                omega
              | false =>
                rw [if_neg (by decide)]
                omega
            · have := (Array.getElem?_eq_some_iff.1 (hd7.1 _ hD)).1
              omega
            · intro D hD
              rcases List.mem_cons.1 hD with rfl | hD
              · exact hd9
              · exact (hal8.block _ (Array.getElem?_eq_some_iff.1 (o5 D hD)).1).trans (o5 D hD)
            · intro D hD
              rcases List.mem_cons.1 hD with rfl | hD
              · exact hd7.2
              · exact hmg D hD
            · omega
        | false =>
          have hFX := hfx rfl
          have hIW := HI.out.below (show Below wr.heap.size wr W from hbr)
          have CQ := hIW.Q.cell
          have HFX := Lib.hid hFX
          have HNM := Lib.hid (⟨hnd, hmk⟩ : Ds.Nodup ∧ Marks W Ds)
          have HIB := Lib.hid hIB
          clear hfx hFX hM hSF
          go_upto_region 22 with (fail)
          clear CA FA hA
          go_upto_region 23 with (fail)
          clear CQ hIB
          have hIB := HIB.out
          obtain ⟨gi, hgi⟩ : ∃ gi, gi = wr.heap.size := ⟨_, rfl⟩
          have HGI := Lib.hid hgi
          rw [← hgi] at hR hIB hmg ⊢
          clear hgi
          go_loopw [78] (fun s V => ∃ (k : Nat) (vs : List Value), s = .int .i64 k ∧ k ≤ p.blk.length ∧ OfI w V p S P B c1 c2 c3 qb ⟨p.sec, p.par, mix ins bs k⟩ (.slice sa p.sec.length sc) (.slice pa p.par.length pc) (.slice ba p.blk.length bc) vs ∧ InsRow V gi p.blk.length p.sec.length ins ∧ Bk V (gi + 1) #[.slice (some ⟨gi, 0, none⟩) p.blk.length p.blk.length] 65 ∧ Marks V Ds) (fun s _ => p.blk.length - (intOf s).toNat)
          case atStart => exact ⟨0, vs, rfl, Nat.zero_le _, by rw [mix_zero]; exact hIW, hR, hIB, HNM.out.2⟩
          case round =>
            clear hIW hR hIB hbr
            obtain ⟨k, vs, rfl, hk, hI, hR, hIB, hmk⟩ := hrel
            by_cases hlt : k < p.blk.length
            · have hrbV : wr.ownsRow w.heap.size 38 5 (.slice ba p.blk.length bc) (mix ins bs k).length (blksC (mix ins bs k) vs) := hI.C.rb
              have hlm : (mix ins bs k).length = bs.length := mix_len ins bs k (by have := HFL.out; omega)
              have hlv : vs.length = bs.length := hI.C.l.trans hlm
              have hkb : k < bs.length := by have := HFL.out; omega
              obtain ⟨g, cur, rfl, hcur⟩ : ∃ g cur, ba = some ⟨g, 0, none⟩ ∧ Bk wr g cur 38 := by
                rcases hrbV.2 with ⟨e, e2⟩ | ⟨g, _, cur, e, hg, hh, _⟩
                · omega
                · injection e with e1
                  exact ⟨g, cur, e1, hh⟩
              have hlp : (mix ins bs k).length = p.blk.length := hlm.trans HFL.out
              have hrbP := hrbV
              rw [hlp] at hrbP
              have HKY := Lib.hid (show k < (mix ins bs k).length by omega)
              have hgwr : g < gi := by
                have hgi := HGI.out
                rcases HRB.out.2 with ⟨e, e2⟩ | ⟨g', _, cur', e, hg, hh, _⟩
                · injection e with e1
                  cases e1
                · injection e with e1
                  injection e1 with e1
                  injection e1 with e1
                  rw [e1, hgi]
                  exact (Array.getElem?_eq_some_iff.1 hh).1
              have key : ∀ j, j < 5 → wr.cell? ⟨g, k * 5 + j, none⟩ = (blkC ((mix ins bs k)[k]'(by omega)) (vs[k]'(by omega)))[j]? := fun j hj => by
                rw [← blksC_get (mix ins bs k) vs k (by omega) (by omega) j hj]
                exact World.ownsRow.cellAt hrbP (k * 5 + j) (by omega)
              obtain ⟨A, ck, hva, hrow⟩ := opsRow_own (hI.C.ro k (show k < (mix ins bs k).length by omega) (by omega))
              have hrow' : kOp.Row wr A ((mix ins bs k)[k]'(by omega)).ops := hrow
              have hva' : vs[k]'(by omega) = .slice A ((mix ins bs k)[k]'(by omega)).ops.length ck := hva
              rw [mix_at ins bs k hkb] at hrow'
              rw [hva', mix_at ins bs k hkb] at key
              have HMX := Lib.hid (show mix ins bs (k + 1) = (mix ins bs k).set k { ((mix ins bs k)[k]'HKY.out) with ops := (backB bs[k] ins).1 } by rw [mix_succ ins bs k hkb, mix_at ins bs k hkb]; rfl)
              have hok1 := HOB.out _ (List.getElem_mem hkb)
              have hfo1 := HFO.out _ (List.getElem_mem hkb)
              obtain ⟨bk, hbk⟩ : ∃ bk, bs[k] = bk := ⟨_, rfl⟩
              rw [hbk] at key hrow' HMX hok1 hfo1
              have g0 : wr.cell? ⟨g, k * 5, none⟩ = some (.slice A bk.ops.length ck) := key 0 (by decide)
              have g1 : wr.cell? ⟨g, k * 5 + 1, none⟩ = some (.int .u8 bk.e) := key 1 (by decide)
              have g2 : wr.cell? ⟨g, k * 5 + 2, none⟩ = some (.int .i64 bk.a) := key 2 (by decide)
              have g3 : wr.cell? ⟨g, k * 5 + 3, none⟩ = some (.int .i64 bk.go) := key 3 (by decide)
              have g4 : wr.cell? ⟨g, k * 5 + 4, none⟩ = some (.int .i64 bk.els) := key 4 (by decide)
              have HG0 := Lib.hid g0
              clear hbk hva hva' hrow key hlm hlv hlp hrbP
              go_upto_region 25 with (fail)
              obtain ⟨Wb, hWb⟩ : ∃ Wb, Wb = wr.alloc (.cells #[.slice A bk.ops.length ck, .int .u8 bk.e, .int .i64 bk.a, .int .i64 bk.go, .int .i64 bk.els] 38) := ⟨_, rfl⟩
              rw [← hWb]
              have BB : Bk Wb wr.heap.size #[.slice A bk.ops.length ck, .int .u8 bk.e, .int .i64 bk.a, .int .i64 bk.go, .int .i64 bk.els] 38 := by rw [hWb]; exact Bk.new wr _ _
              have hbb : Below wr.heap.size wr Wb := by rw [hWb]; exact (Below.refl wr.heap.size wr).alloc (Nat.le_refl _) _
              obtain ⟨nb, hnb⟩ : ∃ nb, nb = wr.heap.size := ⟨_, rfl⟩
              rw [← hnb] at BB ⊢
              clear hWb hnb g0 g1 g2 g3 g4
              have hIb := hI.below hbb
              have hRb := hR.below hbb
              have hIBb := hIB.mono hbb
              have hmkb := hmk.below hbb
              have hcurb := hcur.mono hbb
              have HG0 := Lib.hid (cm HG0.out hbb)
              have hrowb := hrow'.mono hbb
              have HBH := Lib.hid (behind_c bk (.slice A bk.ops.length ck) (some ⟨gi, 0, none⟩) p.blk.length p.sec.length p.blk.length ins Wb.drew (hRb.below (Below.refl _ _).drew).at hsl hok1.go hok1.els hbl)
              have HBK := Lib.hid (fun W2 m (h : Below Wb.heap.size Wb W2) (hm : WantAt W2 m p.sec.length (behindW bk ins)) => backward_c bk A ck m p.sec.length (behindW bk ins) W2 (hrowb.mono h) hfo1.1 hsl hfo1.2 hok1.a hm)
              have hSX : ∀ V, Below Wb.heap.size Wb V → V.cell? ⟨nb, 0, none⟩ = some (.slice A bk.ops.length ck) ∧ V.cell? ⟨nb, 1, none⟩ = some (.int .u8 bk.e) ∧ V.cell? ⟨nb, 2, none⟩ = some (.int .i64 bk.a) ∧ V.cell? ⟨nb, 3, none⟩ = some (.int .i64 bk.go) ∧ V.cell? ⟨nb, 4, none⟩ = some (.int .i64 bk.els) ∧ V.cell? ⟨gi + 1, 0, none⟩ = some (.slice (some ⟨gi, 0, none⟩) p.blk.length p.blk.length) ∧ V.cell? ⟨qb, 2, none⟩ = some (.slice (some ⟨g, 0, none⟩) p.blk.length bc) := fun V hV => ⟨(BB.mono hV).cell 0, (BB.mono hV).cell 1, (BB.mono hV).cell 2, (BB.mono hV).cell 3, (BB.mono hV).cell 4, (hIBb.mono hV).cell 0, (hIb.Q.mono hV).cell 2⟩
              have HSX := Lib.hid hSX
              clear hSX hok1 hfo1 hrow' hrowb hI hR hIB hmk hcur BB hbb hrbV
              refine startM_ (n := 14) (S := fun w' => w'.cell? ⟨nb, 0, none⟩ = some (.slice A bk.ops.length ck) ∧ w'.cell? ⟨nb, 1, none⟩ = some (.int .u8 bk.e) ∧ w'.cell? ⟨nb, 2, none⟩ = some (.int .i64 bk.a) ∧ w'.cell? ⟨nb, 3, none⟩ = some (.int .i64 bk.go) ∧ w'.cell? ⟨nb, 4, none⟩ = some (.int .i64 bk.els) ∧ w'.cell? ⟨gi + 1, 0, none⟩ = some (.slice (some ⟨gi, 0, none⟩) p.blk.length p.blk.length) ∧ w'.cell? ⟨qb, 2, none⟩ = some (.slice (some ⟨g, 0, none⟩) p.blk.length bc)) (ds := [13]) (bz 14 0) (by kernel_rfl) rfl rfl (HSX.out _ (Below.refl _ _).drew) (fun hHeld => ?_)
              refine pure_ (i := 0) (N := (some 84)) (v := ?_) (a' := ?_) (bz 14 1) rfl rfl (by kernel_rfl) (fun _ _ _ h => h) (Or.inl ⟨by rfl, ?_⟩) ?_ ?_
              rotate_left
              · intro w'
                go_simp
                with_reducible rfl
              rotate_left
              · simp only [Act.put, sa_, sb_, sc_]
                rfl
              refine pure_ (i := 2) (N := (some 86)) (v := ?_) (a' := ?_) (bz 14 5) rfl rfl (by kernel_rfl) (fun _ _ _ h => h) (Or.inl ⟨by rfl, ?_⟩) ?_ ?_
              rotate_left
              · intro w'
                go_simp
                with_reducible rfl
              rotate_left
              · simp only [Act.put, sa_, sb_, sc_]
                rfl
              refine take_ (i := 1) (N := (some 85)) (v := ?_) (a' := ?_) (bz 14 7) rfl rfl (by kernel_rfl) (fun _ _ _ h => h) (Or.inl ⟨by rfl, ?_⟩) hHeld ?_ ?_
              rotate_left
              · rintro w' ⟨s0, s1, s2, s3, s4, s5, s6⟩
                go_simp
                with_reducible rfl
              rotate_left
              · simp only [Act.put, sa_, sb_, sc_]
                rfl
              refine take_ (i := 3) (N := (some 87)) (v := ?_) (a' := ?_) (bz 14 15) rfl rfl (by kernel_rfl) (fun _ _ _ h => h) (Or.inl ⟨by rfl, ?_⟩) hHeld ?_ ?_
              rotate_left
              · rintro w' ⟨s0, s1, s2, s3, s4, s5, s6⟩
                go_simp
                with_reducible rfl
              rotate_left
              · simp only [Act.put, sa_, sb_, sc_]
                rfl
              refine take_ (i := 4) (N := (some 88)) (v := ?_) (a' := ?_) (bz 14 31) rfl rfl (by kernel_rfl) (fun _ _ _ h => h) (Or.inl ⟨by rfl, ?_⟩) hHeld ?_ ?_
              rotate_left
              · rintro w' ⟨s0, s1, s2, s3, s4, s5, s6⟩
                go_simp
                with_reducible rfl
              rotate_left
              · simp only [Act.put, sa_, sb_, sc_]
                rfl
              refine take_ (i := 5) (N := (some 89)) (v := ?_) (a' := ?_) (bz 14 63) rfl rfl (by kernel_rfl) (fun _ _ _ h => h) (Or.inl ⟨by rfl, ?_⟩) hHeld ?_ ?_
              rotate_left
              · rintro w' ⟨s0, s1, s2, s3, s4, s5, s6⟩
                go_simp
                with_reducible rfl
              rotate_left
              · simp only [Act.put, sa_, sb_, sc_]
                rfl
              refine one_ (i := 6) (N := (some 90)) (bz 14 127) rfl rfl (by kernel_rfl) (by decide) (fun K hK => ?_)
              refine goes_ Tryz.func35 (by kernel_rfl) rfl #[.agg (blkC5 (.slice A bk.ops.length ck) bk.e bk.a bk.go bk.els), .slice (some ⟨gi, 0, none⟩) p.blk.length p.blk.length] (by rfl) rfl rfl (by (try simp only [List.map_toArray, List.map_cons, List.map_nil]); first | done | rfl) ?_
              refine HBH.out.mono ?_
              rintro e2 w2 ⟨m2, rfl, hm2, hW2, hb2⟩
              refine ⟨_, rfl, ?_⟩
              have hb2' : Below Wb.heap.size Wb w2 := bt' (Below.refl Wb.heap.size Wb).drew (Nat.le_refl _) hb2
              refine hK.out _ _ (HSX.out _ hb2') (fun hHeld => ?_)
              clear hK K
              refine norm_ (a' := ?_) ?_ ?_
              rotate_left
              · show Act.put _ (some 90) _ = _
                simp only [Act.put, sa_, sb_, sc_]
                rfl
              refine one_ (i := 7) (N := (some 91)) (bz 14 255) rfl rfl (by kernel_rfl) (by decide) (fun K hK => ?_)
              refine goes_ Tryz.func34 (by kernel_rfl) rfl #[.agg (blkC5 (.slice A bk.ops.length ck) bk.e bk.a bk.go bk.els), .map (some m2)] (by rfl) rfl rfl (by (try simp only [List.map_toArray, List.map_cons, List.map_nil]); first | done | rfl) ?_
              refine (HBK.out w2 m2 hb2' hW2).mono ?_
              rintro e3 w3 ⟨v3, m3, rfl, hown3, hm3, hW3, hb3'⟩
              refine ⟨_, rfl, ?_⟩
              have hb3 := bt hb2' hb3'
              have hcur3 := hcurb.mono hb3
              have hc3 : ∃ v, w3.cell? ⟨g, k * 5, none⟩ = some v := ⟨_, cm HG0.out hb3⟩
              obtain ⟨vx, hc3⟩ := hc3
              have hf3 := hcur3.free (k * 5)
              replace hown3 := own_base_le hown3 (show w.heap.size ≤ _ from Nat.le_trans hIb.lt.size hb2'.size)
              obtain ⟨A3, ca3, rfl⟩ := own_shape' hown3
              refine hK.out _ _ (HSX.out _ hb3) (fun hHeld => ?_)
              clear hK K
              refine norm_ (a' := ?_) ?_ ?_
              rotate_left
              · show Act.put _ (some 91) _ = _
                simp only [Act.put, sa_, sb_, sc_]
                rfl
              refine pure_ (i := 8) (N := (some 83)) (v := ?_) (a' := ?_) (bz 14 511) rfl rfl (by kernel_rfl) (fun _ _ _ h => h) (Or.inl ⟨by rfl, ?_⟩) ?_ ?_
              rotate_left
              · intro w'
                go_simp
                with_reducible rfl
              rotate_left
              · simp only [Act.put, sa_, sb_, sc_]
                rfl
              refine pure_ (i := 9) (N := (some 92)) (v := ?_) (a' := ?_) (bz 14 1023) rfl rfl (by kernel_rfl) (fun _ _ _ h => h) (Or.inl ⟨by rfl, ?_⟩) ?_ ?_
              rotate_left
              · intro w'
                go_simp
                with_reducible rfl
              rotate_left
              · simp only [Act.put, sa_, sb_, sc_]
                rfl
              refine pure_ (i := 10) (N := (some 93)) (v := ?_) (a' := ?_) (bz 14 2047) rfl rfl (by kernel_rfl) (fun _ _ _ h => h) (Or.inl ⟨by rfl, ?_⟩) ?_ ?_
              rotate_left
              · intro w'
                go_simp
                with_reducible rfl
              rotate_left
              · simp only [Act.put, sa_, sb_, sc_]
                rfl
              refine pure_ (i := 11) (N := (some 94)) (v := ?_) (a' := ?_) (bz 14 4095) rfl rfl (by kernel_rfl) (fun _ _ _ h => h) (Or.inl ⟨by rfl, ?_⟩) ?_ ?_
              rotate_left
              · intro w'
                go_simp
                with_reducible rfl
              rotate_left
              · simp only [Act.put, sa_, sb_, sc_]
                rfl
              refine pure_ (i := 12) (N := (some 95)) (v := ?_) (a' := ?_) (bz 14 8191) rfl rfl (by kernel_rfl) (fun _ _ _ h => h) (Or.inl ⟨by rfl, ?_⟩) ?_ ?_
              rotate_left
              · intro w'
                go_simp
                with_reducible rfl
              rotate_left
              · simp only [Act.put, sa_, sb_, sc_]
                rfl
              refine last_ (i := 13) (N := none) (bz 14 16383) rfl rfl (by kernel_rfl) (by decide) (fun K hK => ?_)
              refine skip_ (w1 := ?_) (by rfl) rfl ?_ ?_
              rotate_left
              · go_simp
                rfl
              refine hK.out _ _ ?_
              clear hK K
              refine done_ (by kernel_rfl) ?_
              dsimp only [onlyN]
              have HNEW := Lib.hid (show OfI w (w3.setCell ⟨g, k * 5, none⟩ (.slice A3 (backL bk.ops (endW bk (behindW bk ins))).1.length ca3)) p S P B c1 c2 c3 qb ⟨p.sec, p.par, mix ins bs (k + 1)⟩ (.slice sa p.sec.length sc) (.slice pa p.par.length pc) (.slice (some ⟨g, 0, none⟩) p.blk.length bc) (vs.set k (.slice A3 (backL bk.ops (endW bk (behindW bk ins))).1.length ca3)) by
                rw [HMX.out]
                exact hIb.cut hb3 HKY.out (backB bk ins).1 _ hown3)
              have ht5 : TB (fun j => j = g) w3 (w3.setCell ⟨g, k * 5, none⟩ (.slice A3 (backL bk.ops (endW bk (behindW bk ins))).1.length ca3)) := TB.of_grown (set_grown w3 g (k * 5) _) (fun j e => by cases e; rfl)
              have HR5 := Lib.hid ((hRb.below hb3).tb ht5 (by omega) (fun m es clk hm e => by have hc := hcur3; unfold Bk at hc; rw [e, hc] at hm; cases hm))
              have HIB5 := Lib.hid ((hIBb.mono hb3).tb ht5 (by omega))
              have HMK5 := Lib.hid ((hmkb.below hb3).tb ht5 (fun D hD e => by have := hmg D hD; omega))
              clear ht5 hIb hRb hIBb hmkb hcur3 hcurb hb3 hc3 hf3 hown3 HBH HBK HSX hHeld
              go_wp2_with fail
              go_roundw
              case rel => exact ⟨k + 1, _, by go_num, by omega, HNEW.out, HR5.out, HIB5.out, HMK5.out⟩
              case measure => simp [intOf]; omega
            · have hke : k = p.blk.length := by omega
              have HKE := Lib.hid hke
              have hQc := hI.Q.cell
              have q0 := hI.Q.cell 0
              have q1 := hI.Q.cell 1
              have q2 := hI.Q.cell 2
              have z0 := hI.Z.cell 0
              have z1 := hI.Z.cell 1
              have z2 := hI.Z.cell 2
              have zf := hI.Z.free
              have HII := Lib.hid hI
              have hzq : qb ≠ w.heap.size + 1 := by have := hI.qn; omega
              clear hke hI hR hIB hQc
              go_wp2_with fail
              have hI := HII.out
              rw [show mix ins bs k = bs.map (cutB ins) by rw [HKE.out, ← HFL.out]; exact mix_all ins bs] at hI
              have hZ3 := ((hI.Z.set 0 (.slice sa p.sec.length sc)).set 1 (.slice pa p.par.length pc)).set 2 (.slice ba p.blk.length bc)
              have hty := ((TY.set (T := fun t => t = 26) (i := 0) (TY.refl _ _) hI.Z rfl (.slice sa p.sec.length sc)).set (i := 1) (hI.Z.set 0 (.slice sa p.sec.length sc)) rfl (.slice pa p.par.length pc)).set (i := 2) ((hI.Z.set 0 (.slice sa p.sec.length sc)).set 1 (.slice pa p.par.length pc)) rfl (.slice ba p.blk.length bc)
              have hC := hI.C.ty hty (by decide) (by decide) (by decide) (by decide)
              have hlt' := ((hI.lt.setCell (p := ⟨w.heap.size + 1, 0, none⟩) (Nat.le_succ _) (.slice sa p.sec.length sc)).setCell (p := ⟨w.heap.size + 1, 1, none⟩) (Nat.le_succ _) (.slice pa p.par.length pc)).setCell (p := ⟨w.heap.size + 1, 2, none⟩) (Nat.le_succ _) (.slice ba p.blk.length bc)
              have hgz : w.heap.size + 2 ≤ gi := by have := HI.out.Z.lt; have := HGI.out; omega
              have hmz := hmk.tb (S := fun k => k = w.heap.size + 1) (((TB.of_grown (set_grown wr (w.heap.size + 1) 0 (.slice sa p.sec.length sc)) (fun j e => by cases e; rfl)).trans (TB.of_grown (set_grown _ (w.heap.size + 1) 1 (.slice pa p.par.length pc)) (fun j e => by cases e; rfl))).trans (TB.of_grown (set_grown _ (w.heap.size + 1) 2 (.slice ba p.blk.length bc)) (fun j e => by cases e; rfl))) (fun D hD e => by have := hmg D hD; omega)
              generalize (((wr.setCell ⟨w.heap.size + 1, 0, none⟩ (.slice sa p.sec.length sc)).setCell ⟨w.heap.size + 1, 1, none⟩ (.slice pa p.par.length pc)).setCell ⟨w.heap.size + 1, 2, none⟩ (.slice ba p.blk.length bc)) = WZ at hZ3 hty hC hlt' hmz ⊢
              show LeavesInM Fence.wide 9 _ _ _ _ (Ds.map mkD) .returning _
              refine leaves_marks Ds _ HNM.out.1 hmz fun W' hT => ?_
              refine ⟨_, of_end rfl rfl (hZ3.marks hmz hT) rfl, ?_⟩
              refine ⟨fun h => (by rw [HY.out] at h; cases h), fun _ => ⟨ins, _, _, _, vs, ?_, rfl, ?_, hlt'.trans (hT.below hlt'.size (fun D hD => by have := hmg D hD; omega))⟩⟩
              · show FixedW (p.blk.map forwardS) ins
                rw [HBS.out]; exact HFX.out
              · have := hC.marks hmz hT
                rw [← HBS.out] at this
                exact this
theorem fold_of_c (p : SIr) (S P B : Option Addr) (c1 c2 c3 : Nat) (w : World) (hS : kBool.Row w S p.sec) (hP : kHanded.Row w P p.par) (hB : kBlock.Row w B p.blk) (hok : FoldOk p) : Calls Tryz.prog 15 #[.agg #[.slice S p.sec.length c1, .slice P p.par.length c2, .slice B p.blk.length c3]] w (OfPost p w) := by
  cases h : checkS p with
  | true => exact of_yes p S P B c1 c2 c3 w hS hP hB hok h
  | false => exact of_no p S P B c1 c2 c3 w hS hP hB hok h
end Go.Proofs.YtoabiignjkcdmaaGreat
