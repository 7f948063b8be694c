/-
  tell, walked.
-/
import Derived.Test.YtoabiignjkcdmaaGreatRunO5
import Derived.Test.YtoabiignjkcdmaaGreatWLast
namespace Go.Proofs.YtoabiignjkcdmaaGreat
open Go.RowKit Go.Proofs.YtoabiignjkcdmaaGreatW.PrintLast
set_option linter.unusedVariables false
set_option linter.unusedSimpArgs false

theorem bk_ne {w : World} {a b : Nat} {cs cs' : Array Value} {t t' : TypeId} (h : Bk w a cs t) (h' : Bk w b cs' t') (hne : t ≠ t') : a ≠ b := by
  intro e
  subst e
  have h2 := h.symm.trans h'
  injection h2 with h2
  injection h2 with _ ht _
  exact hne ht
theorem infoU64 : (Tryz.prog.info? 46).map (fun i => (i.zero, i.size, i.bytes)) = some (some (.int .u64 0), 1, 8) := by kernel_rfl
theorem MRows.far {w w' : World} {base B2 mb nv n c g : Nat} {m : SM} {hv av lv tv : Value} {hbs abs : List Value} (h : MRows w base B2 m (.slice (some ⟨g, 0, none⟩) n c) hv av lv tv hbs abs) {v : Value} (hg : w.grownBy w' v.ownBlock) (hv : v.ownBlock ≠ some g) : ∀ j, w'.cell? ⟨g, j, none⟩ = w.cell? ⟨g, j, none⟩ := by
  intro j
  obtain ⟨cur, fz, hgt⟩ := own_type h.v (g := g) rfl
  exact hg.cell_far ⟨g, j, none⟩ (Array.getElem?_eq_some_iff.1 hgt).1 (fun e => hv e.symm)
set_option maxRecDepth 100000 in
set_option maxHeartbeats 2000000 in
theorem tell_c (o : SOp) (m : SM) (w : World) (base B2 mb nv : Nat) (h : MA w base B2 mb nv m) (hd0 : 0 ≤ o.d) (hd1 : o.d < nv) (ha0 : 0 ≤ o.a) (ha1 : o.a < nv) (htl : (m.told.length : Int) < m.steps) :
    Calls Tryz.prog 93 #[.pointer (some ⟨mb, 0, none⟩), o.val] w (OpPost w base B2 mb nv (.go { m.put o.d (m.get o.a) with told := m.told ++ [m.get o.a] })) := by
  obtain ⟨w1, hw1, h1, hbA, BO, hBase⟩ := op_begin (o := o) h
  unfold SOp.val
  go_enter Tryz.func93, Tryz.ntmps93
  go_upto_region 1 with (fail)
  rw [← hw1]
  clear hw1
  obtain ⟨vv, hv, av, lv, tv, hbs, abs, hR, hM⟩ := h1.ex
  obtain ⟨g, c, rfl, hg0, hg1, hc, hf⟩ := hR.v_open h1.wf (by omega)
  have hra := get_range h.wf ha0 ha1
  obtain ⟨w2, hw2⟩ : ∃ w2, w2 = w1.drew.alloc (.cells #[.int .u64 (m.get o.a)] 46) := ⟨_, rfl⟩
  have hb2 : Below w1.heap.size w1 w2 := by rw [hw2]; exact (Below.refl w1.heap.size w1).drew.alloc (Nat.le_refl _) _
  have hR2 := hR.below hb2
  have hM2 := hM.mono hb2
  have hNB : Bk w2 w1.heap.size #[.int .u64 (m.get o.a)] 46 := by rw [hw2]; exact Bk.new w1.drew _ _
  have CS : ∀ W, Below w1.heap.size w1 W → W.cell? ⟨mb, 0, none⟩ = some (.slice (some ⟨g, 0, none⟩) nv c) ∧ W.cell? ⟨mb, 11, none⟩ = some tv ∧ W.cell? ⟨w.heap.size, 3, none⟩ = some (.int .i64 o.a) ∧ W.cell? ⟨g, o.a.toNat, none⟩ = some (.int .u64 (m.get o.a)) :=
    fun W hW => ⟨cm (hM.cell 0) hW, cm (hM.cell 11) hW, cm (BO.cell 3) hW, cm (hc o.a ha0 ha1) hW⟩
  have HCS := Lib.hid CS
  clear CS
  have hB2 : B2 ≤ w2.heap.size := hR2.sz
  obtain ⟨i0, hi, hz0, hz1, hz2⟩ := info_parts infoU64
  have hst := h1.wf.st
  have HPOST : ∀ tv' w3, w3.ownsRow B2 46 1 tv' (m.told.length + 1) (m.told.map (Value.int .u64) ++ [.int .u64 (m.get o.a)]) → w2.grownBy w3 tv.ownBlock →
      MRows w3 base B2 { m with told := m.told ++ [m.get o.a] } (.slice (some ⟨g, 0, none⟩) nv c) hv av lv tv' hbs abs ∧ Bk w3 mb (mC m (.slice (some ⟨g, 0, none⟩) nv c) hv av lv tv) 81 ∧ Bk w3 w.heap.size (opA o) 54 ∧ (∀ j, w3.cell? ⟨g, j, none⟩ = w1.cell? ⟨g, j, none⟩) ∧ (∀ j, w3.frozen? ⟨g, j, none⟩ = false) ∧ Fr base w w3 := by
    intro tv' w3 ho hg
    have hR3 := hR2.add_t (m.get o.a) tv' hg ho
    have hne : tv.ownBlock ≠ some g := own_ge hR2.t (hR.vB g rfl)
    have hoM := (hR2.other hM2 (by decide) (by decide) (by decide) (by decide)).2.2.2.2.1
    have hoO := (hR2.other (BO.mono hb2) (by decide) (by decide) (by decide) (by decide)).2.2.2.2.1
    refine ⟨hR3, ?_, ?_, fun j => ?_, fun j => ?_, ?_⟩
    · show w3.heap[mb]? = _
      rw [hg.block mb hM2.lt (fun e => hoM e.symm)]
      exact hM2
    · show w3.heap[w.heap.size]? = _
      rw [hg.block w.heap.size (BO.mono hb2).lt (fun e => hoO e.symm)]
      exact BO.mono hb2
    · rw [hR2.far (mb := mb) (nv := nv) hg hne j]
      exact hb2.cell (p := ⟨g, j, none⟩) hg1
    · have hv3 := hR3.v
      simp only [h1.wf.vl] at hv3
      exact hv3.frozenAt j
    · refine (hbA.of hb2 h1.base).grown hg (Nat.le_trans h1.base hb2.size) fun k e => ⟨?_, own_vO hR2.t e⟩
      have := own_from hR2.t k e
      have := hR.le
      omega
  have HP := Lib.hid HPOST
  clear HPOST
  refine start_ (n := 20) (S := fun w' => w'.cell? ⟨mb, 0, none⟩ = some (.slice (some ⟨g, 0, none⟩) nv c) ∧ w'.cell? ⟨mb, 11, none⟩ = some (tv) ∧ w'.cell? ⟨w.heap.size, 3, none⟩ = some (.int .i64 o.a) ∧ w'.cell? ⟨g, o.a.toNat, none⟩ = some (.int .u64 (m.get o.a))) (ds := [19]) #[false, false, false, false, false, false, false, false, false, false, false, false, false, false, false, false, false, false, false, false] (by kernel_rfl) rfl rfl (HCS.out _ (Below.refl _ _).drew) (fun hHeld => ?_)
  refine pure_ (i := 0) (N := (some 4)) (v := ?_) (a' := ?_) #[true, false, false, false, false, false, false, false, false, false, false, false, false, false, false, false, false, false, false, false] rfl rfl (by kernel_rfl) (fun _ _ _ h => h) (Or.inl ⟨by rfl, ?_⟩) ?_ ?_
  rotate_left
  · intro w'
    go_simp
    with_reducible rfl
  rotate_left
  · simp only [Act.put, List.setIfInBounds_toArray, List.set_cons_zero, List.set_cons_succ]
    rfl
  refine pure_ (i := 1) (N := (some 5)) (v := ?_) (a' := ?_) #[true, true, false, false, false, false, false, false, false, false, false, false, false, false, false, false, false, false, false, false] rfl rfl (by kernel_rfl) (fun _ _ _ h => h) (Or.inl ⟨by rfl, ?_⟩) ?_ ?_
  rotate_left
  · intro w'
    go_simp
    with_reducible rfl
  rotate_left
  · simp only [Act.put, List.setIfInBounds_toArray, List.set_cons_zero, List.set_cons_succ]
    rfl
  refine pure_ (i := 2) (N := (some 6)) (v := ?_) (a' := ?_) #[true, true, true, false, false, false, false, false, false, false, false, false, false, false, false, false, false, false, false, false] rfl rfl (by kernel_rfl) (fun _ _ _ h => h) (Or.inl ⟨by rfl, ?_⟩) ?_ ?_
  rotate_left
  · intro w'
    go_simp
    with_reducible rfl
  rotate_left
  · simp only [Act.put, List.setIfInBounds_toArray, List.set_cons_zero, List.set_cons_succ]
    rfl
  refine pure_ (i := 3) (N := (some 7)) (v := ?_) (a' := ?_) #[true, true, true, true, false, false, false, false, false, false, false, false, false, false, false, false, false, false, false, false] rfl rfl (by kernel_rfl) (fun _ _ _ h => h) (Or.inl ⟨by rfl, ?_⟩) ?_ ?_
  rotate_left
  · intro w'
    go_simp
    with_reducible rfl
  rotate_left
  · simp only [Act.put, List.setIfInBounds_toArray, List.set_cons_zero, List.set_cons_succ]
    rfl
  refine pure_ (i := 4) (N := (some 8)) (v := ?_) (a' := ?_) #[true, true, true, true, true, false, false, false, false, false, false, false, false, false, false, false, false, false, false, false] rfl rfl (by kernel_rfl) (fun _ _ _ h => h) (Or.inl ⟨by rfl, ?_⟩) ?_ ?_
  rotate_left
  · intro w'
    go_simp
    with_reducible rfl
  rotate_left
  · simp only [Act.put, List.setIfInBounds_toArray, List.set_cons_zero, List.set_cons_succ]
    rfl
  refine pure_ (i := 6) (N := (some 10)) (v := ?_) (a' := ?_) #[true, true, true, true, true, false, true, false, false, false, false, false, false, false, false, false, false, false, false, false] rfl rfl (by kernel_rfl) (fun _ _ _ h => h) (Or.inl ⟨by rfl, ?_⟩) ?_ ?_
  rotate_left
  · intro w'
    go_simp
    with_reducible rfl
  rotate_left
  · simp only [Act.put, List.setIfInBounds_toArray, List.set_cons_zero, List.set_cons_succ]
    rfl
  refine pure_ (i := 7) (N := (some 11)) (v := ?_) (a' := ?_) #[true, true, true, true, true, false, true, true, false, false, false, false, false, false, false, false, false, false, false, false] rfl rfl (by kernel_rfl) (fun _ _ _ h => h) (Or.inl ⟨by rfl, ?_⟩) ?_ ?_
  rotate_left
  · intro w'
    go_simp
    with_reducible rfl
  rotate_left
  · simp only [Act.put, List.setIfInBounds_toArray, List.set_cons_zero, List.set_cons_succ]
    rfl
  refine pure_ (i := 8) (N := (some 12)) (v := ?_) (a' := ?_) #[true, true, true, true, true, false, true, true, true, false, false, false, false, false, false, false, false, false, false, false] rfl rfl (by kernel_rfl) (fun _ _ _ h => h) (Or.inl ⟨by rfl, ?_⟩) ?_ ?_
  rotate_left
  · intro w'
    go_simp
    with_reducible rfl
  rotate_left
  · simp only [Act.put, List.setIfInBounds_toArray, List.set_cons_zero, List.set_cons_succ]
    rfl
  refine pure_ (i := 10) (N := (some 14)) (v := ?_) (a' := ?_) #[true, true, true, true, true, false, true, true, true, false, true, false, false, false, false, false, false, false, false, false] rfl rfl (by kernel_rfl) (fun _ _ _ h => h) (Or.inl ⟨by rfl, ?_⟩) ?_ ?_
  rotate_left
  · intro w'
    go_simp
    with_reducible rfl
  rotate_left
  · simp only [Act.put, List.setIfInBounds_toArray, List.set_cons_zero, List.set_cons_succ]
    rfl
  refine take_ (i := 5) (N := (some 9)) (v := ?_) (a' := ?_) #[true, true, true, true, true, true, true, true, true, false, true, false, false, false, false, false, false, false, false, false] rfl rfl (by kernel_rfl) (fun _ _ _ h => h) (Or.inl ⟨by rfl, ?_⟩) hHeld ?_ ?_
  rotate_left
  · rintro w' ⟨s0, s1, s2, s3⟩
    go_simp
    with_reducible rfl
  rotate_left
  · simp only [Act.put, List.setIfInBounds_toArray, List.set_cons_zero, List.set_cons_succ]
    rfl
  refine take_ (i := 9) (N := (some 13)) (v := ?_) (a' := ?_) #[true, true, true, true, true, true, true, true, true, true, true, false, false, false, false, false, false, false, false, false] rfl rfl (by kernel_rfl) (fun _ _ _ h => h) (Or.inl ⟨by rfl, ?_⟩) hHeld ?_ ?_
  rotate_left
  · rintro w' ⟨s0, s1, s2, s3⟩
    go_simp
    with_reducible rfl
  rotate_left
  · simp only [Act.put, List.setIfInBounds_toArray, List.set_cons_zero, List.set_cons_succ]
    rfl
  refine take_ (i := 11) (N := (some 15)) (v := ?_) (a' := ?_) #[true, true, true, true, true, true, true, true, true, true, true, true, false, false, false, false, false, false, false, false] rfl rfl (by kernel_rfl) (fun _ _ _ h => h) (Or.inl ⟨by rfl, ?_⟩) hHeld ?_ ?_
  rotate_left
  · rintro w' ⟨s0, s1, s2, s3⟩
    go_simp
    with_reducible rfl
  rotate_left
  · simp only [Act.put, List.setIfInBounds_toArray, List.set_cons_zero, List.set_cons_succ]
    rfl
  refine pure_ (i := 12) (N := (some 16)) (v := ?_) (a' := ?_) #[true, true, true, true, true, true, true, true, true, true, true, true, true, false, false, false, false, false, false, false] rfl rfl (by kernel_rfl) (fun _ _ _ h => h) (Or.inl ⟨by rfl, ?_⟩) ?_ ?_
  rotate_left
  · intro w'
    go_simp
    with_reducible rfl
  rotate_left
  · simp only [Act.put, List.setIfInBounds_toArray, List.set_cons_zero, List.set_cons_succ]
    rfl
  refine take_ (i := 13) (N := (some 17)) (v := ?_) (a' := ?_) #[true, true, true, true, true, true, true, true, true, true, true, true, true, true, false, false, false, false, false, false] rfl rfl (by kernel_rfl) (fun _ _ _ h => h) (Or.inl ⟨by rfl, ?_⟩) hHeld ?_ ?_
  rotate_left
  · rintro w' ⟨s0, s1, s2, s3⟩
    go_simp
    with_reducible rfl
  rotate_left
  · simp only [Act.put, List.setIfInBounds_toArray, List.set_cons_zero, List.set_cons_succ]
    rfl
  refine one_ (i := 14) (N := (some 18)) #[true, true, true, true, true, true, true, true, true, true, true, true, true, true, true, false, false, false, false, false] rfl rfl (by kernel_rfl) (by decide) (fun K hK => ?_)
  refine value_ (v := .slice (some ⟨w1.heap.size, 0, none⟩) 1 1) (w1 := w2) (by rfl) rfl ?_ ?_
  · rw [hw2]
    go_simp
  refine hK.out _ _ (HCS.out _ hb2) (fun hHeld => ?_)
  clear hK K
  refine norm_ (a' := ?_) ?_ ?_
  rotate_left
  · show Act.put _ (some 18) _ = _
    simp only [Act.put, List.setIfInBounds_toArray, List.set_cons_zero, List.set_cons_succ]
    rfl
  refine one_ (i := 15) (N := (some 19)) #[true, true, true, true, true, true, true, true, true, true, true, true, true, true, true, true, false, false, false, false] rfl rfl (by kernel_rfl) (by decide) (fun K hK => ?_)
  refine step_append_lies _ rfl _ _ 40 (by rfl) B2 46 i0 (.int .u64 0) 1 8 Tryz.underlying40 hi hz0 hz1 hz2 rfl (by decide) tv m.told.length (m.told.map (Value.int .u64)) (by rfl) hR2.t ⟨w1.heap.size, 0, none⟩ 1 1 [.int .u64 (m.get o.a)] (by rfl) rfl (fun j u hu => ?_) (by simp [Value.oneCell']) (by decide) (by unfold maxLen; omega) (by omega) hB2 _ rfl ?_
  · exact World.news_of_block hNB j u hu
  intro ga cap w3 ho hgr _ _
  obtain ⟨hR3, hM3, BO3, hcc, hff, hb3⟩ := HP.out _ _ ho hgr
  refine hK.out _ _ ⟨hM3.cell 0, hM3.cell 11, BO3.cell 3, (hcc _).trans (hc o.a ha0 ha1)⟩ (fun hHeld => ?_)
  clear hK K
  have fM3 := hM3.free
  have cM3 := hM3.cell 11
  refine norm_ (a' := ?_) ?_ ?_
  rotate_left
  · show Act.put _ (some 19) _ = _
    simp only [Act.put, List.setIfInBounds_toArray, List.set_cons_zero, List.set_cons_succ]
    rfl
  refine pure_ (i := 16) (N := (some 20)) (v := ?_) (a' := ?_) #[true, true, true, true, true, true, true, true, true, true, true, true, true, true, true, true, true, false, false, false] rfl rfl (by kernel_rfl) (fun _ _ _ h => h) (Or.inl ⟨by rfl, ?_⟩) ?_ ?_
  rotate_left
  · intro w'
    go_simp
    with_reducible rfl
  rotate_left
  · simp only [Act.put, List.setIfInBounds_toArray, List.set_cons_zero, List.set_cons_succ]
    rfl
  refine pure_ (i := 17) (N := (some 21)) (v := ?_) (a' := ?_) #[true, true, true, true, true, true, true, true, true, true, true, true, true, true, true, true, true, true, false, false] rfl rfl (by kernel_rfl) (fun _ _ _ h => h) (Or.inl ⟨by rfl, ?_⟩) ?_ ?_
  rotate_left
  · intro w'
    go_simp
    with_reducible rfl
  rotate_left
  · simp only [Act.put, List.setIfInBounds_toArray, List.set_cons_zero, List.set_cons_succ]
    rfl
  refine pure_ (i := 18) (N := (some 22)) (v := ?_) (a' := ?_) #[true, true, true, true, true, true, true, true, true, true, true, true, true, true, true, true, true, true, true, false] rfl rfl (by kernel_rfl) (fun _ _ _ h => h) (Or.inl ⟨by rfl, ?_⟩) ?_ ?_
  rotate_left
  · intro w'
    go_simp
    with_reducible rfl
  rotate_left
  · simp only [Act.put, List.setIfInBounds_toArray, List.set_cons_zero, List.set_cons_succ]
    rfl
  refine last_ (i := 19) (N := none) #[true, true, true, true, true, true, true, true, true, true, true, true, true, true, true, true, true, true, true, true] rfl rfl (by kernel_rfl) (by decide) (fun K hK => ?_)
  refine skip_ (w1 := ?_) (by rfl) rfl ?_ ?_
  rotate_left
  · go_simp
    rfl
  refine hK.out _ _ ?_
  clear hK K
  refine done_ (by kernel_rfl) ?_
  clear HP HCS hNB hR2 hM2
  obtain ⟨W4, hW4⟩ : ∃ W4, W4 = w3.setCell ⟨mb, 11, none⟩ (.slice (some ⟨ga, 0, none⟩) (m.told.length + 1) cap) := ⟨_, rfl⟩
  have hR4 : MRows W4 base B2 { m with told := m.told ++ [m.get o.a] } (.slice (some ⟨g, 0, none⟩) nv c) hv av lv (.slice (some ⟨ga, 0, none⟩) (m.told.length + 1) cap) hbs abs := by rw [hW4]; exact hR3.mach hM3 11 _
  have hM4 : Bk W4 mb (mC { m with told := m.told ++ [m.get o.a] } (.slice (some ⟨g, 0, none⟩) nv c) hv av lv (.slice (some ⟨ga, 0, none⟩) (m.told.length + 1) cap)) 81 := by rw [hW4]; exact hM3.set 11 _
  have BO4 : Bk W4 w.heap.size (opA o) 54 := by
    rw [hW4]
    exact BO3.other (bk_ne BO3 hM3 (by decide)) _
  have hb4 : Fr base w W4 := by rw [hW4]; exact hb3.setCell h1.mb0 hM3.own _
  have hwf4 : MWf { m with told := m.told ++ [m.get o.a] } nv := { h1.wf with tm := by simp only [List.length_append, List.length_cons, List.length_nil]; omega }
  rw [← hW4]
  clear hW4 hR3 hM3 BO3 hb3 hcc hff fM3 cM3 hc hf hR hM BO hHeld ho hgr
  obtain ⟨g', c', e', _, _, hc4, hf4⟩ := hR4.v_open hwf4 (by omega)
  cases e'
  have CO := BO4.cell
  have CM := hM4.cell
  have cd : W4.cell? ⟨g, o.d.toNat, none⟩ = some (.int .u64 (m.get o.d)) := hc4 o.d hd0 hd1
  have ca : W4.cell? ⟨g, o.a.toNat, none⟩ = some (.int .u64 (m.get o.a)) := hc4 o.a ha0 ha1
  have fd := hf4 o.d.toNat
  clear hc4 hf4
  go_wp2_with fail
  go_region
  go_wp2_with fail
  go_end0
  exact ⟨(hb4.setCell hg0 hR4.vO _).drew, rfl, (hR4.put hM4 h1.mb0 hwf4 o.d (m.get o.a) hd0 hd1 hra.1 hra.2).drew⟩
end Go.Proofs.YtoabiignjkcdmaaGreat
