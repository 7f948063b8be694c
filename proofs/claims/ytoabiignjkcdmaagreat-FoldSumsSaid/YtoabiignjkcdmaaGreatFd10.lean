/-
  Lemmas (texts RunO7), each proved without a condition beyond its own hypotheses.
-/
import Derived.Test.YtoabiignjkcdmaaGreatFd9
import Derived.Test.YtoabiignjkcdmaaGreatFd5
import Derived.Lib.SliceRun
namespace Go.Proofs.YtoabiignjkcdmaaGreat
open Go.RowKit Go.Proofs.YtoabiignjkcdmaaGreatW.PrintLast
set_option linter.unusedVariables false
set_option linter.unusedSimpArgs false

/-- Zeros from a place on. -/
def zer : Nat → Nat → List Int → List Int
  | 0, _, xs => xs
  | k + 1, o, xs => zer k (o + 1) (xs.set o 0)
theorem zer_get (j : Nat) : ∀ (k o : Nat) (xs : List Int), (zer k o xs)[j]? = if o ≤ j ∧ j < o + k ∧ j < xs.length then some 0 else xs[j]?
  | 0, o, xs => by
    rw [if_neg (by omega)]
    rfl
  | k + 1, o, xs => by
    unfold zer
    rw [zer_get j k (o + 1), List.length_set, List.getElem?_set]
    by_cases h1 : o = j
    · subst h1
      by_cases h2 : o < xs.length
      · rw [if_neg (by omega), if_pos rfl, if_pos h2, if_pos (by omega)]
      · rw [if_neg (by omega), if_pos rfl, if_neg h2, if_neg (by omega)]
        simp; omega
    · rw [if_neg h1]
      by_cases h2 : o + 1 ≤ j ∧ j < o + 1 + k ∧ j < xs.length
      · rw [if_pos h2, if_pos (by omega)]
      · rw [if_neg h2, if_neg (by omega)]
theorem zer_all (xs : List Int) : zer xs.length 0 xs = List.replicate xs.length 0 := by
  apply List.ext_getElem?
  intro j
  rw [zer_get, List.getElem?_replicate]
  by_cases h : j < xs.length
  · rw [if_pos (by omega), if_pos h]
  · rw [if_neg (by omega), if_neg h]
    simp; omega
theorem ByRow.zeros {base g c n : Nat} : ∀ (k o : Nat) (w : World) (xs : List Int), ByRow w base (.slice (some ⟨g, 0, none⟩) n c) xs → ByRow (w.setCells g o (List.replicate k (.int .u8 0))) base (.slice (some ⟨g, 0, none⟩) n c) (zer k o xs)
  | 0, _, _, _, h => h
  | k + 1, o, w, xs, h => ByRow.zeros k (o + 1) _ _ (h.set o 0)
theorem sets_grown (g : Nat) : ∀ (vs : List Value) (o : Nat) (w : World), w.grownBy (w.setCells g o vs) (some g)
  | [], _, w => ⟨rfl, rfl, rfl, Nat.le_refl _, fun _ _ _ => rfl⟩
  | v :: vs, o, w => grown_trans (set_grown w g o v) (sets_grown g vs (o + 1) _)
theorem zeroU8 (w : World) : (zeroValue 5).run Tryz.prog w = .ok (.int .u8 0) w := by kernel_rfl
theorem clear_bytes (w : World) (ty : TypeId) (g n c : Nat) (hc : ∀ j, j < n → (w.cell? ⟨g, j, none⟩).isSome = true) (hf : ∀ j, j < n → w.frozen? ⟨g, j, none⟩ = false) :
    (Builtin.clear_ #[83] ty #[.slice (some ⟨g, 0, none⟩) n c]).run Tryz.prog w = .ok (.tuple #[]) (w.setCells g 0 (List.replicate n (.int .u8 0))) := by
  by_cases hn : 0 < n
  · exact Lib.run_clear_slice w 83 5 ty (.int .u8 0) Tryz.underlying83 zeroU8 rfl rfl g 0 n c hn (fun j hj => by rw [Nat.zero_add]; exact hc j hj) (fun j hj => by rw [Nat.zero_add]; exact hf j hj)
  · obtain rfl : n = 0 := by omega
    simp [Builtin.clear_, run_underlying Tryz.underlying83]
    rfl
set_option maxRecDepth 100000 in
set_option maxHeartbeats 2000000 in
theorem wipe_c (o : SOp) (m : SM) (w : World) (base B2 mb nv : Nat) (h : MA w base B2 mb nv m) (hb0 : 0 ≤ o.b) (hb1 : o.b < nv) (ha0 : 0 ≤ o.a) (ha1 : o.a < nv) :
    Calls Tryz.prog 91 #[.pointer (some ⟨mb, 0, none⟩), o.val] w (OpPost w base B2 mb nv (wipeS m o)) := by
  obtain ⟨w1, hw1, h1, hbA, BO, hBase⟩ := op_begin (o := o) h
  unfold SOp.val
  go_enter Tryz.func91, Tryz.ntmps91
  go_upto_region 1 with (fail)
  rw [← hw1]
  clear hw1
  obtain ⟨vv, hv, av, lv, tv, hbs, abs, hR, hM⟩ := h1.ex
  obtain ⟨g, c, rfl, hg0, hg1, hc, hf⟩ := hR.v_open h1.wf (by omega)
  have hra := get_range h.wf ha0 ha1
  have hrb := get_range h.wf hb0 hb1
  have CS : ∀ W, Below w1.heap.size w1 W → W.cell? ⟨mb, 0, none⟩ = some (.slice (some ⟨g, 0, none⟩) nv c) ∧ W.cell? ⟨w.heap.size, 4, none⟩ = some (.int .i64 o.b) ∧ W.cell? ⟨g, o.b.toNat, none⟩ = some (.int .u64 (m.get o.b)) :=
    fun W hW => ⟨cm (hM.cell 0) hW, cm (BO.cell 4) hW, cm (hc o.b hb0 hb1) hW⟩
  have CT : ∀ W, Below w1.heap.size w1 W → W.cell? ⟨mb, 0, none⟩ = some (.slice (some ⟨g, 0, none⟩) nv c) ∧ W.cell? ⟨w.heap.size, 3, none⟩ = some (.int .i64 o.a) ∧ W.cell? ⟨g, o.a.toNat, none⟩ = some (.int .u64 (m.get o.a)) :=
    fun W hW => ⟨cm (hM.cell 0) hW, cm (BO.cell 3) hW, cm (hc o.a ha0 ha1) hW⟩
  have HCS := Lib.hid CS
  have HCT := Lib.hid CT
  clear CS CT
  obtain ⟨w2, hw2⟩ : ∃ w2, w2 = w1.drew.alloc (.cells #[.int .u64 0] 46) := ⟨_, rfl⟩
  have hb2 : Below w1.heap.size w1 w2 := by rw [hw2]; exact (Below.refl w1.heap.size w1).drew.alloc (Nat.le_refl _) _
  have hNB : Bk w2 w1.heap.size #[.int .u64 0] 46 := by rw [hw2]; exact Bk.new w1.drew _ _
  have cN := hNB.cell 0
  have fN := hNB.free 0
  refine start_ (n := 10) (S := fun w' => w'.cell? ⟨mb, 0, none⟩ = some (.slice (some ⟨g, 0, none⟩) nv c) ∧ w'.cell? ⟨w.heap.size, 4, none⟩ = some (.int .i64 o.b) ∧ w'.cell? ⟨g, o.b.toNat, none⟩ = some (.int .u64 (m.get o.b))) (ds := []) (bz 10 0) (by kernel_rfl) rfl rfl (HCS.out _ (Below.refl _ _).drew) (fun hHeld => ?_)
  refine pure_ (i := 0) (N := (some 6)) (v := ?_) (a' := ?_) (bz 10 1) rfl rfl (by kernel_rfl) (fun _ _ _ h => h) (Or.inl ⟨by rfl, ?_⟩) ?_ ?_
  rotate_left
  · intro w'
    go_simp
    with_reducible rfl
  rotate_left
  · simp only [Act.put, sa_, sb_, sc_]
    rfl
  refine pure_ (i := 1) (N := (some 7)) (v := ?_) (a' := ?_) (bz 10 3) rfl rfl (by kernel_rfl) (fun _ _ _ h => h) (Or.inl ⟨by rfl, ?_⟩) ?_ ?_
  rotate_left
  · intro w'
    go_simp
    with_reducible rfl
  rotate_left
  · simp only [Act.put, sa_, sb_, sc_]
    rfl
  refine pure_ (i := 2) (N := (some 8)) (v := ?_) (a' := ?_) (bz 10 7) rfl rfl (by kernel_rfl) (fun _ _ _ h => h) (Or.inl ⟨by rfl, ?_⟩) ?_ ?_
  rotate_left
  · intro w'
    go_simp
    with_reducible rfl
  rotate_left
  · simp only [Act.put, sa_, sb_, sc_]
    rfl
  refine pure_ (i := 4) (N := (some 10)) (v := ?_) (a' := ?_) (bz 10 23) rfl rfl (by kernel_rfl) (fun _ _ _ h => h) (Or.inl ⟨by rfl, ?_⟩) ?_ ?_
  rotate_left
  · intro w'
    go_simp
    with_reducible rfl
  rotate_left
  · simp only [Act.put, sa_, sb_, sc_]
    rfl
  refine take_ (i := 3) (N := (some 9)) (v := ?_) (a' := ?_) (bz 10 31) rfl rfl (by kernel_rfl) (fun _ _ _ h => h) (Or.inl ⟨by rfl, ?_⟩) hHeld ?_ ?_
  rotate_left
  · rintro w' ⟨s0, s1, s2⟩
    go_simp
    with_reducible rfl
  rotate_left
  · simp only [Act.put, sa_, sb_, sc_]
    rfl
  refine take_ (i := 5) (N := (some 11)) (v := ?_) (a' := ?_) (bz 10 63) rfl rfl (by kernel_rfl) (fun _ _ _ h => h) (Or.inl ⟨by rfl, ?_⟩) hHeld ?_ ?_
  rotate_left
  · rintro w' ⟨s0, s1, s2⟩
    go_simp
    with_reducible rfl
  rotate_left
  · simp only [Act.put, sa_, sb_, sc_]
    rfl
  refine pure_ (i := 6) (N := (some 12)) (v := ?_) (a' := ?_) (bz 10 127) rfl rfl (by kernel_rfl) (fun _ _ _ h => h) (Or.inl ⟨by rfl, ?_⟩) ?_ ?_
  rotate_left
  · intro w'
    go_simp
    with_reducible rfl
  rotate_left
  · simp only [Act.put, sa_, sb_, sc_]
    rfl
  refine take_ (i := 7) (N := (some 13)) (v := ?_) (a' := ?_) (bz 10 255) rfl rfl (by kernel_rfl) (fun _ _ _ h => h) (Or.inl ⟨by rfl, ?_⟩) hHeld ?_ ?_
  rotate_left
  · rintro w' ⟨s0, s1, s2⟩
    go_simp
    with_reducible rfl
  rotate_left
  · simp only [Act.put, sa_, sb_, sc_]
    rfl
  refine one_ (i := 8) (N := (some 4)) (bz 10 511) rfl rfl (by kernel_rfl) (by decide) (fun K hK => ?_)
  refine value_ (v := .pointer (some ⟨w1.heap.size, 0, none⟩)) (w1 := w2) (by rfl) rfl ?_ ?_
  · rw [hw2]
    go_simp
  refine hK.out _ _ (HCS.out _ hb2) (fun hHeld => ?_)
  clear hK K
  refine norm_ (a' := ?_) ?_ ?_
  rotate_left
  · show Act.put _ (some 4) _ = _
    simp only [Act.put, sa_, sb_, sc_]
    rfl
  refine one_ (i := 9) (N := none) (bz 10 1023) rfl rfl (by kernel_rfl) (by decide) (fun K hK => ?_)
  refine skip_ (w1 := ?_) (by rfl) rfl ?_ ?_
  rotate_left
  · go_simp
    rfl
  refine hK.out _ _ (HCS.out _ ((Below.refl w1.heap.size w1).alloc (Nat.le_refl _) _).drew) (fun hHeld => ?_)
  clear hK K
  refine done_ (by kernel_rfl) ?_
  obtain ⟨W3, hW3⟩ : ∃ W3, W3 = (w1.alloc (.cells #[.int .u64 (m.get o.b)] 46)).drew := ⟨_, rfl⟩
  have hb3 : Below w1.heap.size w1 W3 := by rw [hW3]; exact ((Below.refl w1.heap.size w1).alloc (Nat.le_refl _) _).drew
  have cN3 : W3.cell? ⟨w1.heap.size, 0, none⟩ = some (.int .u64 (m.get o.b)) := by rw [hW3]; exact ((Bk.new w1 _ _).drew).cell 0
  rw [← hW3]
  clear hW3 hNB cN fN hb2 hw2 hHeld
  have hR3 := hR.below hb3
  have hM3 := hM.mono hb3
  have HST := Lib.hid fun W (hW : Below W3.heap.size W3 W) => start_c m W base B2 mb nv _ _ _ _ _ _ _ (hR3.below hW) (hM3.mono hW) h1.wf (m.get o.a) hra.1 hra.2 113 #[.pointer (some ⟨w1.heap.size, 0, none⟩)] (fun x => (x.b.length : Int) == m.get o.b) (enters_of Tryz.func113 (by kernel_rfl) rfl) (Lib.hid fun i h1' h2' W2 hW2 => by
    obtain ⟨bg, bc, e, _⟩ := (hR.ab i h1' h2').shape
    rw [e]
    exact wipe1_c _ bg bc (m.get o.b) (h1.wf.ob _ (List.mem_append_right _ (List.getElem_mem h1'))).2.2.1 W2 _ (cm cN3 (hW.trans (hW2.mono hW.size))))
  cases hq : m.arena.findIdx? (fun x => starts (m.get o.a) x && ((x.b.length : Int) == m.get o.b)) with
  | none =>
    go_wp2_with fail
    refine start_ (n := 12) (S := fun w' => w'.cell? ⟨mb, 0, none⟩ = some (.slice (some ⟨g, 0, none⟩) nv c) ∧ w'.cell? ⟨w.heap.size, 3, none⟩ = some (.int .i64 o.a) ∧ w'.cell? ⟨g, o.a.toNat, none⟩ = some (.int .u64 (m.get o.a))) (ds := []) (bz 12 0) (by kernel_rfl) rfl rfl (HCT.out _ (hb3.trans ((Below.refl _ _).drew.mono hb3.size))) (fun hHeld => ?_)
    refine pure_ (i := 0) (N := (some 14)) (v := ?_) (a' := ?_) (bz 12 1) rfl rfl (by kernel_rfl) (fun _ _ _ h => h) (Or.inl ⟨by rfl, ?_⟩) ?_ ?_
    rotate_left
    · intro w'
      go_simp
      with_reducible rfl
    rotate_left
    · simp only [Act.put, sa_, sb_, sc_]
      rfl
    refine pure_ (i := 1) (N := (some 15)) (v := ?_) (a' := ?_) (bz 12 3) rfl rfl (by kernel_rfl) (fun _ _ _ h => h) (Or.inl ⟨by rfl, ?_⟩) ?_ ?_
    rotate_left
    · intro w'
      go_simp
      with_reducible rfl
    rotate_left
    · simp only [Act.put, sa_, sb_, sc_]
      rfl
    refine pure_ (i := 2) (N := (some 16)) (v := ?_) (a' := ?_) (bz 12 7) rfl rfl (by kernel_rfl) (fun _ _ _ h => h) (Or.inl ⟨by rfl, ?_⟩) ?_ ?_
    rotate_left
    · intro w'
      go_simp
      with_reducible rfl
    rotate_left
    · simp only [Act.put, sa_, sb_, sc_]
      rfl
    refine pure_ (i := 3) (N := (some 17)) (v := ?_) (a' := ?_) (bz 12 15) rfl rfl (by kernel_rfl) (fun _ _ _ h => h) (Or.inl ⟨by rfl, ?_⟩) ?_ ?_
    rotate_left
    · intro w'
      go_simp
      with_reducible rfl
    rotate_left
    · simp only [Act.put, sa_, sb_, sc_]
      rfl
    refine pure_ (i := 5) (N := (some 19)) (v := ?_) (a' := ?_) (bz 12 47) rfl rfl (by kernel_rfl) (fun _ _ _ h => h) (Or.inl ⟨by rfl, ?_⟩) ?_ ?_
    rotate_left
    · intro w'
      go_simp
      with_reducible rfl
    rotate_left
    · simp only [Act.put, sa_, sb_, sc_]
      rfl
    refine pure_ (i := 9) (N := (some 23)) (v := ?_) (a' := ?_) (bz 12 559) rfl rfl (by kernel_rfl) (fun _ _ _ h => h) (Or.inl ⟨by rfl, ?_⟩) ?_ ?_
    rotate_left
    · intro w'
      go_simp
      with_reducible rfl
    rotate_left
    · simp only [Act.put, sa_, sb_, sc_]
      rfl
    refine take_ (i := 4) (N := (some 18)) (v := ?_) (a' := ?_) (bz 12 575) rfl rfl (by kernel_rfl) (fun _ _ _ h => h) (Or.inl ⟨by rfl, ?_⟩) hHeld ?_ ?_
    rotate_left
    · rintro w' ⟨s0, s1, s2⟩
      go_simp
      with_reducible rfl
    rotate_left
    · simp only [Act.put, sa_, sb_, sc_]
      rfl
    refine take_ (i := 6) (N := (some 20)) (v := ?_) (a' := ?_) (bz 12 639) rfl rfl (by kernel_rfl) (fun _ _ _ h => h) (Or.inl ⟨by rfl, ?_⟩) hHeld ?_ ?_
    rotate_left
    · rintro w' ⟨s0, s1, s2⟩
      go_simp
      with_reducible rfl
    rotate_left
    · simp only [Act.put, sa_, sb_, sc_]
      rfl
    refine pure_ (i := 7) (N := (some 21)) (v := ?_) (a' := ?_) (bz 12 767) rfl rfl (by kernel_rfl) (fun _ _ _ h => h) (Or.inl ⟨by rfl, ?_⟩) ?_ ?_
    rotate_left
    · intro w'
      go_simp
      with_reducible rfl
    rotate_left
    · simp only [Act.put, sa_, sb_, sc_]
      rfl
    refine take_ (i := 8) (N := (some 22)) (v := ?_) (a' := ?_) (bz 12 1023) rfl rfl (by kernel_rfl) (fun _ _ _ h => h) (Or.inl ⟨by rfl, ?_⟩) hHeld ?_ ?_
    rotate_left
    · rintro w' ⟨s0, s1, s2⟩
      go_simp
      with_reducible rfl
    rotate_left
    · simp only [Act.put, sa_, sb_, sc_]
      rfl
    refine one_ (i := 10) (N := (some 24)) (bz 12 2047) rfl rfl (by kernel_rfl) (by decide) (fun K hK => ?_)
    refine goesQ_ Tryz.func112 (by kernel_rfl) rfl #[.pointer (some ⟨mb, 0, none⟩), .int .u64 (m.get o.a), .func (.func 113) #[] #[.pointer (some ⟨w1.heap.size, 0, none⟩)]] (by rfl) rfl rfl (by (try simp only [List.map_toArray, List.map_cons, List.map_nil]); first | done | rfl) ?_
    refine (HST.out W3.drew (Below.refl _ _).drew).mono ?_
    intro e w4 hp
    unfold StartP at hp
    rw [hq] at hp
    obtain ⟨hb4, rfl⟩ := hp
    have hb5 : Below W3.heap.size W3 w4 := (Below.refl W3.heap.size W3).drew.trans hb4
    have hb6 : Below w1.heap.size w1 w4 := hb3.trans (hb5.mono hb3.size)
    refine .inr ⟨_, rfl, ?_⟩
    refine ⟨rfl, ?_⟩
    unfold wipeS
    rw [hq]
    exact ⟨hbA.of hb6 h1.base, rfl, h1.below hb6⟩

  | some i =>
    go_wp2_with fail
    refine start_ (n := 12) (S := fun w' => w'.cell? ⟨mb, 0, none⟩ = some (.slice (some ⟨g, 0, none⟩) nv c) ∧ w'.cell? ⟨w.heap.size, 3, none⟩ = some (.int .i64 o.a) ∧ w'.cell? ⟨g, o.a.toNat, none⟩ = some (.int .u64 (m.get o.a))) (ds := []) (bz 12 0) (by kernel_rfl) rfl rfl (HCT.out _ (hb3.trans ((Below.refl _ _).drew.mono hb3.size))) (fun hHeld => ?_)
    refine pure_ (i := 0) (N := (some 14)) (v := ?_) (a' := ?_) (bz 12 1) rfl rfl (by kernel_rfl) (fun _ _ _ h => h) (Or.inl ⟨by rfl, ?_⟩) ?_ ?_
    rotate_left
    · intro w'
      go_simp
      with_reducible rfl
    rotate_left
    · simp only [Act.put, sa_, sb_, sc_]
      rfl
    refine pure_ (i := 1) (N := (some 15)) (v := ?_) (a' := ?_) (bz 12 3) rfl rfl (by kernel_rfl) (fun _ _ _ h => h) (Or.inl ⟨by rfl, ?_⟩) ?_ ?_
    rotate_left
    · intro w'
      go_simp
      with_reducible rfl
    rotate_left
    · simp only [Act.put, sa_, sb_, sc_]
      rfl
    refine pure_ (i := 2) (N := (some 16)) (v := ?_) (a' := ?_) (bz 12 7) rfl rfl (by kernel_rfl) (fun _ _ _ h => h) (Or.inl ⟨by rfl, ?_⟩) ?_ ?_
    rotate_left
    · intro w'
      go_simp
      with_reducible rfl
    rotate_left
    · simp only [Act.put, sa_, sb_, sc_]
      rfl
    refine pure_ (i := 3) (N := (some 17)) (v := ?_) (a' := ?_) (bz 12 15) rfl rfl (by kernel_rfl) (fun _ _ _ h => h) (Or.inl ⟨by rfl, ?_⟩) ?_ ?_
    rotate_left
    · intro w'
      go_simp
      with_reducible rfl
    rotate_left
    · simp only [Act.put, sa_, sb_, sc_]
      rfl
    refine pure_ (i := 5) (N := (some 19)) (v := ?_) (a' := ?_) (bz 12 47) rfl rfl (by kernel_rfl) (fun _ _ _ h => h) (Or.inl ⟨by rfl, ?_⟩) ?_ ?_
    rotate_left
    · intro w'
      go_simp
      with_reducible rfl
    rotate_left
    · simp only [Act.put, sa_, sb_, sc_]
      rfl
    refine pure_ (i := 9) (N := (some 23)) (v := ?_) (a' := ?_) (bz 12 559) rfl rfl (by kernel_rfl) (fun _ _ _ h => h) (Or.inl ⟨by rfl, ?_⟩) ?_ ?_
    rotate_left
    · intro w'
      go_simp
      with_reducible rfl
    rotate_left
    · simp only [Act.put, sa_, sb_, sc_]
      rfl
    refine take_ (i := 4) (N := (some 18)) (v := ?_) (a' := ?_) (bz 12 575) rfl rfl (by kernel_rfl) (fun _ _ _ h => h) (Or.inl ⟨by rfl, ?_⟩) hHeld ?_ ?_
    rotate_left
    · rintro w' ⟨s0, s1, s2⟩
      go_simp
      with_reducible rfl
    rotate_left
    · simp only [Act.put, sa_, sb_, sc_]
      rfl
    refine take_ (i := 6) (N := (some 20)) (v := ?_) (a' := ?_) (bz 12 639) rfl rfl (by kernel_rfl) (fun _ _ _ h => h) (Or.inl ⟨by rfl, ?_⟩) hHeld ?_ ?_
    rotate_left
    · rintro w' ⟨s0, s1, s2⟩
      go_simp
      with_reducible rfl
    rotate_left
    · simp only [Act.put, sa_, sb_, sc_]
      rfl
    refine pure_ (i := 7) (N := (some 21)) (v := ?_) (a' := ?_) (bz 12 767) rfl rfl (by kernel_rfl) (fun _ _ _ h => h) (Or.inl ⟨by rfl, ?_⟩) ?_ ?_
    rotate_left
    · intro w'
      go_simp
      with_reducible rfl
    rotate_left
    · simp only [Act.put, sa_, sb_, sc_]
      rfl
    refine take_ (i := 8) (N := (some 22)) (v := ?_) (a' := ?_) (bz 12 1023) rfl rfl (by kernel_rfl) (fun _ _ _ h => h) (Or.inl ⟨by rfl, ?_⟩) hHeld ?_ ?_
    rotate_left
    · rintro w' ⟨s0, s1, s2⟩
      go_simp
      with_reducible rfl
    rotate_left
    · simp only [Act.put, sa_, sb_, sc_]
      rfl
    refine one_ (i := 10) (N := (some 24)) (bz 12 2047) rfl rfl (by kernel_rfl) (by decide) (fun K hK => ?_)
    refine goesQ_ Tryz.func112 (by kernel_rfl) rfl #[.pointer (some ⟨mb, 0, none⟩), .int .u64 (m.get o.a), .func (.func 113) #[] #[.pointer (some ⟨w1.heap.size, 0, none⟩)]] (by rfl) rfl rfl (by (try simp only [List.map_toArray, List.map_cons, List.map_nil]); first | done | rfl) ?_
    refine (HST.out W3.drew (Below.refl _ _).drew).mono ?_
    intro e w4 hp
    unfold StartP at hp
    rw [hq] at hp
    obtain ⟨hb4, rfl⟩ := hp
    have hb5 : Below W3.heap.size W3 w4 := (Below.refl W3.heap.size W3).drew.trans hb4
    have hb6 : Below w1.heap.size w1 w4 := hb3.trans (hb5.mono hb3.size)
    refine .inl ⟨_, rfl, ?_⟩
    refine hK.out _ _ (HCT.out _ hb6) (fun hHeld => ?_)
    clear hK K
    refine norm_ (a' := ?_) ?_ ?_
    rotate_left
    · show Act.put _ (some 24) _ = _
      simp only [Act.put, sa_, sb_, sc_]
      rfl
    refine pure_ (i := 11) (N := (some 5)) (v := ?_) (a' := ?_) (bz 12 4095) rfl rfl (by kernel_rfl) (fun _ _ _ h => h) (Or.inl ⟨by rfl, ?_⟩) ?_ ?_
    rotate_left
    · intro w'
      go_simp
      with_reducible rfl
    rotate_left
    · simp only [Act.put, sa_, sb_, sc_]
      rfl
    refine done_ (by kernel_rfl) ?_
    clear HST HCS HCT hc hf
    obtain ⟨hi, hh⟩ := findIdx_hit hq
    have hR4 := hR.below hb6
    have hM4 := hM.mono hb6
    have hi2 : i < abs.length := by rw [hR4.al]; exact hi
    obtain ⟨ga, ca, rfl, q0, q1, q2, q3⟩ := obj_at hR4.a hR4.al i hi hi2
    have hby := hR4.ab i hi hi2
    obtain ⟨bg, bc, hbv, hg', hg2, hcell, hfr⟩ := hby.shape
    rw [hbv] at q1
    have hcl := fun ty => clear_bytes w4 ty bg m.arena[i].b.length bc (fun j hj => by rw [hcell j hj]; rfl) hfr
    have hxl := own_le hR4.a
    have CM := hM4.cell
    go_wp2_with (simp only [hcl])
    go_end0
    have hS : wipeS m o = .go { m with arena := m.arena.modify i SObj.wiped } := by
      unfold wipeS
      rw [hq]
    rw [hS]
    have hgr := sets_grown bg (List.replicate m.arena[i].b.length (.int .u8 0)) 0 w4
    have hown : abs[i].ownBlock = some bg := by rw [hbv]; rfl
    refine ⟨(hbA.of hb6 h1.base).grown hgr (Nat.le_trans h1.base hb6.size) (fun k e => ⟨?_, by cases e; exact hby.own hown⟩), rfl, ⟨⟨_, _, _, _, _, _, _, hR4.put_ab SObj.wiped (fun x => ⟨rfl, rfl, rfl⟩) hgr i hi hi2 hown ?_, ?_⟩, h1.mb0, h1.wf.modA i _ fun x hx => ObOk.wiped hx⟩⟩
    · cases e
      have := hR.le
      omega
    · rw [hbv] at hby ⊢
      have := ByRow.zeros m.arena[i].b.length 0 w4 _ hby
      rw [zer_all] at this
      exact this
    · show (w4.setCells bg 0 (List.replicate m.arena[i].b.length (.int .u8 0))).heap[mb]? = _
      rw [hgr.block mb hM4.lt (fun e => ?_)]
      · exact hM4
      · exact (hR4.other hM4 (by decide) (by decide) (by decide) (by decide)).2.2.2.2.2.2 _ (List.getElem_mem hi2) (by rw [hown]; exact e.symm)
end Go.Proofs.YtoabiignjkcdmaaGreat
