/-
  The machine's small steps, walked: what stands in all of them; konst, move.
-/
import Derived.Test.YtoabiignjkcdmaaGreatRunM
import Derived.OwnWalk
import Derived.Deep.AppendLies
namespace Go.Proofs.YtoabiignjkcdmaaGreat
open Go.RowKit
set_option linter.unusedVariables false
set_option linter.unusedSimpArgs false

/-- What holds of a machine all along. -/
structure MWf (m : SM) (nv : Nat) : Prop where
  vl : m.v.length = nv
  vr : ∀ x ∈ m.v, 0 ≤ x ∧ x < 18446744073709551616
  tk : 0 ≤ m.taken ∧ m.taken ≤ m.size ∧ m.size ≤ 65536
  st : 0 ≤ m.steps ∧ m.steps ≤ m.fuel ∧ m.fuel ≤ 4194304
  ob : ∀ x ∈ m.handed ++ m.arena, 0 ≤ x.at' ∧ x.at' < 18446744073709551616 ∧ x.b.length ≤ 65536 ∧ ∀ c ∈ x.b, 0 ≤ c ∧ c < 256
  al : m.left.length = m.arena.length
  lf : ∀ t ∈ m.left, 0 ≤ t ∧ t ≤ m.size
  am : (m.arena.length : Int) ≤ m.steps
  tm : (m.told.length : Int) ≤ m.steps
/-- The machine, in memory. -/
structure MA (w : World) (base B2 mb nv : Nat) (m : SM) : Prop where
  ex : ∃ vv hv av lv tv hbs abs, MRows w base B2 m vv hv av lv tv hbs abs ∧ Bk w mb (mC m vv hv av lv tv) 81
  mb0 : base ≤ mb
  wf : MWf m nv
abbrev overV (e : Int) : Value := .iface 121 (.agg #[.int .i64 e])
/-- A block that is none of a machine's. -/
def foreign : Obj → Bool
  | .cells _ t _ => !(t == 46 || t == 85 || t == 3 || t == 5 || t == 81)
  | _ => true
/-- A block of a machine's kinds. -/
def MOwn (w : World) (g : Nat) : Prop := ∃ o, w.heap[g]? = some o ∧ foreign o = false
/-- What a step of the machine leaves: all below base, and all that is none of a machine's. -/
structure Fr (base : Nat) (w w' : World) : Prop where
  b : Below base w w'
  k : ∀ (n : Nat) (o : Obj), w.heap[n]? = some o → foreign o = true → w'.heap[n]? = some o
theorem Fr.refl (base : Nat) (w : World) : Fr base w w := ⟨Below.refl _ _, fun _ _ h _ => h⟩
theorem Fr.trans {base : Nat} {w w1 w2 : World} (h : Fr base w w1) (h' : Fr base w1 w2) : Fr base w w2 := ⟨h.b.trans h'.b, fun n o ho hf => h'.k n o (h.k n o ho hf) hf⟩
theorem Fr.drew {base : Nat} {w w1 : World} (h : Fr base w w1) : Fr base w w1.drew := ⟨h.b.drew, h.k⟩
theorem Fr.of {base : Nat} {w w1 w2 : World} (h : Fr base w w1) (hb : Below w1.heap.size w1 w2) (hs : base ≤ w1.heap.size) : Fr base w w2 :=
  ⟨h.b.trans (hb.mono hs), fun n o ho hf => by
    have h1 := h.k n o ho hf
    exact (hb.block n (Array.getElem?_eq_some_iff.1 h1).1).trans h1⟩
theorem Fr.grown {base : Nat} {w w1 w2 : World} {r : Option Nat} (h : Fr base w w1) (hg : w1.grownBy w2 r) (hs : base ≤ w1.heap.size) (hr : ∀ k, r = some k → base ≤ k ∧ MOwn w1 k) : Fr base w w2 :=
  ⟨h.b.trans (grown_below hg hs fun k e => (hr k e).1), fun n o ho hf => by
    have h1 := h.k n o ho hf
    refine (hg.block n (Array.getElem?_eq_some_iff.1 h1).1 fun e => ?_).trans h1
    obtain ⟨o', h2, h3⟩ := (hr n e.symm).2
    rw [h1] at h2
    injection h2 with h2
    subst h2
    rw [hf] at h3
    cases h3⟩
theorem Fr.setCell {base : Nat} {w w1 : World} {g i : Nat} (h : Fr base w w1) (hg : base ≤ g) (ho : MOwn w1 g) (v : Value) : Fr base w (w1.setCell ⟨g, i, none⟩ v) :=
  ⟨h.b.setCell (p := ⟨g, i, none⟩) hg v, fun n o hn hf => by
    have h1 := h.k n o hn hf
    refine (heap_setCell_other w1 ⟨g, i, none⟩ n v (fun e => ?_)).trans h1
    obtain ⟨o', h2, h3⟩ := ho
    rw [show n = g from e, h2] at h1
    injection h1 with h1
    subst h1
    rw [hf] at h3
    cases h3⟩
theorem Bk.own {w : World} {mb : Nat} {cs : Array Value} (h : Bk w mb cs 81) : MOwn w mb := ⟨_, h, rfl⟩
theorem own_vO {w : World} {b n s : Nat} {v : Value} {xs : List Value} (h : w.ownsRow b 46 s v n xs) {g : Nat} (hg : v.ownBlock = some g) : MOwn w g := by
  obtain ⟨cur, fz, h1⟩ := own_type h hg
  exact ⟨_, h1, rfl⟩
theorem own_iO {w : World} {b n s : Nat} {v : Value} {xs : List Value} (h : w.ownsRow b 3 s v n xs) {g : Nat} (hg : v.ownBlock = some g) : MOwn w g := by
  obtain ⟨cur, fz, h1⟩ := own_type h hg
  exact ⟨_, h1, rfl⟩
theorem own_oO {w : World} {b n s : Nat} {v : Value} {xs : List Value} (h : w.ownsRow b 85 s v n xs) {g : Nat} (hg : v.ownBlock = some g) : MOwn w g := by
  obtain ⟨cur, fz, h1⟩ := own_type h hg
  exact ⟨_, h1, rfl⟩
theorem ByRow.own {w : World} {b : Nat} {v : Value} {xs : List Int} (h : ByRow w b v xs) {g : Nat} (hg : v.ownBlock = some g) : MOwn w g := by
  obtain ⟨g', cap, cur, lo, hi, rfl, h1, h2, _⟩ := h
  obtain rfl : g' = g := by simpa [Value.ownBlock] using hg
  exact ⟨_, h2, rfl⟩
theorem MRows.vO {w : World} {base B2 n c g : Nat} {m : SM} {hv av lv tv : Value} {hbs abs : List Value} (h : MRows w base B2 m (.slice (some ⟨g, 0, none⟩) n c) hv av lv tv hbs abs) : MOwn w g := own_vO h.v rfl
/-- How a step of the machine ends. -/
def OpPost (w : World) (base B2 mb nv : Nat) (r : Res) (e : Ending) (w' : World) : Prop :=
  Fr base w w' ∧ match r with
    | .go m' => e = .returned (.tuple #[]) ∧ MA w' base B2 mb nv m'
    | .over x m' => e = .panicked [{ v := overV x, recovered := false }] ∧ MA w' base B2 mb nv m'
theorem MA.base {w : World} {base B2 mb nv : Nat} {m : SM} (h : MA w base B2 mb nv m) : base ≤ w.heap.size := by
  obtain ⟨vv, hv, av, lv, tv, hbs, abs, h1, h2⟩ := h.ex
  exact Nat.le_trans h1.le h1.sz
theorem MA.below {w w' : World} {base B2 mb nv : Nat} {m : SM} (h : MA w base B2 mb nv m) (hb : Below w.heap.size w w') : MA w' base B2 mb nv m := by
  obtain ⟨vv, hv, av, lv, tv, hbs, abs, h1, h2⟩ := h.ex
  exact ⟨⟨vv, hv, av, lv, tv, hbs, abs, h1.below hb, h2.mono hb⟩, h.mb0, h.wf⟩
theorem get_eq {m : SM} {i : Int} {nv : Nat} (hw : MWf m nv) (h0 : 0 ≤ i) (h1 : i < nv) : ∃ h : i.toNat < m.v.length, m.get i = m.v[i.toNat] := by
  have hl := hw.vl
  refine ⟨by omega, ?_⟩
  unfold SM.get
  rw [List.getD_eq_getElem?_getD, List.getElem?_eq_getElem (by omega)]
  rfl
theorem get_range {m : SM} {i : Int} {nv : Nat} (hw : MWf m nv) (h0 : 0 ≤ i) (h1 : i < nv) : 0 ≤ m.get i ∧ m.get i < 18446744073709551616 := by
  obtain ⟨h, e⟩ := get_eq hw h0 h1
  rw [e]
  exact hw.vr _ (List.getElem_mem h)
/-- The variables' row, opened. -/
theorem MRows.v_open {w : World} {base B2 nv : Nat} {m : SM} {vv hv av lv tv : Value} {hbs abs : List Value} (h : MRows w base B2 m vv hv av lv tv hbs abs) (hw : MWf m nv) (hn : 0 < nv) :
    ∃ g c, vv = .slice (some ⟨g, 0, none⟩) nv c ∧ base ≤ g ∧ g < w.heap.size ∧ (∀ i : Int, 0 ≤ i → i < nv → w.cell? ⟨g, i.toNat, none⟩ = some (.int .u64 (m.get i))) ∧ ∀ j, w.frozen? ⟨g, j, none⟩ = false := by
  have hl := hw.vl
  have hv := h.v
  rw [hl] at hv
  obtain ⟨g, c, rfl, hg, hlt⟩ := hv.form hn
  refine ⟨g, c, rfl, hg, (Array.getElem?_eq_some_iff.1 (own_type h.v (g := g) rfl).choose_spec.choose_spec).1, fun i h0 h1 => ?_, fun j => hv.frozenAt j⟩
  obtain ⟨hi, e⟩ := get_eq hw h0 h1
  rw [World.ownsRow.cellAt hv i.toNat (by omega), e]
  simp [hi]
theorem MWf.put {m : SM} {nv : Nat} (h : MWf m nv) (d x : Int) (h0 : 0 ≤ x) (h1 : x < 18446744073709551616) : MWf (m.put d x) nv :=
  { h with
    vl := by show (m.v.set d.toNat x).length = nv; rw [List.length_set]; exact h.vl
    vr := fun y hy => by
      have hy' : y ∈ m.v.set d.toNat x := hy
      rcases List.mem_or_eq_of_mem_set hy' with h2 | h2
      · exact h.vr y h2
      · subst h2; exact ⟨h0, h1⟩ }
theorem MRows.mb_ne {w : World} {base B2 mb n c g : Nat} {m : SM} {hv av lv tv : Value} {hbs abs : List Value} {cs : Array Value} (h : MRows w base B2 m (.slice (some ⟨g, 0, none⟩) n c) hv av lv tv hbs abs) (hM : Bk w mb cs 81) : mb ≠ g := by
  intro e
  subst e
  exact own_not h.v hM (by decide) rfl
theorem MRows.put {w : World} {base B2 mb nv n c g : Nat} {m : SM} {hv av lv tv : Value} {hbs abs : List Value} (h : MRows w base B2 m (.slice (some ⟨g, 0, none⟩) n c) hv av lv tv hbs abs) (hM : Bk w mb (mC m (.slice (some ⟨g, 0, none⟩) n c) hv av lv tv) 81) (hm : base ≤ mb) (hw : MWf m nv)
    (d x : Int) (h0 : 0 ≤ d) (h1 : d < nv) (x0 : 0 ≤ x) (x1 : x < 18446744073709551616) : MA (w.setCell ⟨g, d.toNat, none⟩ (.int .u64 x)) base B2 mb nv (m.put d x) :=
  ⟨⟨_, _, _, _, _, _, _, h.set_v d.toNat (by rw [hw.vl]; omega) x, hM.other (h.mb_ne hM) _⟩, hm, hw.put d x x0 x1⟩
theorem MA.drew {w : World} {base B2 mb nv : Nat} {m : SM} (h : MA w base B2 mb nv m) : MA w.drew base B2 mb nv m := h.below (Below.refl _ _).drew
abbrev opA (o : SOp) : Array Value := #[.int .u8 o.k, .int .u8 o.fn, .int .i64 o.d, .int .i64 o.a, .int .i64 o.b, .int .u64 o.imm]
/-- The machine and its step, as a step's walk begins. -/
theorem op_begin {o : SOp} {m : SM} {w : World} {base B2 mb nv : Nat} (h : MA w base B2 mb nv m) : ∃ w1, w1 = w.alloc (.cells (opA o) 54) ∧ MA w1 base B2 mb nv m ∧ Fr base w w1 ∧ Bk w1 w.heap.size (opA o) 54 ∧ base ≤ w.heap.size := by
  have hbA := (Below.refl w.heap.size w).alloc (Nat.le_refl _) (.cells (opA o) 54)
  exact ⟨_, rfl, h.below hbA, (Fr.refl base w).of hbA h.base, Bk.new _ _ _, h.base⟩
set_option maxRecDepth 100000 in
set_option maxHeartbeats 2000000 in
theorem konst_c (o : SOp) (m : SM) (w : World) (base B2 mb nv : Nat) (h : MA w base B2 mb nv m) (hd0 : 0 ≤ o.d) (hd1 : o.d < nv) (hi0 : 0 ≤ o.imm) (hi1 : o.imm < 18446744073709551616) :
    Calls Tryz.prog 82 #[.pointer (some ⟨mb, 0, none⟩), o.val] w (OpPost w base B2 mb nv (.go (m.put o.d o.imm))) := by
  obtain ⟨w1, hw1, h1, hbA, BO, hBase⟩ := op_begin (o := o) h
  unfold SOp.val
  go_enter Tryz.func82, Tryz.ntmps82
  go_upto_region 1 with (fail)
  rw [← hw1]
  clear hw1
  obtain ⟨vv, hv, av, lv, tv, hbs, abs, hR, hM⟩ := h1.ex
  obtain ⟨g, c, rfl, hg0, hg1, hc, hf⟩ := hR.v_open h1.wf (by omega)
  have CO := BO.cell
  have CM := hM.cell
  have cd := hc o.d hd0 hd1
  have fd := hf o.d.toNat
  go_region
  go_wp2_with fail
  go_end0
  exact ⟨(hbA.setCell hg0 hR.vO _).drew, rfl, (hR.put hM h.mb0 h.wf o.d o.imm hd0 hd1 hi0 hi1).drew⟩
set_option maxRecDepth 100000 in
set_option maxHeartbeats 2000000 in
theorem move_c (o : SOp) (m : SM) (w : World) (base B2 mb nv : Nat) (h : MA w base B2 mb nv m) (hd0 : 0 ≤ o.d) (hd1 : o.d < nv) (ha0 : 0 ≤ o.a) (ha1 : o.a < nv) :
    Calls Tryz.prog 83 #[.pointer (some ⟨mb, 0, none⟩), o.val] w (OpPost w base B2 mb nv (.go (m.put o.d (m.get o.a)))) := by
  obtain ⟨w1, hw1, h1, hbA, BO, hBase⟩ := op_begin (o := o) h
  unfold SOp.val
  go_enter Tryz.func83, Tryz.ntmps83
  go_upto_region 1 with (fail)
  rw [← hw1]
  clear hw1
  obtain ⟨vv, hv, av, lv, tv, hbs, abs, hR, hM⟩ := h1.ex
  obtain ⟨g, c, rfl, hg0, hg1, hc, hf⟩ := hR.v_open h1.wf (by omega)
  have CO := BO.cell
  have CM := hM.cell
  have cd := hc o.d hd0 hd1
  have ca := hc o.a ha0 ha1
  have fd := hf o.d.toNat
  have hr := get_range h.wf ha0 ha1
  go_region
  go_wp2_with fail
  go_end0
  exact ⟨(hbA.setCell hg0 hR.vO _).drew, rfl, (hR.put hM h.mb0 h.wf o.d (m.get o.a) hd0 hd1 hr.1 hr.2).drew⟩
/-- trap. -/
theorem MRows.traps {w : World} {base B2 mb nv : Nat} {m : SM} {vv hv av lv tv : Value} {hbs abs : List Value} (h : MRows w base B2 m vv hv av lv tv hbs abs) (hM : Bk w mb (mC m vv hv av lv tv) 81) (hm : base ≤ mb) (hw : MWf m nv) (n : Int) :
    MA ((w.setCell ⟨mb, 7, none⟩ (.int .u8 4)).setCell ⟨mb, 8, none⟩ (.int .i64 n)) base B2 mb nv { m with en := 4, trap := n } :=
  ⟨⟨_, _, _, _, _, _, _, ((h.mach hM 7 _).mach (hM.set 7 _) 8 _).like rfl rfl rfl rfl rfl, (hM.set 7 _).set 8 _⟩, hm, { hw with }⟩
set_option maxRecDepth 100000 in
theorem trap_c (n : Int) (m : SM) (w : World) (base B2 mb nv : Nat) (h : MA w base B2 mb nv m) :
    Calls Tryz.prog 71 #[.pointer (some ⟨mb, 0, none⟩), .int .i64 n] w (OpPost w base B2 mb nv (trapS m n)) := by
  obtain ⟨vv, hv, av, lv, tv, hbs, abs, hR, hM⟩ := h.ex
  have CM := hM.cell
  have FM := hM.free
  have hmb := h.mb0
  go_enter Tryz.func71, Tryz.ntmps71
  go_wp2_with fail
  exact ⟨rfl, ((Fr.refl base w).setCell hmb hM.own _).setCell hmb (hM.set 7 _).own _, rfl, hR.traps hM h.mb0 h.wf n⟩
set_option maxRecDepth 100000 in
set_option maxHeartbeats 2000000 in
theorem less_c (o : SOp) (m : SM) (w : World) (base B2 mb nv : Nat) (h : MA w base B2 mb nv m) (ha0 : 0 ≤ o.a) (ha1 : o.a < nv) (hb0 : 0 ≤ o.b) (hb1 : o.b < nv) :
    Calls Tryz.prog 87 #[.pointer (some ⟨mb, 0, none⟩), o.val] w (OpPost w base B2 mb nv (if m.get o.b ≤ m.get o.a then trapS m 1 else .go m)) := by
  obtain ⟨w1, hw1, h1, hbA, BO, hBase⟩ := op_begin (o := o) h
  unfold SOp.val
  go_enter Tryz.func87, Tryz.ntmps87
  go_upto_region 1 with (fail)
  rw [← hw1]
  clear hw1
  obtain ⟨vv, hv, av, lv, tv, hbs, abs, hR, hM⟩ := h1.ex
  obtain ⟨g, c, rfl, hg0, hg1, hc, hf⟩ := hR.v_open h1.wf (by omega)
  have CO := BO.cell
  have CM := hM.cell
  have ca := hc o.a ha0 ha1
  have cb := hc o.b hb0 hb1
  go_region
  by_cases hlt : m.get o.b ≤ m.get o.a
  · rw [if_pos hlt]
    go_wp2_with fail
    refine (trap_c 1 m _ base B2 mb nv h1.drew).mono ?_
    rintro e w2 ⟨hb2, rfl, h2⟩
    go_wp2_with fail
    exact ⟨rfl, hbA.drew.trans hb2, rfl, h2⟩
  · rw [if_neg hlt]
    go_wp2_with fail
    go_end0
    exact ⟨hbA.drew, rfl, h1.drew⟩
set_option maxRecDepth 100000 in
set_option maxHeartbeats 2000000 in
theorem most_c (o : SOp) (m : SM) (w : World) (base B2 mb nv : Nat) (h : MA w base B2 mb nv m) (ha0 : 0 ≤ o.a) (ha1 : o.a < nv) (hb0 : 0 ≤ o.b) (hb1 : o.b < nv) :
    Calls Tryz.prog 88 #[.pointer (some ⟨mb, 0, none⟩), o.val] w (OpPost w base B2 mb nv (if m.get o.b < m.get o.a then trapS m 1 else .go m)) := by
  obtain ⟨w1, hw1, h1, hbA, BO, hBase⟩ := op_begin (o := o) h
  unfold SOp.val
  go_enter Tryz.func88, Tryz.ntmps88
  go_upto_region 1 with (fail)
  rw [← hw1]
  clear hw1
  obtain ⟨vv, hv, av, lv, tv, hbs, abs, hR, hM⟩ := h1.ex
  obtain ⟨g, c, rfl, hg0, hg1, hc, hf⟩ := hR.v_open h1.wf (by omega)
  have CO := BO.cell
  have CM := hM.cell
  have ca := hc o.a ha0 ha1
  have cb := hc o.b hb0 hb1
  go_region
  by_cases hlt : m.get o.b < m.get o.a
  · rw [if_pos hlt]
    go_wp2_with fail
    refine (trap_c 1 m _ base B2 mb nv h1.drew).mono ?_
    rintro e w2 ⟨hb2, rfl, h2⟩
    go_wp2_with fail
    exact ⟨rfl, hbA.drew.trans hb2, rfl, h2⟩
  · rw [if_neg hlt]
    go_wp2_with fail
    go_end0
    exact ⟨hbA.drew, rfl, h1.drew⟩
set_option maxRecDepth 100000 in
set_option maxHeartbeats 2000000 in
theorem some_c (o : SOp) (m : SM) (w : World) (base B2 mb nv : Nat) (h : MA w base B2 mb nv m) (ha0 : 0 ≤ o.a) (ha1 : o.a < nv) :
    Calls Tryz.prog 89 #[.pointer (some ⟨mb, 0, none⟩), o.val] w (OpPost w base B2 mb nv (if m.get o.a = 0 then trapS m 2 else .go m)) := by
  obtain ⟨w1, hw1, h1, hbA, BO, hBase⟩ := op_begin (o := o) h
  unfold SOp.val
  go_enter Tryz.func89, Tryz.ntmps89
  go_upto_region 1 with (fail)
  rw [← hw1]
  clear hw1
  obtain ⟨vv, hv, av, lv, tv, hbs, abs, hR, hM⟩ := h1.ex
  obtain ⟨g, c, rfl, hg0, hg1, hc, hf⟩ := hR.v_open h1.wf (by omega)
  have CO := BO.cell
  have CM := hM.cell
  have ca := hc o.a ha0 ha1
  go_region
  by_cases hlt : m.get o.a = 0
  · rw [if_pos hlt]
    go_wp2_with fail
    refine (trap_c 2 m _ base B2 mb nv h1.drew).mono ?_
    rintro e w2 ⟨hb2, rfl, h2⟩
    go_wp2_with fail
    exact ⟨rfl, hbA.drew.trans hb2, rfl, h2⟩
  · rw [if_neg hlt]
    go_wp2_with fail
    go_end0
    exact ⟨hbA.drew, rfl, h1.drew⟩
set_option maxRecDepth 100000 in
theorem seal_c (o : SOp) (m : SM) (w : World) (base B2 mb nv : Nat) (h : MA w base B2 mb nv m) :
    Calls Tryz.prog 94 #[.pointer (some ⟨mb, 0, none⟩), o.val] w (OpPost w base B2 mb nv (.go m)) := by
  unfold SOp.val
  go_enter Tryz.func94, Tryz.ntmps94
  go_wp2_with fail
  go_end0
  obtain ⟨w1, hw1, h1, hbA, BO, hBase⟩ := op_begin (o := o) h
  rw [← hw1]
  exact ⟨hbA, rfl, h1⟩
end Go.Proofs.YtoabiignjkcdmaaGreat
