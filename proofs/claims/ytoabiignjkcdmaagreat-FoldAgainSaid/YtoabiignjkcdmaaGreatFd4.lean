/-
  Lemmas (texts RunO1 ShelfM RunA), each proved without a condition beyond its own hypotheses.
-/
import Derived.Test.YtoabiignjkcdmaaGreatFd3
import Derived.OwnWalk
import Derived.Deep.AppendLies
import Derived.Shelf.Bits.Mul64
import Derived.Test.YtoabiignjkcdmaaGreatProg
import Derived.Laws.Closers25b
namespace Go.Proofs.YtoabiignjkcdmaaGreat
open Go.RowKit
set_option linter.unusedVariables false
set_option linter.unusedSimpArgs false

/-- What holds of a machine all along. -/
structure MWf (m : SM) (nv : Nat) : Prop where
  vl : m.v.length = nv
  vr : ∀ x ∈ m.v, 0 ≤ x ∧ x < 18446744073709551616
  tk : 0 ≤ m.taken ∧ m.taken ≤ m.size ∧ m.size ≤ 65536
  st : 0 ≤ m.steps ∧ m.steps ≤ m.fuel ∧ m.fuel ≤ 4194304
  ob : ∀ x ∈ m.handed ++ m.arena, 0 ≤ x.at' ∧ x.at' < 18446744073709551616 ∧ x.b.length ≤ 65536 ∧ ∀ c ∈ x.b, 0 ≤ c ∧ c < 256
  al : m.left.length = m.arena.length
  lf : ∀ t ∈ m.left, 0 ≤ t ∧ t ≤ m.size
  am : (m.arena.length : Int) ≤ m.steps
  tm : (m.told.length : Int) ≤ m.steps
/-- The machine, in memory. -/
structure MA (w : World) (base B2 mb nv : Nat) (m : SM) : Prop where
  ex : ∃ vv hv av lv tv hbs abs, MRows w base B2 m vv hv av lv tv hbs abs ∧ Bk w mb (mC m vv hv av lv tv) 81
  mb0 : base ≤ mb
  wf : MWf m nv
abbrev overV (e : Int) : Value := .iface 121 (.agg #[.int .i64 e])
/-- A block that is none of a machine's. -/
def foreign : Obj → Bool
  | .cells _ t _ => !(t == 46 || t == 85 || t == 3 || t == 5 || t == 81)
  | _ => true
/-- A block of a machine's kinds. -/
def MOwn (w : World) (g : Nat) : Prop := ∃ o, w.heap[g]? = some o ∧ foreign o = false
/-- What a step of the machine leaves: all below base, and all that is none of a machine's. -/
structure Fr (base : Nat) (w w' : World) : Prop where
  b : Below base w w'
  k : ∀ (n : Nat) (o : Obj), w.heap[n]? = some o → foreign o = true → w'.heap[n]? = some o
theorem Fr.refl (base : Nat) (w : World) : Fr base w w := ⟨Below.refl _ _, fun _ _ h _ => h⟩
theorem Fr.trans {base : Nat} {w w1 w2 : World} (h : Fr base w w1) (h' : Fr base w1 w2) : Fr base w w2 := ⟨h.b.trans h'.b, fun n o ho hf => h'.k n o (h.k n o ho hf) hf⟩
theorem Fr.drew {base : Nat} {w w1 : World} (h : Fr base w w1) : Fr base w w1.drew := ⟨h.b.drew, h.k⟩
theorem Fr.of {base : Nat} {w w1 w2 : World} (h : Fr base w w1) (hb : Below w1.heap.size w1 w2) (hs : base ≤ w1.heap.size) : Fr base w w2 :=
  ⟨h.b.trans (hb.mono hs), fun n o ho hf => by
    have h1 := h.k n o ho hf
    exact (hb.block n (Array.getElem?_eq_some_iff.1 h1).1).trans h1⟩
theorem Fr.grown {base : Nat} {w w1 w2 : World} {r : Option Nat} (h : Fr base w w1) (hg : w1.grownBy w2 r) (hs : base ≤ w1.heap.size) (hr : ∀ k, r = some k → base ≤ k ∧ MOwn w1 k) : Fr base w w2 :=
  ⟨h.b.trans (grown_below hg hs fun k e => (hr k e).1), fun n o ho hf => by
    have h1 := h.k n o ho hf
    refine (hg.block n (Array.getElem?_eq_some_iff.1 h1).1 fun e => ?_).trans h1
    obtain ⟨o', h2, h3⟩ := (hr n e.symm).2
    rw [h1] at h2
    injection h2 with h2
    subst h2
    rw [hf] at h3
    cases h3⟩
theorem Fr.setCell {base : Nat} {w w1 : World} {g i : Nat} (h : Fr base w w1) (hg : base ≤ g) (ho : MOwn w1 g) (v : Value) : Fr base w (w1.setCell ⟨g, i, none⟩ v) :=
  ⟨h.b.setCell (p := ⟨g, i, none⟩) hg v, fun n o hn hf => by
    have h1 := h.k n o hn hf
    refine (heap_setCell_other w1 ⟨g, i, none⟩ n v (fun e => ?_)).trans h1
    obtain ⟨o', h2, h3⟩ := ho
    rw [show n = g from e, h2] at h1
    injection h1 with h1
    subst h1
    rw [hf] at h3
    cases h3⟩
theorem Bk.own {w : World} {mb : Nat} {cs : Array Value} (h : Bk w mb cs 81) : MOwn w mb := ⟨_, h, rfl⟩
theorem own_vO {w : World} {b n s : Nat} {v : Value} {xs : List Value} (h : w.ownsRow b 46 s v n xs) {g : Nat} (hg : v.ownBlock = some g) : MOwn w g := by
  obtain ⟨cur, fz, h1⟩ := own_type h hg
  exact ⟨_, h1, rfl⟩
theorem own_iO {w : World} {b n s : Nat} {v : Value} {xs : List Value} (h : w.ownsRow b 3 s v n xs) {g : Nat} (hg : v.ownBlock = some g) : MOwn w g := by
  obtain ⟨cur, fz, h1⟩ := own_type h hg
  exact ⟨_, h1, rfl⟩
theorem own_oO {w : World} {b n s : Nat} {v : Value} {xs : List Value} (h : w.ownsRow b 85 s v n xs) {g : Nat} (hg : v.ownBlock = some g) : MOwn w g := by
  obtain ⟨cur, fz, h1⟩ := own_type h hg
  exact ⟨_, h1, rfl⟩
theorem ByRow.own {w : World} {b : Nat} {v : Value} {xs : List Int} (h : ByRow w b v xs) {g : Nat} (hg : v.ownBlock = some g) : MOwn w g := by
  obtain ⟨g', cap, cur, lo, hi, rfl, h1, h2, _⟩ := h
  obtain rfl : g' = g := by simpa [Value.ownBlock] using hg
  exact ⟨_, h2, rfl⟩
theorem MRows.vO {w : World} {base B2 n c g : Nat} {m : SM} {hv av lv tv : Value} {hbs abs : List Value} (h : MRows w base B2 m (.slice (some ⟨g, 0, none⟩) n c) hv av lv tv hbs abs) : MOwn w g := own_vO h.v rfl
/-- How a step of the machine ends. -/
def OpPost (w : World) (base B2 mb nv : Nat) (r : Res) (e : Ending) (w' : World) : Prop :=
  Fr base w w' ∧ match r with
    | .go m' => e = .returned (.tuple #[]) ∧ MA w' base B2 mb nv m'
    | .over x m' => e = .panicked [{ v := overV x, recovered := false }] ∧ MA w' base B2 mb nv m'
theorem MA.base {w : World} {base B2 mb nv : Nat} {m : SM} (h : MA w base B2 mb nv m) : base ≤ w.heap.size := by
  obtain ⟨vv, hv, av, lv, tv, hbs, abs, h1, h2⟩ := h.ex
  exact Nat.le_trans h1.le h1.sz
theorem MA.below {w w' : World} {base B2 mb nv : Nat} {m : SM} (h : MA w base B2 mb nv m) (hb : Below w.heap.size w w') : MA w' base B2 mb nv m := by
  obtain ⟨vv, hv, av, lv, tv, hbs, abs, h1, h2⟩ := h.ex
  exact ⟨⟨vv, hv, av, lv, tv, hbs, abs, h1.below hb, h2.mono hb⟩, h.mb0, h.wf⟩
theorem get_eq {m : SM} {i : Int} {nv : Nat} (hw : MWf m nv) (h0 : 0 ≤ i) (h1 : i < nv) : ∃ h : i.toNat < m.v.length, m.get i = m.v[i.toNat] := by
  have hl := hw.vl
  refine ⟨by omega, ?_⟩
  unfold SM.get
  rw [List.getD_eq_getElem?_getD, List.getElem?_eq_getElem (by omega)]
  rfl
theorem get_range {m : SM} {i : Int} {nv : Nat} (hw : MWf m nv) (h0 : 0 ≤ i) (h1 : i < nv) : 0 ≤ m.get i ∧ m.get i < 18446744073709551616 := by
  obtain ⟨h, e⟩ := get_eq hw h0 h1
  rw [e]
  exact hw.vr _ (List.getElem_mem h)
/-- The variables' row, opened. -/
theorem MRows.v_open {w : World} {base B2 nv : Nat} {m : SM} {vv hv av lv tv : Value} {hbs abs : List Value} (h : MRows w base B2 m vv hv av lv tv hbs abs) (hw : MWf m nv) (hn : 0 < nv) :
    ∃ g c, vv = .slice (some ⟨g, 0, none⟩) nv c ∧ base ≤ g ∧ g < w.heap.size ∧ (∀ i : Int, 0 ≤ i → i < nv → w.cell? ⟨g, i.toNat, none⟩ = some (.int .u64 (m.get i))) ∧ ∀ j, w.frozen? ⟨g, j, none⟩ = false := by
  have hl := hw.vl
  have hv := h.v
  rw [hl] at hv
  obtain ⟨g, c, rfl, hg, hlt⟩ := hv.form hn
  refine ⟨g, c, rfl, hg, (Array.getElem?_eq_some_iff.1 (own_type h.v (g := g) rfl).choose_spec.choose_spec).1, fun i h0 h1 => ?_, fun j => hv.frozenAt j⟩
  obtain ⟨hi, e⟩ := get_eq hw h0 h1
  rw [World.ownsRow.cellAt hv i.toNat (by omega), e]
  simp [hi]
theorem MWf.put {m : SM} {nv : Nat} (h : MWf m nv) (d x : Int) (h0 : 0 ≤ x) (h1 : x < 18446744073709551616) : MWf (m.put d x) nv :=
  { h with
    vl := by show (m.v.set d.toNat x).length = nv; rw [List.length_set]; exact h.vl
    vr := fun y hy => by
      have hy' : y ∈ m.v.set d.toNat x := hy
      rcases List.mem_or_eq_of_mem_set hy' with h2 | h2
      · exact h.vr y h2
      · subst h2; exact ⟨h0, h1⟩ }
theorem MRows.mb_ne {w : World} {base B2 mb n c g : Nat} {m : SM} {hv av lv tv : Value} {hbs abs : List Value} {cs : Array Value} (h : MRows w base B2 m (.slice (some ⟨g, 0, none⟩) n c) hv av lv tv hbs abs) (hM : Bk w mb cs 81) : mb ≠ g := by
  intro e
  subst e
  exact own_not h.v hM (by decide) rfl
theorem MRows.put {w : World} {base B2 mb nv n c g : Nat} {m : SM} {hv av lv tv : Value} {hbs abs : List Value} (h : MRows w base B2 m (.slice (some ⟨g, 0, none⟩) n c) hv av lv tv hbs abs) (hM : Bk w mb (mC m (.slice (some ⟨g, 0, none⟩) n c) hv av lv tv) 81) (hm : base ≤ mb) (hw : MWf m nv)
    (d x : Int) (h0 : 0 ≤ d) (h1 : d < nv) (x0 : 0 ≤ x) (x1 : x < 18446744073709551616) : MA (w.setCell ⟨g, d.toNat, none⟩ (.int .u64 x)) base B2 mb nv (m.put d x) :=
  ⟨⟨_, _, _, _, _, _, _, h.set_v d.toNat (by rw [hw.vl]; omega) x, hM.other (h.mb_ne hM) _⟩, hm, hw.put d x x0 x1⟩
theorem MA.drew {w : World} {base B2 mb nv : Nat} {m : SM} (h : MA w base B2 mb nv m) : MA w.drew base B2 mb nv m := h.below (Below.refl _ _).drew
abbrev opA (o : SOp) : Array Value := #[.int .u8 o.k, .int .u8 o.fn, .int .i64 o.d, .int .i64 o.a, .int .i64 o.b, .int .u64 o.imm]
/-- The machine and its step, as a step's walk begins. -/
theorem op_begin {o : SOp} {m : SM} {w : World} {base B2 mb nv : Nat} (h : MA w base B2 mb nv m) : ∃ w1, w1 = w.alloc (.cells (opA o) 54) ∧ MA w1 base B2 mb nv m ∧ Fr base w w1 ∧ Bk w1 w.heap.size (opA o) 54 ∧ base ≤ w.heap.size := by
  have hbA := (Below.refl w.heap.size w).alloc (Nat.le_refl _) (.cells (opA o) 54)
  exact ⟨_, rfl, h.below hbA, (Fr.refl base w).of hbA h.base, Bk.new _ _ _, h.base⟩
set_option maxRecDepth 100000 in
set_option maxHeartbeats 2000000 in
theorem konst_c (o : SOp) (m : SM) (w : World) (base B2 mb nv : Nat) (h : MA w base B2 mb nv m) (hd0 : 0 ≤ o.d) (hd1 : o.d < nv) (hi0 : 0 ≤ o.imm) (hi1 : o.imm < 18446744073709551616) :
    Calls Tryz.prog 82 #[.pointer (some ⟨mb, 0, none⟩), o.val] w (OpPost w base B2 mb nv (.go (m.put o.d o.imm))) := by
  obtain ⟨w1, hw1, h1, hbA, BO, hBase⟩ := op_begin (o := o) h
  unfold SOp.val
  go_enter Tryz.func82, Tryz.ntmps82
  go_upto_region 1 with (fail)
  rw [← hw1]
  clear hw1
  obtain ⟨vv, hv, av, lv, tv, hbs, abs, hR, hM⟩ := h1.ex
  obtain ⟨g, c, rfl, hg0, hg1, hc, hf⟩ := hR.v_open h1.wf (by omega)
  have CO := BO.cell
  have CM := hM.cell
  have cd := hc o.d hd0 hd1
  have fd := hf o.d.toNat
  go_region
  go_wp2_with fail
  go_end0
  exact ⟨(hbA.setCell hg0 hR.vO _).drew, rfl, (hR.put hM h.mb0 h.wf o.d o.imm hd0 hd1 hi0 hi1).drew⟩
set_option maxRecDepth 100000 in
set_option maxHeartbeats 2000000 in
theorem move_c (o : SOp) (m : SM) (w : World) (base B2 mb nv : Nat) (h : MA w base B2 mb nv m) (hd0 : 0 ≤ o.d) (hd1 : o.d < nv) (ha0 : 0 ≤ o.a) (ha1 : o.a < nv) :
    Calls Tryz.prog 83 #[.pointer (some ⟨mb, 0, none⟩), o.val] w (OpPost w base B2 mb nv (.go (m.put o.d (m.get o.a)))) := by
  obtain ⟨w1, hw1, h1, hbA, BO, hBase⟩ := op_begin (o := o) h
  unfold SOp.val
  go_enter Tryz.func83, Tryz.ntmps83
  go_upto_region 1 with (fail)
  rw [← hw1]
  clear hw1
  obtain ⟨vv, hv, av, lv, tv, hbs, abs, hR, hM⟩ := h1.ex
  obtain ⟨g, c, rfl, hg0, hg1, hc, hf⟩ := hR.v_open h1.wf (by omega)
  have CO := BO.cell
  have CM := hM.cell
  have cd := hc o.d hd0 hd1
  have ca := hc o.a ha0 ha1
  have fd := hf o.d.toNat
  have hr := get_range h.wf ha0 ha1
  go_region
  go_wp2_with fail
  go_end0
  exact ⟨(hbA.setCell hg0 hR.vO _).drew, rfl, (hR.put hM h.mb0 h.wf o.d (m.get o.a) hd0 hd1 hr.1 hr.2).drew⟩
/-- trap. -/
theorem MRows.traps {w : World} {base B2 mb nv : Nat} {m : SM} {vv hv av lv tv : Value} {hbs abs : List Value} (h : MRows w base B2 m vv hv av lv tv hbs abs) (hM : Bk w mb (mC m vv hv av lv tv) 81) (hm : base ≤ mb) (hw : MWf m nv) (n : Int) :
    MA ((w.setCell ⟨mb, 7, none⟩ (.int .u8 4)).setCell ⟨mb, 8, none⟩ (.int .i64 n)) base B2 mb nv { m with en := 4, trap := n } :=
  ⟨⟨_, _, _, _, _, _, _, ((h.mach hM 7 _).mach (hM.set 7 _) 8 _).like rfl rfl rfl rfl rfl, (hM.set 7 _).set 8 _⟩, hm, { hw with }⟩
set_option maxRecDepth 100000 in
theorem trap_c (n : Int) (m : SM) (w : World) (base B2 mb nv : Nat) (h : MA w base B2 mb nv m) :
    Calls Tryz.prog 71 #[.pointer (some ⟨mb, 0, none⟩), .int .i64 n] w (OpPost w base B2 mb nv (trapS m n)) := by
  obtain ⟨vv, hv, av, lv, tv, hbs, abs, hR, hM⟩ := h.ex
  have CM := hM.cell
  have FM := hM.free
  have hmb := h.mb0
  go_enter Tryz.func71, Tryz.ntmps71
  go_wp2_with fail
  exact ⟨rfl, ((Fr.refl base w).setCell hmb hM.own _).setCell hmb (hM.set 7 _).own _, rfl, hR.traps hM h.mb0 h.wf n⟩
set_option maxRecDepth 100000 in
set_option maxHeartbeats 2000000 in
theorem less_c (o : SOp) (m : SM) (w : World) (base B2 mb nv : Nat) (h : MA w base B2 mb nv m) (ha0 : 0 ≤ o.a) (ha1 : o.a < nv) (hb0 : 0 ≤ o.b) (hb1 : o.b < nv) :
    Calls Tryz.prog 87 #[.pointer (some ⟨mb, 0, none⟩), o.val] w (OpPost w base B2 mb nv (if m.get o.b ≤ m.get o.a then trapS m 1 else .go m)) := by
  obtain ⟨w1, hw1, h1, hbA, BO, hBase⟩ := op_begin (o := o) h
  unfold SOp.val
  go_enter Tryz.func87, Tryz.ntmps87
  go_upto_region 1 with (fail)
  rw [← hw1]
  clear hw1
  obtain ⟨vv, hv, av, lv, tv, hbs, abs, hR, hM⟩ := h1.ex
  obtain ⟨g, c, rfl, hg0, hg1, hc, hf⟩ := hR.v_open h1.wf (by omega)
  have CO := BO.cell
  have CM := hM.cell
  have ca := hc o.a ha0 ha1
  have cb := hc o.b hb0 hb1
  go_region
  by_cases hlt : m.get o.b ≤ m.get o.a
  · rw [if_pos hlt]
    go_wp2_with fail
    refine (trap_c 1 m _ base B2 mb nv h1.drew).mono ?_
    rintro e w2 ⟨hb2, rfl, h2⟩
    go_wp2_with fail
    exact ⟨rfl, hbA.drew.trans hb2, rfl, h2⟩
  · rw [if_neg hlt]
    go_wp2_with fail
    go_end0
    exact ⟨hbA.drew, rfl, h1.drew⟩
set_option maxRecDepth 100000 in
set_option maxHeartbeats 2000000 in
theorem most_c (o : SOp) (m : SM) (w : World) (base B2 mb nv : Nat) (h : MA w base B2 mb nv m) (ha0 : 0 ≤ o.a) (ha1 : o.a < nv) (hb0 : 0 ≤ o.b) (hb1 : o.b < nv) :
    Calls Tryz.prog 88 #[.pointer (some ⟨mb, 0, none⟩), o.val] w (OpPost w base B2 mb nv (if m.get o.b < m.get o.a then trapS m 1 else .go m)) := by
  obtain ⟨w1, hw1, h1, hbA, BO, hBase⟩ := op_begin (o := o) h
  unfold SOp.val
  go_enter Tryz.func88, Tryz.ntmps88
  go_upto_region 1 with (fail)
  rw [← hw1]
  clear hw1
  obtain ⟨vv, hv, av, lv, tv, hbs, abs, hR, hM⟩ := h1.ex
  obtain ⟨g, c, rfl, hg0, hg1, hc, hf⟩ := hR.v_open h1.wf (by omega)
  have CO := BO.cell
  have CM := hM.cell
  have ca := hc o.a ha0 ha1
  have cb := hc o.b hb0 hb1
  go_region
  by_cases hlt : m.get o.b < m.get o.a
  · rw [if_pos hlt]
    go_wp2_with fail
    refine (trap_c 1 m _ base B2 mb nv h1.drew).mono ?_
    rintro e w2 ⟨hb2, rfl, h2⟩
    go_wp2_with fail
    exact ⟨rfl, hbA.drew.trans hb2, rfl, h2⟩
  · rw [if_neg hlt]
    go_wp2_with fail
    go_end0
    exact ⟨hbA.drew, rfl, h1.drew⟩
set_option maxRecDepth 100000 in
set_option maxHeartbeats 2000000 in
theorem some_c (o : SOp) (m : SM) (w : World) (base B2 mb nv : Nat) (h : MA w base B2 mb nv m) (ha0 : 0 ≤ o.a) (ha1 : o.a < nv) :
    Calls Tryz.prog 89 #[.pointer (some ⟨mb, 0, none⟩), o.val] w (OpPost w base B2 mb nv (if m.get o.a = 0 then trapS m 2 else .go m)) := by
  obtain ⟨w1, hw1, h1, hbA, BO, hBase⟩ := op_begin (o := o) h
  unfold SOp.val
  go_enter Tryz.func89, Tryz.ntmps89
  go_upto_region 1 with (fail)
  rw [← hw1]
  clear hw1
  obtain ⟨vv, hv, av, lv, tv, hbs, abs, hR, hM⟩ := h1.ex
  obtain ⟨g, c, rfl, hg0, hg1, hc, hf⟩ := hR.v_open h1.wf (by omega)
  have CO := BO.cell
  have CM := hM.cell
  have ca := hc o.a ha0 ha1
  go_region
  by_cases hlt : m.get o.a = 0
  · rw [if_pos hlt]
    go_wp2_with fail
    refine (trap_c 2 m _ base B2 mb nv h1.drew).mono ?_
    rintro e w2 ⟨hb2, rfl, h2⟩
    go_wp2_with fail
    exact ⟨rfl, hbA.drew.trans hb2, rfl, h2⟩
  · rw [if_neg hlt]
    go_wp2_with fail
    go_end0
    exact ⟨hbA.drew, rfl, h1.drew⟩
set_option maxRecDepth 100000 in
theorem seal_c (o : SOp) (m : SM) (w : World) (base B2 mb nv : Nat) (h : MA w base B2 mb nv m) :
    Calls Tryz.prog 94 #[.pointer (some ⟨mb, 0, none⟩), o.val] w (OpPost w base B2 mb nv (.go m)) := by
  unfold SOp.val
  go_enter Tryz.func94, Tryz.ntmps94
  go_wp2_with fail
  go_end0
  obtain ⟨w1, hw1, h1, hbA, BO, hBase⟩ := op_begin (o := o) h
  rw [← hw1]
  exact ⟨hbA, rfl, h1⟩
end Go.Proofs.YtoabiignjkcdmaaGreat

namespace Go.Proofs
open Go.Shelf
def Tryz.lays264_ren : Go.Shelf.Ren := ⟨fun | 264 => 139 | n => n, fun | 53 => 46 | 46 => 130 | n => n, fun | n => n⟩
theorem Tryz.lays264 : Go.Proofs.Lays.n264 Tryz.prog Tryz.lays264_ren := {
  mixed := by kernel_rfl
  f264 := Tryz.func139.trans (congrArg some (by kernel_rfl))
  t46 := Tryz.underlying130
  a46 := Tryz.isAgg130
  z46 := Tryz.sizeOf130
  v46 := Tryz.zeroValue130
  t53 := Tryz.underlying46
  a53 := Tryz.isAgg46
  z53 := Tryz.sizeOf46
  v53 := Tryz.zeroValue46 }
open Go.RowKit Go.Lib in
theorem Tryz.bits_Mul64 (x y : Nat) (hx : x < 18446744073709551616) (hy : y < 18446744073709551616) (w : World) :
    Calls Tryz.prog 139 #[.int .u64 x, .int .u64 y] w fun e w' => e = .returned (.tuple #[.int .u64 ((x * y / 18446744073709551616 : Nat) : Int), .int .u64 ((x * y % 18446744073709551616 : Nat) : Int)]) ∧ w' = w := Any.bits_Mul64 Tryz.lays264 x y hx hy w
end Go.Proofs

namespace Go.Proofs.YtoabiignjkcdmaaGreat
open Go.RowKit
set_option linter.unusedVariables false
set_option linter.unusedSimpArgs false

theorem u64_wrap_range (n : Int) : 0 ≤ IntKind.u64.wrap n ∧ IntKind.u64.wrap n < 18446744073709551616 := by
  have := wrap_within .u64 n
  simp [IntKind.min, IntKind.max, IntKind.signed, IntKind.bits] at this
  omega
theorem u64_bits_range (op : BinOp) (a b : Int) : 0 ≤ bits op .u64 a b ∧ bits op .u64 a b < 18446744073709551616 := by
  have := bits_within op .u64 a b
  simp [IntKind.min, IntKind.max, IntKind.signed, IntKind.bits] at this
  omega
theorem div_pow_range {a : Int} (h0 : 0 ≤ a) (h1 : a < 18446744073709551616) (n : Nat) : 0 ≤ a / 2 ^ n ∧ a / 2 ^ n < 18446744073709551616 := by
  have hp : (0 : Int) < 2 ^ n := Int.pow_pos (by decide)
  exact ⟨Int.ediv_nonneg h0 (by omega), Int.lt_of_le_of_lt (Int.ediv_le_self _ h0) h1⟩
theorem aluP_range (fn a b : Int) (a0 : 0 ≤ a) (a1 : a < 18446744073709551616) (b0 : 0 ≤ b) (b1 : b < 18446744073709551616) : 0 ≤ aluP fn a b ∧ aluP fn a b < 18446744073709551616 := by
  unfold aluP
  by_cases e1 : fn = 1
  · rw [if_pos e1]; exact u64_wrap_range _
  rw [if_neg e1]
  by_cases e2 : fn = 2
  · rw [if_pos e2]; exact u64_wrap_range _
  rw [if_neg e2]
  by_cases e3 : fn = 3
  · rw [if_pos e3]; exact u64_wrap_range _
  rw [if_neg e3]
  by_cases e4 : fn = 4
  · rw [if_pos e4]; by_cases h : wrap64 a < wrap64 b
    · rw [if_pos h]; omega
    · rw [if_neg h]; omega
  rw [if_neg e4]
  by_cases e5 : fn = 5
  · rw [if_pos e5]; by_cases h : a < b
    · rw [if_pos h]; omega
    · rw [if_neg h]; omega
  rw [if_neg e5]
  by_cases e6 : fn = 6
  · rw [if_pos e6]; exact u64_bits_range _ _ _
  rw [if_neg e6]
  by_cases e7 : fn = 7
  · rw [if_pos e7]; exact div_pow_range a0 a1 _
  rw [if_neg e7]
  by_cases e8 : fn = 8
  · rw [if_pos e8]; exact u64_wrap_range _
  rw [if_neg e8]
  by_cases e9 : fn = 9
  · rw [if_pos e9]; exact u64_bits_range _ _ _
  rw [if_neg e9]
  by_cases e10 : fn = 10
  · rw [if_pos e10]; exact u64_bits_range _ _ _
  rw [if_neg e10]
  by_cases e11 : fn = 11
  · rw [if_pos e11]; exact u64_wrap_range _
  rw [if_neg e11]
  by_cases e12 : fn = 12
  · rw [if_pos e12]
    have : a.toNat * b.toNat / 18446744073709551616 < 18446744073709551616 := by
      refine Nat.div_lt_of_lt_mul ?_
      exact Nat.mul_lt_mul'' (by omega) (by omega)
    omega
  rw [if_neg e12]
  by_cases e13 : fn = 13
  · rw [if_pos e13]; by_cases h : b = 0
    · rw [if_pos h]; omega
    · rw [if_neg h]; exact ⟨Int.ediv_nonneg a0 b0, Int.lt_of_le_of_lt (Int.ediv_le_self _ a0) a1⟩
  rw [if_neg e13]
  by_cases e14 : fn = 14
  · rw [if_pos e14]; by_cases h : b = 0
    · rw [if_pos h]; omega
    · rw [if_neg h]
      have := Int.emod_nonneg a h
      have := Int.emod_lt_of_pos a (show 0 < b by omega)
      omega
  rw [if_neg e14]
  omega

abbrev aluTab : Array Value := #[.nilFunc, .func (.func 121) #[] #[], .func (.func 122) #[] #[], .func (.func 123) #[] #[], .func (.func 124) #[] #[], .func (.func 125) #[] #[], .func (.func 127) #[] #[], .func (.func 128) #[] #[], .func (.func 129) #[] #[], .func (.func 130) #[] #[], .func (.func 131) #[] #[], .func (.func 132) #[] #[], .func (.func 133) #[] #[], .func (.func 134) #[] #[], .func (.func 135) #[] #[]]
set_option maxRecDepth 100000 in
set_option maxHeartbeats 1000000 in
theorem table_c (w : World) : Calls Tryz.prog 108 #[] w fun e w' => e = .returned (.agg aluTab) ∧ Below w.heap.size w w' := by
  go_enter Tryz.func108, Tryz.ntmps108
  go_wp2_with (first
    | (with_reducible refine wpList_store_new rfl _ _ _ rfl (Array.replicate 15 .nilFunc) aluTab w rfl rfl (by kernel_rfl) (by kernel_rfl) (by kernel_rfl) rfl ?_))
  refine bodyPost_ret (v := .agg aluTab) ?_ rfl ⟨rfl, (Below.refl _ _).alloc (Nat.le_refl _) _⟩
  exact results_cell_row rfl _ _ w.heap.size 156 _ (0, 0) (.array 15 155) rfl (heap_alloc_last _ _) (by kernel_rfl) rfl (by kernel_rfl)
set_option maxRecDepth 100000 in
theorem alu1_c (a b : Int) (a0 : 0 ≤ a) (a1 : a < 18446744073709551616) (b0 : 0 ≤ b) (b1 : b < 18446744073709551616) (w : World) : Calls Tryz.prog 121 #[.int .u64 a, .int .u64 b] w fun e w' => e = .returned (.int .u64 (aluP 1 a b)) ∧ w' = w := by
  go_enter Tryz.func121, Tryz.ntmps121
  go_wp2
  go_ret
  exact ⟨rfl, rfl⟩
set_option maxRecDepth 100000 in
theorem alu2_c (a b : Int) (a0 : 0 ≤ a) (a1 : a < 18446744073709551616) (b0 : 0 ≤ b) (b1 : b < 18446744073709551616) (w : World) : Calls Tryz.prog 122 #[.int .u64 a, .int .u64 b] w fun e w' => e = .returned (.int .u64 (aluP 2 a b)) ∧ w' = w := by
  go_enter Tryz.func122, Tryz.ntmps122
  go_wp2
  go_ret
  exact ⟨rfl, rfl⟩
set_option maxRecDepth 100000 in
theorem alu3_c (a b : Int) (a0 : 0 ≤ a) (a1 : a < 18446744073709551616) (b0 : 0 ≤ b) (b1 : b < 18446744073709551616) (w : World) : Calls Tryz.prog 123 #[.int .u64 a, .int .u64 b] w fun e w' => e = .returned (.int .u64 (aluP 3 a b)) ∧ w' = w := by
  go_enter Tryz.func123, Tryz.ntmps123
  go_wp2
  go_ret
  exact ⟨rfl, rfl⟩
set_option maxRecDepth 100000 in
theorem alu4_c (a b : Int) (a0 : 0 ≤ a) (a1 : a < 18446744073709551616) (b0 : 0 ≤ b) (b1 : b < 18446744073709551616) (w : World) : Calls Tryz.prog 124 #[.int .u64 a, .int .u64 b] w fun e w' => e = .returned (.int .u64 (aluP 4 a b)) ∧ w' = w := by
  by_cases hb : wrap64 a < wrap64 b
  · have e : aluP 4 a b = 1 := by unfold aluP; simp [hb]
    rw [e]
    go_enter Tryz.func124, Tryz.ntmps124
    go_wp2
    go_ret
    exact ⟨rfl, rfl⟩
  · have e : aluP 4 a b = 0 := by unfold aluP; simp [hb]
    rw [e]
    go_enter Tryz.func124, Tryz.ntmps124
    go_wp2
    go_ret
    exact ⟨rfl, rfl⟩
set_option maxRecDepth 100000 in
theorem alu5_c (a b : Int) (a0 : 0 ≤ a) (a1 : a < 18446744073709551616) (b0 : 0 ≤ b) (b1 : b < 18446744073709551616) (w : World) : Calls Tryz.prog 125 #[.int .u64 a, .int .u64 b] w fun e w' => e = .returned (.int .u64 (aluP 5 a b)) ∧ w' = w := by
  by_cases hb : a < b
  · have e : aluP 5 a b = 1 := by unfold aluP; simp [hb]
    rw [e]
    go_enter Tryz.func125, Tryz.ntmps125
    go_wp2
    go_ret
    exact ⟨rfl, rfl⟩
  · have e : aluP 5 a b = 0 := by unfold aluP; simp [hb]
    rw [e]
    go_enter Tryz.func125, Tryz.ntmps125
    go_wp2
    go_ret
    exact ⟨rfl, rfl⟩
set_option maxRecDepth 100000 in
theorem alu6_c (a b : Int) (a0 : 0 ≤ a) (a1 : a < 18446744073709551616) (b0 : 0 ≤ b) (b1 : b < 18446744073709551616) (w : World) : Calls Tryz.prog 127 #[.int .u64 a, .int .u64 b] w fun e w' => e = .returned (.int .u64 (aluP 6 a b)) ∧ w' = w := by
  go_enter Tryz.func127, Tryz.ntmps127
  go_wp2
  go_ret
  exact ⟨rfl, rfl⟩
set_option maxRecDepth 100000 in
theorem alu7_c (a b : Int) (a0 : 0 ≤ a) (a1 : a < 18446744073709551616) (b0 : 0 ≤ b) (b1 : b < 18446744073709551616) (w : World) : Calls Tryz.prog 128 #[.int .u64 a, .int .u64 b] w fun e w' => e = .returned (.int .u64 (aluP 7 a b)) ∧ w' = w := by
  go_enter Tryz.func128, Tryz.ntmps128
  go_wp2
  go_ret
  exact ⟨rfl, rfl⟩
set_option maxRecDepth 100000 in
theorem alu8_c (a b : Int) (a0 : 0 ≤ a) (a1 : a < 18446744073709551616) (b0 : 0 ≤ b) (b1 : b < 18446744073709551616) (w : World) : Calls Tryz.prog 129 #[.int .u64 a, .int .u64 b] w fun e w' => e = .returned (.int .u64 (aluP 8 a b)) ∧ w' = w := by
  go_enter Tryz.func129, Tryz.ntmps129
  go_wp2
  go_ret
  exact ⟨rfl, rfl⟩
set_option maxRecDepth 100000 in
theorem alu9_c (a b : Int) (a0 : 0 ≤ a) (a1 : a < 18446744073709551616) (b0 : 0 ≤ b) (b1 : b < 18446744073709551616) (w : World) : Calls Tryz.prog 130 #[.int .u64 a, .int .u64 b] w fun e w' => e = .returned (.int .u64 (aluP 9 a b)) ∧ w' = w := by
  go_enter Tryz.func130, Tryz.ntmps130
  go_wp2
  go_ret
  exact ⟨rfl, rfl⟩
set_option maxRecDepth 100000 in
theorem alu10_c (a b : Int) (a0 : 0 ≤ a) (a1 : a < 18446744073709551616) (b0 : 0 ≤ b) (b1 : b < 18446744073709551616) (w : World) : Calls Tryz.prog 131 #[.int .u64 a, .int .u64 b] w fun e w' => e = .returned (.int .u64 (aluP 10 a b)) ∧ w' = w := by
  go_enter Tryz.func131, Tryz.ntmps131
  go_wp2
  go_ret
  exact ⟨rfl, rfl⟩
set_option maxRecDepth 100000 in
theorem alu11_c (a b : Int) (a0 : 0 ≤ a) (a1 : a < 18446744073709551616) (b0 : 0 ≤ b) (b1 : b < 18446744073709551616) (w : World) : Calls Tryz.prog 132 #[.int .u64 a, .int .u64 b] w fun e w' => e = .returned (.int .u64 (aluP 11 a b)) ∧ w' = w := by
  go_enter Tryz.func132, Tryz.ntmps132
  go_wp2
  go_ret
  exact ⟨rfl, rfl⟩
set_option maxRecDepth 100000 in
theorem alu12_c (a b : Int) (a0 : 0 ≤ a) (a1 : a < 18446744073709551616) (b0 : 0 ≤ b) (b1 : b < 18446744073709551616) (w : World) : Calls Tryz.prog 133 #[.int .u64 a, .int .u64 b] w fun e w' => e = .returned (.int .u64 (aluP 12 a b)) ∧ w' = w := by
  have hM := Tryz.bits_Mul64 a.toNat b.toNat (by omega) (by omega) w
  rw [Int.toNat_of_nonneg a0, Int.toNat_of_nonneg b0] at hM
  have HM := Lib.hid hM
  clear hM
  go_enter Tryz.func133, Tryz.ntmps133
  go_wp2_with fail
  refine HM.out.mono ?_
  rintro e w' ⟨rfl, rfl⟩
  go_wp2_with fail
  go_ret
  refine ⟨ret_int ?_, rfl⟩
  unfold aluP
  simp [Int.max_eq_left a0, Int.max_eq_left b0]
set_option maxRecDepth 100000 in
theorem alu13_c (a b : Int) (a0 : 0 ≤ a) (a1 : a < 18446744073709551616) (b0 : 0 ≤ b) (b1 : b < 18446744073709551616) (w : World) : Calls Tryz.prog 134 #[.int .u64 a, .int .u64 b] w fun e w' => e = .returned (.int .u64 (aluP 13 a b)) ∧ w' = w := by
  by_cases hb : b = 0
  · subst hb
    go_enter Tryz.func134, Tryz.ntmps134
    go_wp2
    go_ret
    exact ⟨rfl, rfl⟩
  · have e : aluP 13 a b = a / b := by unfold aluP; simp [hb]
    rw [e]
    go_enter Tryz.func134, Tryz.ntmps134
    go_wp2
    go_ret
    exact ⟨rfl, rfl⟩
set_option maxRecDepth 100000 in
theorem alu14_c (a b : Int) (a0 : 0 ≤ a) (a1 : a < 18446744073709551616) (b0 : 0 ≤ b) (b1 : b < 18446744073709551616) (w : World) : Calls Tryz.prog 135 #[.int .u64 a, .int .u64 b] w fun e w' => e = .returned (.int .u64 (aluP 14 a b)) ∧ w' = w := by
  by_cases hb : b = 0
  · subst hb
    go_enter Tryz.func135, Tryz.ntmps135
    go_wp2
    go_ret
    exact ⟨rfl, rfl⟩
  · have e : aluP 14 a b = a % b := by unfold aluP; simp [hb]
    rw [e]
    go_enter Tryz.func135, Tryz.ntmps135
    go_wp2
    go_ret
    exact ⟨rfl, rfl⟩
/-- A call of this function is entered. -/
def Enters (f : FuncId) : Prop := ∀ (args : Array Value) (w : World), (callFunc f args).run Tryz.prog w = .ok (.enter f args) w
theorem enters_of {f : FuncId} {fn : Func} {c : Code} (hf : Tryz.prog.funcs[f]? = some fn) (hname : (fn.name == "runtime.NumGoroutine") = false) (hb : fn.body = some c) : Enters f := by
  intro args w
  have h1 : fn.name ≠ "runtime.NumGoroutine" := by simpa using hname
  simp [callFunc, hf, h1, hb]
set_option maxRecDepth 100000 in
set_option maxHeartbeats 4000000 in
theorem wordOp_c (fn a b : Int) (f0 : 1 ≤ fn) (f1 : fn ≤ 14) (a0 : 0 ≤ a) (a1 : a < 18446744073709551616) (b0 : 0 ≤ b) (b1 : b < 18446744073709551616) (w : World) :
    Calls Tryz.prog 75 #[.int .u8 fn, .int .u64 a, .int .u64 b] w fun e w' => e = .returned (.tuple #[.int .u64 (aluP fn a b), .int .i64 0]) ∧ Below w.heap.size w w' := by
  go_enter Tryz.func75, Tryz.ntmps75
  go_wp2_with fail
  refine (table_c w).mono ?_
  rintro e w1 ⟨rfl, hb1⟩
  have hb2 := hb1.alloc hb1.size (.cells aluTab 156)
  go_upto_region 2 with (first
    | (with_reducible refine wpList_store_new rfl _ _ _ rfl (Array.replicate 15 .nilFunc) aluTab w1 rfl rfl (by kernel_rfl) (by kernel_rfl) (by kernel_rfl) rfl ?_))
  have B2 := Bk.new w1 aluTab 156
  obtain ⟨W, hW⟩ : ∃ W, W = w1.alloc (.cells aluTab 156) := ⟨_, rfl⟩
  rw [← hW] at hb2 B2 ⊢
  clear hW
  have C2 := B2.cell
  have h14 : fn = 1 ∨ fn = 2 ∨ fn = 3 ∨ fn = 4 ∨ fn = 5 ∨ fn = 6 ∨ fn = 7 ∨ fn = 8 ∨ fn = 9 ∨ fn = 10 ∨ fn = 11 ∨ fn = 12 ∨ fn = 13 ∨ fn = 14 := by omega
  obtain ⟨gf, ck, hEn, HC⟩ : ∃ gf : Nat, W.cell? ⟨w1.heap.size, fn.toNat, none⟩ = some (.func (.func gf) #[] #[]) ∧ Enters gf ∧ Calls Tryz.prog gf #[.int .u64 a, .int .u64 b] W (fun e w' => e = .returned (.int .u64 (aluP fn a b)) ∧ w' = W) := by
    rcases h14 with rfl | rfl | rfl | rfl | rfl | rfl | rfl | rfl | rfl | rfl | rfl | rfl | rfl | rfl
    · exact ⟨_, C2 1, enters_of Tryz.func121 (by kernel_rfl) rfl, alu1_c a b a0 a1 b0 b1 W⟩
    · exact ⟨_, C2 2, enters_of Tryz.func122 (by kernel_rfl) rfl, alu2_c a b a0 a1 b0 b1 W⟩
    · exact ⟨_, C2 3, enters_of Tryz.func123 (by kernel_rfl) rfl, alu3_c a b a0 a1 b0 b1 W⟩
    · exact ⟨_, C2 4, enters_of Tryz.func124 (by kernel_rfl) rfl, alu4_c a b a0 a1 b0 b1 W⟩
    · exact ⟨_, C2 5, enters_of Tryz.func125 (by kernel_rfl) rfl, alu5_c a b a0 a1 b0 b1 W⟩
    · exact ⟨_, C2 6, enters_of Tryz.func127 (by kernel_rfl) rfl, alu6_c a b a0 a1 b0 b1 W⟩
    · exact ⟨_, C2 7, enters_of Tryz.func128 (by kernel_rfl) rfl, alu7_c a b a0 a1 b0 b1 W⟩
    · exact ⟨_, C2 8, enters_of Tryz.func129 (by kernel_rfl) rfl, alu8_c a b a0 a1 b0 b1 W⟩
    · exact ⟨_, C2 9, enters_of Tryz.func130 (by kernel_rfl) rfl, alu9_c a b a0 a1 b0 b1 W⟩
    · exact ⟨_, C2 10, enters_of Tryz.func131 (by kernel_rfl) rfl, alu10_c a b a0 a1 b0 b1 W⟩
    · exact ⟨_, C2 11, enters_of Tryz.func132 (by kernel_rfl) rfl, alu11_c a b a0 a1 b0 b1 W⟩
    · exact ⟨_, C2 12, enters_of Tryz.func133 (by kernel_rfl) rfl, alu12_c a b a0 a1 b0 b1 W⟩
    · exact ⟨_, C2 13, enters_of Tryz.func134 (by kernel_rfl) rfl, alu13_c a b a0 a1 b0 b1 W⟩
    · exact ⟨_, C2 14, enters_of Tryz.func135 (by kernel_rfl) rfl, alu14_c a b a0 a1 b0 b1 W⟩
  have HG := Lib.hid HC
  clear HC C2 B2 h14
  have f15 : fn < 15 := by omega
  have hEn' : ∀ (args : Array Value) (w : World), (callFunc gf args).run Tryz.prog w = .ok (.enter gf args) w := hEn
  have ne : ∀ (g : Nat) (w : World), (binOp .eql 153 (.func (.func g) #[] #[]) .nilFunc).run Tryz.prog w = .ok (.bool false) w := fun _ _ => rfl
  have ng : ∀ (g : Nat) (x y : Operand) (w : World), (eqGuard .eql 153 x y (.func (.func g) #[] #[]) .nilFunc).run Tryz.prog w = .ok () w := fun _ _ _ _ => rfl
  have ff0 : 0 ≤ fn := by omega
  go_wp2_with fail
  refine HG.out.mono ?_
  rintro e w3 ⟨rfl, rfl⟩
  go_wp2_with fail
  go_ret2
  exact ⟨rfl, hb2⟩
theorem keep_set {w : World} {g i b j : Nat} {x v : Value} (hne : b ≠ g) (h : w.cell? ⟨b, j, none⟩ = some v) : (w.setCell ⟨g, i, none⟩ x).cell? ⟨b, j, none⟩ = some v :=
  (World.cell?_setCell_other w ⟨g, i, none⟩ ⟨b, j, none⟩ x (fun e => hne (by injection e with e; exact e.symm))).trans h
end Go.Proofs.YtoabiignjkcdmaaGreat
