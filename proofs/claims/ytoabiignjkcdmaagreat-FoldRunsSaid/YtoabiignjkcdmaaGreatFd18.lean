/-
  Lemmas (texts IrW4 RunG2), each proved without a condition beyond its own hypotheses.
-/
import Derived.Test.YtoabiignjkcdmaaGreatFd14
import Derived.Test.YtoabiignjkcdmaaGreatFd15
import Derived.Test.YtoabiignjkcdmaaGreatFd16
import Derived.Test.YtoabiignjkcdmaaGreatFd17
import Derived.Test.YtoabiignjkcdmaaGreatFd13
namespace Go.Proofs.YtoabiignjkcdmaaGreat
open Go.RowKit
set_option linter.unusedVariables false
set_option linter.unusedSimpArgs false

set_option maxRecDepth 100000 in
set_option maxHeartbeats 400000 in
theorem op_out (p : SIr) (k fn d a b imm : Int) (S P B : Option Addr) (c1 c2 c3 : Nat) (w : World) (h : k < 1 ∨ 13 < k) :
    Calls Tryz.prog 25 #[.agg #[.slice S p.sec.length c1, .slice P p.par.length c2, .slice B p.blk.length c3], .agg #[.int .u8 k, .int .u8 fn, .int .i64 d, .int .i64 a, .int .i64 b, .int .u64 imm]] w
      fun e w' => e = .returned (.bool (opS p ⟨k, fn, d, a, b, imm⟩)) ∧ Below w.heap.size w w' := by
  rcases h with h | h
  · go_enter Tryz.func25, Tryz.ntmps25
    go_wp2
    go_ret
    exact ⟨ret_bool (by simp [opS, h]), ((Below.refl _ _).alloc (Nat.le_refl _) _).alloc (by simp) _⟩
  · have h' : ¬ k < 1 := by omega
    go_enter Tryz.func25, Tryz.ntmps25
    go_wp2
    go_ret
    exact ⟨ret_bool (by simp [opS, h]), ((Below.refl _ _).alloc (Nat.le_refl _) _).alloc (by simp) _⟩

/-- ir.op, whatever the step. -/
theorem op_c (p : SIr) (o : SOp) (S P B : Option Addr) (c1 c2 c3 : Nat) (w : World) (hs : kBool.Row w S p.sec) :
    Calls Tryz.prog 25 #[.agg #[.slice S p.sec.length c1, .slice P p.par.length c2, .slice B p.blk.length c3], .agg #[.int .u8 o.k, .int .u8 o.fn, .int .i64 o.d, .int .i64 o.a, .int .i64 o.b, .int .u64 o.imm]] w
      fun e w' => e = .returned (.bool (opS p o)) ∧ Below w.heap.size w w' := by
  obtain ⟨k, fn, d, a, b, imm⟩ := o
  by_cases h : k < 1 ∨ 13 < k
  · exact op_out p k fn d a b imm S P B c1 c2 c3 w h
  by_cases h3 : k = 3
  · subst h3; exact op_c3 p fn d a b imm S P B c1 c2 c3 w hs
  by_cases h4 : k = 4
  · subst h4; exact op_c4 p fn d a b imm S P B c1 c2 c3 w hs
  by_cases h5 : k = 5
  · subst h5; exact op_c5 p fn d a b imm S P B c1 c2 c3 w hs
  exact op_co p k fn d a b imm S P B c1 c2 c3 w hs (by omega) (by omega) (by simp [h3]) (by simp [h4]) (by simp [h5]) (by simp [h3])

set_option maxHeartbeats 400000 in
theorem notOp_c (p : SIr) (o : SOp) {S P B : Option Addr} {c1 c2 c3 : Nat} (w : World) (pb : Nat) (hp : Bk w pb #[.slice S p.sec.length c1, .slice P p.par.length c2, .slice B p.blk.length c3] 26) (hs : kBool.Row w S p.sec) :
    Calls Tryz.prog 24 #[.agg #[.int .u8 o.k, .int .u8 o.fn, .int .i64 o.d, .int .i64 o.a, .int .i64 o.b, .int .u64 o.imm], .pointer (some ⟨pb, 0, none⟩)] w
      fun e w' => e = .returned (.bool (!opS p o)) ∧ Below w.heap.size w w' := by
  have C := hp.cell
  have hl := hp.lt
  have hbW : Below w.heap.size w (w.alloc (.cells #[.int .u8 o.k, .int .u8 o.fn, .int .i64 o.d, .int .i64 o.a, .int .i64 o.b, .int .u64 o.imm] 54)) := (Below.refl _ _).alloc (Nat.le_refl _) _
  go_enter Tryz.func24, Tryz.ntmps24
  go_wp2_with (go_at_call 25; refine (op_c p o S P B c1 c2 c3 _ (hs.mono hbW)).mono ?_; rintro e w1 ⟨rfl, hb⟩)
  go_ret
  exact ⟨rfl, bt hbW hb⟩

theorem kOp_at {w : World} {A : Option Addr} {xs : List SOp} (h : kOp.Row w A xs) (i : Nat) (hi : i < xs.length) : ∃ b o, A = some ⟨b, o, none⟩ ∧
    w.cell? ⟨b, o + i * 6, none⟩ = some (.int .u8 xs[i].k) ∧ w.cell? ⟨b, o + i * 6 + 1, none⟩ = some (.int .u8 xs[i].fn) ∧ w.cell? ⟨b, o + i * 6 + 2, none⟩ = some (.int .i64 xs[i].d) ∧
    w.cell? ⟨b, o + i * 6 + 3, none⟩ = some (.int .i64 xs[i].a) ∧ w.cell? ⟨b, o + i * 6 + 4, none⟩ = some (.int .i64 xs[i].b) ∧ w.cell? ⟨b, o + i * 6 + 5, none⟩ = some (.int .u64 xs[i].imm) := by
  obtain ⟨b, o, cs, e, h1, h2⟩ := h.at i hi
  obtain rfl : cs = xs[i].cells := h1
  exact ⟨b, o, e, h2 0 (by simp [SOp.cells]), h2 1 (by simp [SOp.cells]), h2 2 (by simp [SOp.cells]), h2 3 (by simp [SOp.cells]), h2 4 (by simp [SOp.cells]), h2 5 (by simp [SOp.cells])⟩

set_option maxHeartbeats 1000000 in
theorem indexOp_c (p : SIr) (ops : List SOp) {S P B O : Option Addr} {c1 c2 c3 c : Nat} (w : World) (pb : Nat) (hp : Bk w pb #[.slice S p.sec.length c1, .slice P p.par.length c2, .slice B p.blk.length c3] 26) (hs : kBool.Row w S p.sec)
    (ho : kOp.Row w O ops) (hm : ops.length ≤ maxLen) :
    Calls Tryz.prog 49 #[.slice O ops.length c, .func (.func 24) #[] #[.pointer (some ⟨pb, 0, none⟩)]] w
      fun e w' => (∃ r : Int, e = .returned (.int .i64 r) ∧ (0 ≤ r ↔ ops.all (opS p) = false)) ∧ Below w.heap.size w w' := by
  unfold maxLen at hm
  go_enter Tryz.func49, Tryz.ntmps49
  go_wp2_with fail
  go_loopw [8] (fun s wr => ∃ k : Nat, k ≤ ops.length ∧ s = .int .i64 k ∧ (∀ j (h : j < ops.length), j < k → opS p ops[j] = true) ∧ Below w.heap.size w wr) (fun s _ => ops.length - (intOf s).toNat)
  case atStart => exact ⟨0, Nat.zero_le _, rfl, fun j _ h => absurd h (by omega), Below.refl _ _⟩
  case round =>
    obtain ⟨k, hk, rfl, hall, hb⟩ := hrel
    by_cases hlt : k < ops.length
    · obtain ⟨ob, oo, rfl, g0, g1, g2, g3, g4, g5⟩ := kOp_at (ho.mono hb) k hlt
      have HA := Lib.hid hall; clear hall
      cases hop : opS p ops[k] with
      | true =>
        have HO := Lib.hid hop; clear hop
        go_wp2_with (go_at_call 24; refine (notOp_c p ops[k] _ pb (hp.mono hb) (hs.mono hb)).mono ?_; rintro e w1 ⟨rfl, hb1⟩; rw [HO.out])
        go_roundw
        case rel => exact ⟨k + 1, by omega, by go_num, fun j h hj => by
          by_cases e : j = k
          · subst e; exact HO.out
          · exact HA.out j h (by omega), bt hb hb1⟩
        case measure => simp [intOf]; omega
      | false =>
        have HO := Lib.hid hop; clear hop
        go_wp2_with (go_at_call 24; refine (notOp_c p ops[k] _ pb (hp.mono hb) (hs.mono hb)).mono ?_; rintro e w1 ⟨rfl, hb1⟩; rw [HO.out])
        go_ret
        refine ⟨⟨k, rfl, fun _ => ?_, fun _ => by omega⟩, bt hb hb1⟩
        rw [List.all_eq_false]
        exact ⟨ops[k], List.getElem_mem hlt, by simp [HO.out]⟩
    · go_wp2_with fail
      go_ret
      refine ⟨⟨-1, rfl, fun h => by omega, fun h => ?_⟩, hb⟩
      rw [List.all_eq_false] at h
      obtain ⟨o, ho, hf⟩ := h
      obtain ⟨j, hj, rfl⟩ := List.getElem_of_mem ho
      exact absurd (hall j hj (by omega)) hf

set_option maxHeartbeats 400000 in
theorem containsOp_c (p : SIr) (ops : List SOp) {S P B O : Option Addr} {c1 c2 c3 c : Nat} (w : World) (pb : Nat) (hp : Bk w pb #[.slice S p.sec.length c1, .slice P p.par.length c2, .slice B p.blk.length c3] 26) (hs : kBool.Row w S p.sec)
    (ho : kOp.Row w O ops) (hm : ops.length ≤ maxLen) :
    Calls Tryz.prog 23 #[.slice O ops.length c, .func (.func 24) #[] #[.pointer (some ⟨pb, 0, none⟩)]] w
      fun e w' => e = .returned (.bool (!ops.all (opS p))) ∧ Below w.heap.size w w' := by
  go_enter Tryz.func23, Tryz.ntmps23
  go_wp2_with (go_at_call 49; refine (indexOp_c p ops _ pb hp hs ho hm).mono ?_; rintro e w1 ⟨⟨r, rfl, hr⟩, hb⟩; have HR := Lib.hid hr; clear hr)
  go_ret
  refine ⟨ret_bool ?_, hb⟩
  have := HR.out
  cases h : ops.all (opS p) <;> simp [h] at this ⊢ <;> omega

end Go.Proofs.YtoabiignjkcdmaaGreat

namespace Go.Proofs.YtoabiignjkcdmaaGreat
open Go.RowKit Go.MapKept
set_option linter.unusedVariables false
set_option linter.unusedSimpArgs false

theorem Bk.fr {base n : Nat} {w w' : World} {cs : Array Value} {t : TypeId} (h : Bk w n cs t) (hf : Fr base w w') (ht : foreign (.cells cs t (0, 0)) = true) : Bk w' n cs t := hf.k n _ h ht
theorem Ob.fr {base n : Nat} {w w' : World} {o : Obj} (h : Ob w n o) (hf : Fr base w w') (ht : foreign o = true) : Ob w' n o := hf.k n _ h ht
/-- What a checked block's end keeps to. -/
structure EndOk (n nv : Nat) (b : SBlock) : Prop where
  e : b.e = 1 ∨ b.e = 2 ∨ b.e = 3 ∨ b.e = 4
  go : b.e = 1 ∨ b.e = 2 → 0 ≤ b.go ∧ b.go < n
  els : b.e = 2 → 0 ≤ b.els ∧ b.els < n
  a : b.e = 2 → 0 ≤ b.a ∧ b.a < nv
  h : b.e = 3 → b.a = -1 ∨ 0 ≤ b.a ∧ b.a < nv
theorem goes_step (p : SIr) (n : Nat) (i : Nat) (hi : i < p.blk.length) (m : SM) : goesS p (n + 1) (i : Int) m = match (opsS p.blk[i].ops m).bind fun m => payS m 1 with
    | .over e m => (e, m)
    | .go m => match endM p.blk[i] m with
      | .inl a2 => goesS p n a2 m
      | .inr r => r := by
  have e : p.blk.getD (i : Int).toNat blockZ = p.blk[i] := by simp [List.getD_eq_getElem?_getD, hi]
  rw [← e]
  rfl
theorem run_lookup8 {P : Program} {t k e : TypeId} (ht : P.underlying t = some (.map k e)) (hk : P.underlying k = some (.int .u8)) {w : World} {b clk : Nat} {es : Array MapEntry} {key : Int} {i : Nat} {v : Value}
    (hb : Ob w b (.map es clk)) (hf : Instr.findNow (.int .u8) (.int .u8 key) es.toList 0 = some (some (i, v))) : (Instr.lookup t (.map (some b)) (.int .u8 key) false).run P w = .ok v w := by
  unfold Instr.lookup
  simp only [Sem.run_bind, Sem.run_pure, run_underlying ht, Result.andThen, run_getObj_ob hb (by simp), run_checkKey hk (k := .int .u8 key) rfl, run_findKey hk hf]
  rfl
theorem pay_eq {m m' : SM} {n : Int} (h : payS m n = .go m') : m' = { m with steps := m.steps + n } := by
  unfold payS at h
  split at h
  · cases h
  · cases h; rfl
/-- What follows a block's steps. -/
def afterS (p : SIr) (n : Nat) (bk : SBlock) (r : Res) : Int × SM := match r with
  | .over e m => (e, m)
  | .go m => match endM bk m with
    | .inl a2 => goesS p n a2 m
    | .inr r => r
theorem after_1 (p : SIr) (n : Nat) {bk : SBlock} (m : SM) (h : bk.e = 1) : afterS p n bk (.go m) = goesS p n bk.go m := by
  have e : endM bk m = .inl bk.go := by unfold endM; rw [if_pos h]
  unfold afterS
  simp only [e]
theorem after_2t (p : SIr) (n : Nat) {bk : SBlock} (m : SM) (h : bk.e = 2) (hz : m.get bk.a = 0) : afterS p n bk (.go m) = goesS p n bk.els m := by
  have e : endM bk m = .inl bk.els := by unfold endM; rw [if_neg (by omega), if_pos h, if_pos hz]
  unfold afterS
  simp only [e]
theorem after_2f (p : SIr) (n : Nat) {bk : SBlock} (m : SM) (h : bk.e = 2) (hz : ¬ m.get bk.a = 0) : afterS p n bk (.go m) = goesS p n bk.go m := by
  have e : endM bk m = .inl bk.go := by unfold endM; rw [if_neg (by omega), if_pos h, if_neg hz]
  unfold afterS
  simp only [e]
theorem after_3 (p : SIr) (n : Nat) {bk : SBlock} (m : SM) (h : bk.e = 3) : afterS p n bk (.go m) = (0, { m with en := 3, ret := if 0 ≤ bk.a then m.get bk.a else m.ret }) := by
  have e : endM bk m = .inr (0, { m with en := 3, ret := if 0 ≤ bk.a then m.get bk.a else m.ret }) := by unfold endM; rw [if_neg (by omega), if_neg (by omega), if_neg (by omega)]
  unfold afterS
  simp only [e]
theorem after_4 (p : SIr) (n : Nat) {bk : SBlock} (m : SM) (h : bk.e = 4) : afterS p n bk (.go m) = (0, { m with en := 4, trap := bk.go }) := by
  have e : endM bk m = .inr (0, { m with en := 4, trap := bk.go }) := by unfold endM; rw [if_neg (by omega), if_neg (by omega), if_pos h]
  unfold afterS
  simp only [e]
theorem goes_is {p : SIr} {N k i : Nat} {m m1 : SM} (hgo : goesS p N 0 m = goesS p (N - k) (i : Int) m1) (hk : k < N) (hi : i < p.blk.length) {bk : SBlock} (hb : bk = p.blk[i]) {r : Res} (h : (opsS bk.ops m1).bind (fun m => payS m 1) = r) :
    goesS p N 0 m = afterS p (N - (k + 1)) bk r := by
  rw [hgo, show N - k = (N - (k + 1)) + 1 by omega, goes_step p _ i hi, ← hb, ← h]
  rfl
theorem goes_over {p : SIr} {N k i : Nat} {m m1 : SM} (hgo : goesS p N 0 m = goesS p (N - k) (i : Int) m1) (hk : k < N) (hi : i < p.blk.length) {bk : SBlock} (hb : bk = p.blk[i]) {e : Int} {m' : SM} (h : opsS bk.ops m1 = .over e m') :
    goesS p N 0 m = (e, m') := goes_is hgo hk hi hb (r := .over e m') (by rw [h]; rfl)
theorem ops_at {l : List SOp} {j : Nat} (hj : j < l.length) {o : SOp} (ho : o = l[j]) (m : SM) : opsS (l.drop j) m = (stepS m o).bind (opsS (l.drop (j + 1))) := by
  rw [List.drop_eq_getElem_cons hj, ← ho]
  rfl
theorem step_over {m m' : SM} {o : SOp} {e : Int} (h : payS m (costS m o) = .over e m') : stepS m o = .over e m' := by unfold stepS; rw [h]; rfl
theorem step_go {m m' : SM} {o : SOp} (h : payS m (costS m o) = .go m') : stepS m o = opM m' o := by unfold stepS; rw [h]; rfl
theorem Fr.setNew {base q i : Nat} {w w1 : World} (h : Fr base w w1) (hq : w.heap.size ≤ q) (hb : base ≤ q) (v : Value) : Fr base w (w1.setCell ⟨q, i, none⟩ v) :=
  ⟨h.b.setCell (p := ⟨q, i, none⟩) hb v, fun n o hn hf => (heap_setCell_other w1 ⟨q, i, none⟩ n v (fun e => by
    have h1 := (Array.getElem?_eq_some_iff.1 hn).1
    have h2 : q = n := e.symm
    omega)).trans (h.k n o hn hf)⟩
/-- How goes ends. -/
def GoesPost (base B2 mb nv : Nat) (w : World) (r : Int × SM) (e : Ending) (w' : World) : Prop := Fr base w w' ∧ e = .returned (.int .i64 r.1) ∧ MA w' base B2 mb nv r.2
/-- Behind a panic: the closure takes the over up. -/
theorem goes_door_over {tm : Array Value} {q : Nat} {x : Int} {w : World} {R : Ending → World → Prop} (ht : tm[4]? = some (.pointer (some ⟨q, 0, none⟩))) (hq : Bk w q #[.int .i64 0] 30)
    (hR : R (.returned (.int .i64 x)) ((w.setCell ⟨q, 0, none⟩ (.int .i64 x)).alloc (.cells #[.int .i64 x] 121))) :
    Leaves Tryz.prog Tryz.f41 tm R [{ target := .fn (.func 67) #[.pointer (some ⟨q, 0, none⟩)], args := #[] }] (.panicking [{ v := overV x, recovered := false }]) w := by
  refine leaves_cons (f := 67) (args := #[.pointer (some ⟨q, 0, none⟩)]) (by simp) (by simp [go_sem]) ?_
  refine (goes1_over q x w (.int .i64 0) (hq.cell 0) (hq.free 0)).mono ?_
  rintro e u' w' ⟨rfl, rfl, rfl⟩
  have c := ((hq.set 0 (.int .i64 x)).alloc (.cells #[.int .i64 x] 121)).cell 0
  have ht' : tm.getD 4 undef = .pointer (some ⟨q, 0, none⟩) := by simp [Array.getD_eq_getD_getElem?, ht]
  refine ⟨_, ?_, hR⟩
  simp [results, Tryz.results41, go_sem, ht, ht', c]
/-- Behind a return. -/
theorem goes_door_ret {tm : Array Value} {q : Nat} {x : Int} {w : World} {R : Ending → World → Prop} (ht : tm[4]? = some (.pointer (some ⟨q, 0, none⟩))) (hq : Bk w q #[.int .i64 x] 30)
    (hR : R (.returned (.int .i64 x)) w) :
    Leaves Tryz.prog Tryz.f41 tm R [{ target := .fn (.func 67) #[.pointer (some ⟨q, 0, none⟩)], args := #[] }] .returning w := by
  refine leaves_cons (f := 67) (args := #[.pointer (some ⟨q, 0, none⟩)]) (by simp) (by simp [go_sem]) ?_
  refine (goes1_idle q w).mono ?_
  rintro e u' w' ⟨rfl, rfl, rfl⟩
  have c := hq.cell 0
  have ht' : tm.getD 4 undef = .pointer (some ⟨q, 0, none⟩) := by simp [Array.getD_eq_getD_getElem?, ht]
  refine ⟨_, ?_, hR⟩
  simp [results, Tryz.results41, go_sem, ht, ht', c]
theorem MA.errno {w : World} {base B2 mb nv q : Nat} {m : SM} (h : MA w base B2 mb nv m) (hq : Bk w q #[.int .i64 0] 30) (x : Int) : MA ((w.setCell ⟨q, 0, none⟩ (.int .i64 x)).alloc (.cells #[.int .i64 x] 121)) base B2 mb nv m ∧ MA (w.setCell ⟨q, 0, none⟩ (.int .i64 x)) base B2 mb nv m := by
  obtain ⟨vv, hv, av, lv, tv, hbs, abs, hR, hM⟩ := h.ex
  have hne : q ≠ mb := by
    rintro rfl
    have h1 : w.heap[q]? = _ := hM
    have h2 : w.heap[q]? = _ := hq
    rw [h1] at h2
    injection h2 with h2
    injection h2 with _ h2 _
    exact absurd h2 (by decide)
  have h2 : MA (w.setCell ⟨q, 0, none⟩ (.int .i64 x)) base B2 mb nv m :=
    ⟨⟨vv, hv, av, lv, tv, hbs, abs, hR.kept (set_grown w q 0 _) fun g e => by cases e; exact hR.other hq (by decide) (by decide) (by decide) (by decide), hM.other (a := ⟨q, 0, none⟩) (fun e => hne e.symm) _⟩, h.mb0, h.wf⟩
  exact ⟨h2.below ((Below.refl _ _).alloc (Nat.le_refl _) _), h2⟩
theorem drewN_below (w : World) (n : Nat) : Below w.heap.size w (w.drewN n) := ⟨rfl, rfl, rfl, Nat.le_refl _, fun _ _ => rfl⟩
theorem MA.put7 {w : World} {base B2 mb nv : Nat} {m : SM} (h : MA w base B2 mb nv m) (x : Int) : MA (w.setCell ⟨mb, 7, none⟩ (.int .u8 x)) base B2 mb nv { m with en := x } := by
  obtain ⟨vv, hv, av, lv, tv, hbs, abs, hR, hM⟩ := h.ex
  exact ⟨⟨_, _, _, _, _, _, _, (hR.mach hM 7 _).like rfl rfl rfl rfl rfl, hM.set 7 _⟩, h.mb0, { h.wf with }⟩
theorem MA.put9 {w : World} {base B2 mb nv : Nat} {m : SM} (h : MA w base B2 mb nv m) (x : Int) : MA (w.setCell ⟨mb, 9, none⟩ (.int .u64 x)) base B2 mb nv { m with ret := x } := by
  obtain ⟨vv, hv, av, lv, tv, hbs, abs, hR, hM⟩ := h.ex
  exact ⟨⟨_, _, _, _, _, _, _, (hR.mach hM 9 _).like rfl rfl rfl rfl rfl, hM.set 9 _⟩, h.mb0, { h.wf with }⟩
theorem MA.mown {w : World} {base B2 mb nv : Nat} {m : SM} (h : MA w base B2 mb nv m) : MOwn w mb := by
  obtain ⟨vv, hv, av, lv, tv, hbs, abs, hR, hM⟩ := h.ex
  exact hM.own
theorem MA.freeM {w : World} {base B2 mb nv : Nat} {m : SM} (h : MA w base B2 mb nv m) (j : Nat) : w.frozen? ⟨mb, j, none⟩ = false := by
  obtain ⟨vv, hv, av, lv, tv, hbs, abs, hR, hM⟩ := h.ex
  exact hM.free j
theorem MA.cell7 {w : World} {base B2 mb nv : Nat} {m : SM} (h : MA w base B2 mb nv m) : ∃ v, w.cell? ⟨mb, 7, none⟩ = some v := by
  obtain ⟨vv, hv, av, lv, tv, hbs, abs, hR, hM⟩ := h.ex
  exact ⟨_, hM.cell 7⟩
theorem MA.apart {w : World} {base B2 mb nv n : Nat} {m : SM} (h : MA w base B2 mb nv m) {cs : Array Value} {t : TypeId} (hb : Bk w n cs t) (ht : t ≠ 81) : n ≠ mb := by
  obtain ⟨vv, hv, av, lv, tv, hbs, abs, hR, hM⟩ := h.ex
  rintro rfl
  have h1 : w.heap[n]? = _ := hM
  have h2 : w.heap[n]? = _ := hb
  rw [h1] at h2
  injection h2 with h2
  injection h2 with _ h2 _
  exact ht h2.symm
theorem goesPost_ret {base B2 mb nv q : Nat} {m : SM} {w w' : World} {r : Int × SM} (hb : base ≤ w.heap.size) (hf : Fr base w w') (hq0 : w.heap.size ≤ q) (hq : Bk w' q #[.int .i64 0] 30) (h : MA w' base B2 mb nv m) (hr : r = (0, m)) :
    GoesPost base B2 mb nv w r (.returned (.int .i64 0)) (w'.setCell ⟨q, 0, none⟩ (.int .i64 0)) := by
  subst hr
  exact ⟨hf.setNew hq0 (by omega) _, rfl, (h.errno hq 0).2⟩
theorem MA.stepsCell {w : World} {base B2 mb nv : Nat} {m : SM} (h : MA w base B2 mb nv m) : w.cell? ⟨mb, 12, none⟩ = some (.int .i64 m.steps) := by
  obtain ⟨vv, hv, av, lv, tv, hbs, abs, hR, hM⟩ := h.ex
  exact hM.cell 12
theorem goesPost_over {base B2 mb nv q : Nat} {m : SM} {w w' : World} {x : Int} {r : Int × SM} (hb : base ≤ w.heap.size) (hf : Fr base w w') (hq0 : w.heap.size ≤ q) (hq : Bk w' q #[.int .i64 0] 30) (h : MA w' base B2 mb nv m) (hr : r = (x, m)) :
    GoesPost base B2 mb nv w r (.returned (.int .i64 x)) ((w'.setCell ⟨q, 0, none⟩ (.int .i64 x)).alloc (.cells #[.int .i64 x] 121)) := by
  subst hr
  exact ⟨(hf.setNew hq0 (by omega) _).of ((Below.refl _ _).alloc (Nat.le_refl _) _) (h.errno hq x).2.base, rfl, (h.errno hq x).1⟩
set_option maxRecDepth 100000 in
set_option maxHeartbeats 8000000 in
theorem goes_c (p : SIr) (N : Nat) (m : SM) (w0 w : World) (base B2 mb nv : Nat) (S P B : Option Addr) (c1 c2 c3 : Nat) (hB : kBlock.Row w0 B p.blk) (hbase : base = w0.heap.size) (h0 : Below base w0 w) (h : MA w base B2 mb nv m)
    (hpb : 0 < p.blk.length) (hop : ∀ b ∈ p.blk, ∀ o ∈ b.ops, OpOk nv o) (hen : ∀ b ∈ p.blk, EndOk p.blk.length nv b) (hN : m.fuel - m.steps < N) :
    Calls Tryz.prog 41 #[.pointer (some ⟨mb, 0, none⟩), .agg #[.slice S p.sec.length c1, .slice P p.par.length c2, .slice B p.blk.length c3]] w (GoesPost base B2 mb nv w (goesS p N 0 m)) := by
  obtain ⟨w1, hw1⟩ : ∃ w1, w1 = (w.alloc (.cells #[.slice S p.sec.length c1, .slice P p.par.length c2, .slice B p.blk.length c3] 26)).alloc (.cells #[.int .i64 0] 30) := ⟨_, rfl⟩
  have hb1 : Below w.heap.size w w1 := by rw [hw1]; exact ((Below.refl w.heap.size w).alloc (Nat.le_refl _) _).alloc (by simp) _
  have BP : Bk w1 w.heap.size #[.slice S p.sec.length c1, .slice P p.par.length c2, .slice B p.blk.length c3] 26 := by rw [hw1]; exact (Bk.new w _ _).alloc _
  have BE : Bk w1 (w.heap.size + 1) #[.int .i64 0] 30 := by rw [hw1]; exact Bk.newAt _ _ (by simp)
  have hmf : ∀ (fn : Fn) (first cap : Array Value) (w : World), (Instr.makeFunc fn first cap).run Tryz.prog w = .ok (.func fn first cap) w := fun _ _ _ _ => rfl
  go_enter_defers Tryz.func41, Tryz.ntmps41
  go_upto_region 2 with (fail)
  rw [← hw1]
  have s1 : w1.heap.size = w.heap.size + 2 := by rw [hw1]; simp
  clear hw1
  go_upto_region 3 with (go_at_call 68; refine (steps_c _).mono ?_; rintro e w2 ⟨rfl, hMap, hb2⟩)
  have hbw2 : Below w.heap.size w w2 := hb1.trans (hb2.mono hb1.size)
  rw [s1] at hMap hb2
  have BP2 := BP.mono (s1 ▸ hb2)
  have BE2 := BE.mono (s1 ▸ hb2)
  clear BP BE s1 hb2
  go_wp2_with fail
  have hbase2 := h.base
  go_loopw [6] (fun s wr => ∃ (k : Nat) (at' : Nat) (m1 : SM), s = .int .i64 at' ∧ at' < p.blk.length ∧ k ≤ N ∧ goesS p N 0 m = goesS p (N - k) at' m1 ∧ (k : Int) ≤ m1.steps - m.steps ∧ m1.fuel = m.fuel ∧ Fr base w wr ∧ MA wr base B2 mb nv m1 ∧ Ob wr (w.heap.size + 2) (.map stepEs 13) ∧ Bk wr w.heap.size #[.slice S p.sec.length c1, .slice P p.par.length c2, .slice B p.blk.length c3] 26 ∧ Bk wr (w.heap.size + 1) #[.int .i64 0] 30) (fun _ wr => (m.fuel - intOf ((wr.cell? ⟨mb, 12, none⟩).getD undef)).toNat)
  case atStart => exact ⟨0, 0, m, rfl, hpb, Nat.zero_le _, rfl, by omega, rfl, (Fr.refl base w).of hbw2 hbase2, h.below hbw2, hMap, BP2, BE2⟩
  case round =>
    obtain ⟨k, i, m1, rfl, hi, hk, hgo, hst, hfu, hfr, hMA, hMp, hBP, hBE⟩ := hrel
    clear BP2 BE2 hMap hbw2 hb1
    have HGO := Lib.hid hgo
    clear hgo
    have hwst := hMA.wf.st
    have HMS := Lib.hid hMA.stepsCell
    have hk1 : k < N := by omega
    obtain ⟨b, o, O, c, hBe, q0, q1, q2, q3, q4, hml, hOps⟩ := kBlock_at hB i hi
    have hEn := hen _ (List.getElem_mem hi)
    unfold maxLen at hml
    have hOp := hop _ (List.getElem_mem hi)
    obtain ⟨bk, hbk⟩ : ∃ bk, bk = p.blk[i] := ⟨_, rfl⟩
    have HBK := Lib.hid hbk
    rw [← hbk] at q0 q1 q2 q3 q4 hml hOps hEn hOp
    clear hbk
    subst hBe
    have hb0r : Below w0.heap.size w0 wr := hbase ▸ h0.trans hfr.b
    have CP := hBP.cell
    have q0 := cm q0 hb0r
    have q1 := cm q1 hb0r
    have q2 := cm q2 hb0r
    have q3 := cm q3 hb0r
    have q4 := cm q4 hb0r
    go_upto_region 5 with (fail)
    obtain ⟨Wb, hWb⟩ : ∃ Wb, Wb = wr.alloc (.cells #[.slice O bk.ops.length c, .int .u8 bk.e, .int .i64 bk.a, .int .i64 bk.go, .int .i64 bk.els] 38) := ⟨_, rfl⟩
    rw [← hWb]
    have BB : Bk Wb wr.heap.size #[.slice O bk.ops.length c, .int .u8 bk.e, .int .i64 bk.a, .int .i64 bk.go, .int .i64 bk.els] 38 := by rw [hWb]; exact Bk.new wr _ _
    have hbb : Below wr.heap.size wr Wb := by rw [hWb]; exact (Below.refl wr.heap.size wr).alloc (Nat.le_refl _) _
    clear hWb
    have hfrb : Fr base w Wb := hfr.of hbb hMA.base
    have hMAb := hMA.below hbb
    have hMpb := hMp.mono hbb
    have hBPb := hBP.mono hbb
    have hBEb := hBE.mono hbb
    clear hfr hMA hMp hBP hBE CP q0 q1 q2 q3 q4 hb0r
    have CB := BB.cell
    obtain ⟨bB, hbB⟩ : ∃ bB, bB = wr.heap.size := ⟨_, rfl⟩
    rw [← hbB] at BB CB ⊢
    clear hbb hbB
    go_wp2_with fail
    go_loopw [20] (fun s wi => ∃ (j : Nat) (mj : SM), s = .int .i64 j ∧ j ≤ bk.ops.length ∧ opsS bk.ops m1 = opsS (bk.ops.drop j) mj ∧ m1.steps ≤ mj.steps ∧ mj.fuel = m.fuel ∧ Fr base w wi ∧ MA wi base B2 mb nv mj ∧ Ob wi (w.heap.size + 2) (.map stepEs 13) ∧ Bk wi w.heap.size #[.slice S p.sec.length c1, .slice P p.par.length c2, .slice (some ⟨b, o, none⟩) p.blk.length c3] 26 ∧ Bk wi (w.heap.size + 1) #[.int .i64 0] 30 ∧ Bk wi bB #[.slice O bk.ops.length c, .int .u8 bk.e, .int .i64 bk.a, .int .i64 bk.go, .int .i64 bk.els] 38) (fun s _ => bk.ops.length - (intOf s).toNat)
    case atStart => exact ⟨0, m1, rfl, Nat.zero_le _, rfl, by omega, hfu, hfrb, hMAb, hMpb, hBPb, hBEb, BB⟩
    case round =>
      clear hfrb hMAb hMpb hBPb hBEb BB CB
      obtain ⟨j, mj, rfl, hj, hops, hst2, hfu2, hfr, hMA, hMp, hBP, hBE, hBB⟩ := hrel
      have HOPS := Lib.hid hops
      clear hops
      by_cases hlt : j < bk.ops.length
      · have hOpj := hOp _ (List.getElem_mem hlt)
        obtain ⟨op, hop'⟩ : ∃ op, op = bk.ops[j] := ⟨_, rfl⟩
        obtain ⟨ob, oo, rfl, g0, g1, g2, g3, g4, g5⟩ := kOp_at (hOps.mono (hbase ▸ h0.trans hfr.b)) j hlt
        have HOP := Lib.hid hop'
        rw [← hop'] at hOpj g0 g1 g2 g3 g4 g5
        clear hop'
        have CB := hBB.cell
        go_upto_region 8 with (fail)
        obtain ⟨Wo, hWo⟩ : ∃ Wo, Wo = wr.alloc (.cells (opA op) 54) := ⟨_, rfl⟩
        rw [← hWo]
        have BO : Bk Wo wr.heap.size (opA op) 54 := by rw [hWo]; exact Bk.new wr _ _
        have hbo : Below wr.heap.size wr Wo := by rw [hWo]; exact (Below.refl wr.heap.size wr).alloc (Nat.le_refl _) _
        clear hWo
        have hfro : Fr base w Wo := hfr.of hbo hMA.base
        have hMAo := hMA.below hbo
        have hMpo := hMp.mono hbo
        have hBPo := hBP.mono hbo
        have hBEo := hBE.mono hbo
        have hBBo := hBB.mono hbo
        clear hfr hMA hMp hBP hBE hBB CB g0 g1 g2 g3 g4 g5
        obtain ⟨bO, hbO⟩ : ∃ bO, bO = wr.heap.size := ⟨_, rfl⟩
        rw [← hbO] at BO ⊢
        clear hbo hbO
        have CO := BO.cell
        have hcr := costS_range mj op nv hMAo.wf (fun e => hOpj.a (by omega)) (fun e => hOpj.b (by omega))
        go_wp2_with fail
        refine (cost_c op mj _ base B2 mb nv hMAo (fun e => hOpj.a (by omega)) (fun e => hOpj.b (by omega))).mono ?_
        rintro e w3 ⟨rfl, hb3⟩
        have hfr3 := hfro.of hb3 hMAo.base
        have hMA3 := hMAo.below hb3
        have hMp3 := hMpo.mono hb3
        have hBP3 := hBPo.mono hb3
        have hBE3 := hBEo.mono hb3
        have hBB3 := hBBo.mono hb3
        have BO3 := BO.mono hb3
        have htm0 := hMAo.wf.tm
        have ham0 := hMAo.wf.am
        clear hfro hMAo hMpo hBPo hBEo hBBo BO CO hb3
        go_wp2_with fail
        refine (pay_c (costS mj op) hcr.1 hcr.2 mj _ base B2 mb nv hMA3).mono ?_
        rintro e w4 ⟨hfr4, hm4⟩
        have hfr5 := hfr3.trans hfr4
        have hMp5 := hMp3.fr hfr4 rfl
        have hBP5 := hBP3.fr hfr4 rfl
        have hBE5 := hBE3.fr hfr4 rfl
        have hBB5 := hBB3.fr hfr4 rfl
        have BO5 := BO3.fr hfr4 rfl
        clear hfr3 hMA3 hMp3 hBP3 hBE3 hBB3 BO3 hfr4
        cases hp : payS mj (costS mj op) with
        | over e' m' =>
          rw [hp] at hm4
          obtain ⟨rfl, hMA5⟩ := hm4
          have HP := Lib.hid hp
          clear hp
          go_wp2_with fail
          exact goes_door_over rfl hBE5 (goesPost_over hbase2 hfr5 (by omega) hBE5 hMA5 (goes_over HGO.out hk1 hi HBK.out (by rw [HOPS.out, ops_at hlt HOP.out, step_over HP.out]; rfl)))
        | go m' =>
          rw [hp] at hm4
          obtain ⟨rfl, hMA5⟩ := hm4
          have HP := Lib.hid hp
          clear hp
          have hstp := pay_steps hcr.1 HP.out
          have hfup := (pay_go HP.out).1
          have hMwf := hMA5.wf
          have hmq := pay_eq HP.out
          have htm : m'.told = mj.told := by rw [hmq]
          have ham : m'.arena = mj.arena := by rw [hmq]
          have CO := BO5.cell
          obtain ⟨gf, ie, hfind, hEnt, hcl⟩ := does_c op m' w4 base B2 mb nv hMA5 hOpj (by rw [htm]; omega) (by rw [ham]; omega)
          have HCL := Lib.hid hcl
          have hlk := run_lookup8 (P := Tryz.prog) Tryz.underlying122 Tryz.underlying5 hMp5 hfind
          have hEn' : ∀ (args : Array Value) (w : World), (callFunc gf args).run Tryz.prog w = .ok (.enter gf args) w := hEnt
          clear hcl hmq htm ham
          go_wp2_with fail
          refine HCL.out.mono ?_
          rintro e w6 ⟨hfr6, hm6⟩
          clear hlk hEn' hEnt hfind HCL CO
          have hfr7 := hfr5.trans hfr6
          have hMp7 := hMp5.fr hfr6 rfl
          have hBP7 := hBP5.fr hfr6 rfl
          have hBE7 := hBE5.fr hfr6 rfl
          have hBB7 := hBB5.fr hfr6 rfl
          clear hfr5 hMA5 hMp5 hBP5 hBE5 hBB5 BO5 hfr6
          cases ho : opM m' op with
          | over e' m2 =>
            rw [ho] at hm6
            obtain ⟨rfl, hMA7⟩ := hm6
            have HO := Lib.hid ho
            clear ho
            go_wp2_with fail
            exact goes_door_over rfl hBE7 (goesPost_over hbase2 hfr7 (by omega) hBE7 hMA7 (goes_over HGO.out hk1 hi HBK.out (by rw [HOPS.out, ops_at hlt HOP.out, step_go HP.out, HO.out]; rfl)))
          | go m2 =>
            rw [ho] at hm6
            obtain ⟨rfl, hMA7⟩ := hm6
            have HO := Lib.hid ho
            clear ho
            go_wp2_with fail
            go_roundw
            case rel => exact ⟨j + 1, m2, by go_num, by omega, by rw [HOPS.out, ops_at hlt HOP.out, step_go HP.out, HO.out]; rfl, by have := (opM_go HO.out).2.1; omega, by have := (opM_go HO.out).1; omega, hfr7, hMA7, hMp7, hBP7, hBE7, hBB7⟩
            case measure => simp [intOf]; omega
      · have hjl : j = bk.ops.length := by omega
        have hd : opsS bk.ops m1 = .go mj := by
          rw [HOPS.out, hjl, List.drop_length]
          rfl
        have HD := Lib.hid hd
        clear HOPS hd
        have CB := hBB.cell
        go_wp2_with fail
        refine (pay_c 1 (by decide) (by decide) mj _ base B2 mb nv hMA).mono ?_
        rintro e w4 ⟨hfr4, hm4⟩
        clear CB
        have hfr5 := hfr.trans hfr4
        have hMp5 := hMp.fr hfr4 rfl
        have hBP5 := hBP.fr hfr4 rfl
        have hBE5 := hBE.fr hfr4 rfl
        have hBB5 := hBB.fr hfr4 rfl
        clear hfr hMA hMp hBP hBE hBB hfr4
        cases hp : payS mj 1 with
        | over e' m' =>
          rw [hp] at hm4
          obtain ⟨rfl, hMA5⟩ := hm4
          have HP := Lib.hid hp
          clear hp
          go_wp2_with fail
          exact goes_door_over rfl hBE5 (goesPost_over hbase2 hfr5 (by omega) hBE5 hMA5 (goes_is HGO.out hk1 hi HBK.out (r := .over e' m') (by rw [HD.out]; exact HP.out)))
        | go m' =>
          rw [hp] at hm4
          obtain ⟨rfl, hMA5⟩ := hm4
          have HP := Lib.hid hp
          clear hp
          have hstp := pay_steps (by decide) HP.out
          have hfup := (pay_go HP.out).1
          have HG : Hid (goesS p N 0 m = afterS p (N - (k + 1)) bk (.go m')) := Lib.hid (goes_is HGO.out hk1 hi HBK.out (r := .go m') (by rw [HD.out]; exact HP.out))
          clear HP HD HGO
          have CB := hBB5.cell
          have hms5 := hMA5.stepsCell
          have HMS5 := Lib.hid hms5
          have hwst5 := hMA5.wf.st
          clear hms5
          rcases hEn.e with h4 | h4 | h4 | h4
          · have t1 : (bk.e == 1) = true := by rw [h4]; rfl
            obtain ⟨gg, hgg⟩ := Int.eq_ofNat_of_zero_le (hEn.go (.inl h4)).1
            have hg1 := (hEn.go (.inl h4)).2
            have HE : Hid (goesS p N 0 m = goesS p (N - (k + 1)) bk.go m') := Lib.hid (by rw [HG.out, after_1 p _ m' h4])
            have HGG := Lib.hid hgg
            clear h4 hgg
            go_wp2_with fail
            go_roundw
            case rel => exact ⟨k + 1, gg, m', by rw [HGG.out], by have := HGG.out; omega, by omega, by rw [HE.out, HGG.out], by omega, by omega, hfr5, hMA5, hMp5, hBP5, hBE5⟩
            case measure => rw [HMS.out, HMS5.out]; simp [intOf]; omega
          · have t1 : (bk.e == 1) = false := by rw [h4]; rfl
            have t2 : (bk.e == 2) = true := by rw [h4]; rfl
            obtain ⟨gg, hgg⟩ := Int.eq_ofNat_of_zero_le (hEn.go (.inr h4)).1
            have hg1 := (hEn.go (.inr h4)).2
            have HGG := Lib.hid hgg
            obtain ⟨ee, hee⟩ := Int.eq_ofNat_of_zero_le (hEn.els h4).1
            have he1 := (hEn.els h4).2
            have HEE := Lib.hid hee
            have ha := hEn.a h4
            clear hgg hee
            obtain ⟨vv, hv, av, lv, tv, hbs, abs, hR, hM⟩ := hMA5.ex
            obtain ⟨g, cc, rfl, hvg0, hvg1, hc, hf⟩ := hR.v_open hMA5.wf (by omega)
            have c0 : w4.cell? ⟨mb, 0, none⟩ = some (.slice (some ⟨g, 0, none⟩) nv cc) := hM.cell 0
            have ca := hc bk.a ha.1 ha.2
            clear hc hf hM hR
            have h42 := Lib.hid h4
            clear h4
            by_cases hz : m'.get bk.a = 0
            · have HE : Hid (goesS p N 0 m = goesS p (N - (k + 1)) bk.els m') := Lib.hid (by rw [HG.out, after_2t p _ m' h42.out hz])
              have tz : (m'.get bk.a == 0) = true := by rw [hz]; rfl
              have tz' : (m'.get bk.a != 0) = false := by rw [hz]; rfl
              clear hz
              go_wp2_with fail
              go_quiet (fail)
              go_wp2_with fail
              go_roundw
              case rel => exact ⟨k + 1, ee, m', by rw [HEE.out], by have := HEE.out; omega, by omega, by rw [HE.out, HEE.out], by omega, by omega, hfr5.of (drewN_below _ _) hMA5.base, hMA5.below (drewN_below _ _), hMp5.mono (drewN_below _ _), hBP5.mono (drewN_below _ _), hBE5.mono (drewN_below _ _)⟩
              case measure => rw [HMS.out, (hMA5.below (drewN_below _ _)).stepsCell]; simp [intOf]; omega
            · have HE : Hid (goesS p N 0 m = goesS p (N - (k + 1)) bk.go m') := Lib.hid (by rw [HG.out, after_2f p _ m' h42.out hz])
              have tz : (m'.get bk.a == 0) = false := by simpa using hz
              have tz' : (m'.get bk.a != 0) = true := by simpa using hz
              clear hz
              go_wp2_with fail
              go_quiet (fail)
              go_wp2_with fail
              go_roundw
              case rel => exact ⟨k + 1, gg, m', by rw [HGG.out], by have := HGG.out; omega, by omega, by rw [HE.out, HGG.out], by omega, by omega, hfr5.of (drewN_below _ _) hMA5.base, hMA5.below (drewN_below _ _), hMp5.mono (drewN_below _ _), hBP5.mono (drewN_below _ _), hBE5.mono (drewN_below _ _)⟩
              case measure => rw [HMS.out, (hMA5.below (drewN_below _ _)).stepsCell]; simp [intOf]; omega
          · have t1 : (bk.e == 1) = false := by rw [h4]; rfl
            have t2 : (bk.e == 2) = false := by rw [h4]; rfl
            have t4 : (bk.e == 4) = false := by rw [h4]; rfl
            have HE : Hid (goesS p N 0 m = (0, { m' with en := 3, ret := if 0 ≤ bk.a then m'.get bk.a else m'.ret })) := Lib.hid (by rw [HG.out, after_3 p _ m' h4])
            have hah := hEn.h h4
            clear h4
            have f7 : w4.frozen? ⟨mb, 7, none⟩ = false := hMA5.freeM 7
            obtain ⟨v7, c7⟩ := hMA5.cell7
            clear HG
            go_upto_region 14 with (fail)
            obtain ⟨W5, hW5⟩ : ∃ W5, W5 = w4.setCell ⟨mb, 7, none⟩ (.int .u8 3) := ⟨_, rfl⟩
            rw [← hW5]
            have hMA6 : MA W5 base B2 mb nv { m' with en := 3 } := by rw [hW5]; exact hMA5.put7 3
            have hfr6 : Fr base w W5 := by rw [hW5]; exact hfr5.setCell hMA5.mb0 hMA5.mown _
            have hBB6 : Bk W5 bB #[.slice O bk.ops.length c, .int .u8 bk.e, .int .i64 bk.a, .int .i64 bk.go, .int .i64 bk.els] 38 := by rw [hW5]; exact hBB5.other (hMA5.apart hBB5 (by decide)) _
            have hBE6 : Bk W5 (w.heap.size + 1) #[.int .i64 0] 30 := by rw [hW5]; exact hBE5.other (hMA5.apart hBE5 (by decide)) _
            clear CB f7 c7 hW5 hMA5 hfr5 hBB5 hBP5 hMp5 hBE5
            have CB := hBB6.cell
            have CE : W5.cell? ⟨w.heap.size + 1, 0, none⟩ = some (.int .i64 0) := hBE6.cell 0
            have FE : W5.frozen? ⟨w.heap.size + 1, 0, none⟩ = false := hBE6.free 0
            rcases hah with ham | ha
            · have t5 : bk.a < 0 := by omega
              have hE2 : goesS p N 0 m = (0, { m' with en := 3 }) := by rw [HE.out, if_neg (by omega)]
              have HE2 := Lib.hid hE2
              clear ham hE2
              go_wp2_with fail
              exact goes_door_ret rfl (hBE6.set 0 (.int .i64 0)) (goesPost_ret hbase2 hfr6 (by omega) hBE6 hMA6 HE2.out)
            · have t5 : 0 ≤ bk.a := ha.1
              have hE2 : goesS p N 0 m = (0, { m' with en := 3, ret := m'.get bk.a }) := by rw [HE.out, if_pos ha.1]
              have HE2 := Lib.hid hE2
              clear hE2
              obtain ⟨vv, hv, av, lv, tv, hbs, abs, hR, hM⟩ := hMA6.ex
              obtain ⟨g, cc, rfl, hvg0, hvg1, hc, hf⟩ := hR.v_open hMA6.wf (by omega)
              have c0 : W5.cell? ⟨mb, 0, none⟩ = some (.slice (some ⟨g, 0, none⟩) nv cc) := hM.cell 0
              have c9 : W5.cell? ⟨mb, 9, none⟩ = some (.int .u64 m'.ret) := hM.cell 9
              have f9 : W5.frozen? ⟨mb, 9, none⟩ = false := hM.free 9
              have ca : W5.cell? ⟨g, bk.a.toNat, none⟩ = some (.int .u64 (m'.get bk.a)) := hc bk.a ha.1 ha.2
              have cb2 : W5.cell? ⟨bB, 2, none⟩ = some (.int .i64 bk.a) := hBB6.cell 2
              clear hc hf hM hR
              go_upto_region 15 with (fail)
              clear CB
              go_region
              obtain ⟨W6, hW6⟩ : ∃ W6, W6 = (W5.setCell ⟨mb, 9, none⟩ (.int .u64 (m'.get bk.a))).drew := ⟨_, rfl⟩
              rw [← hW6]
              have hMA7 : MA W6 base B2 mb nv { m' with en := 3, ret := m'.get bk.a } := by rw [hW6]; exact (hMA6.put9 (m'.get bk.a)).drew
              have hfr7 : Fr base w W6 := by rw [hW6]; exact (hfr6.setCell hMA6.mb0 hMA6.mown _).drew
              have hBE7 : Bk W6 (w.heap.size + 1) #[.int .i64 0] 30 := by rw [hW6]; exact (hBE6.other (hMA6.apart hBE6 (by decide)) _).drew
              clear hW6 CE FE c0 c9 f9 ca cb2 hBE6 hBB6 hfr6 hMA6
              have CE : W6.cell? ⟨w.heap.size + 1, 0, none⟩ = some (.int .i64 0) := hBE7.cell 0
              have FE : W6.frozen? ⟨w.heap.size + 1, 0, none⟩ = false := hBE7.free 0
              go_wp2_with fail
              exact goes_door_ret rfl (hBE7.set 0 (.int .i64 0)) (goesPost_ret hbase2 hfr7 (by omega) hBE7 hMA7 HE2.out)
          · have t1 : (bk.e == 1) = false := by rw [h4]; rfl
            have t2 : (bk.e == 2) = false := by rw [h4]; rfl
            have t4 : (bk.e == 4) = true := by rw [h4]; rfl
            have HE : Hid (goesS p N 0 m = (0, { m' with en := 4, trap := bk.go })) := Lib.hid (by rw [HG.out, after_4 p _ m' h4])
            clear h4
            go_wp2_with fail
            refine (trap_c bk.go m' _ base B2 mb nv hMA5).mono ?_
            rintro e w6 ⟨hfr6, rfl, hMA7⟩
            have hfr7 := hfr5.trans hfr6
            have hBE7 := hBE5.fr hfr6 rfl
            clear hfr5 hMA5 hMp5 hBP5 hBE5 hBB5 CB hfr6 t1 t2 t4
            go_wp2_with fail
            exact goes_door_over rfl hBE7 (goesPost_over hbase2 hfr7 (by omega) hBE7 hMA7 HE.out)
end Go.Proofs.YtoabiignjkcdmaaGreat
