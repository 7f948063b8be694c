/-
  errors.Is at an api.Fault, its target the Errno that it wraps; sacristylaw06.Told.
-/
import Derived.Test.YtkflcmengddijaaDoorLexAs
namespace Go.Proofs.YtkflcmengddijaaDoor
open Go.RowKit Go.Extern.Stop Go.Stop Go.Extern
set_option linter.unusedVariables false
set_option linter.unusedSimpArgs false

theorem run_equalIn_iface_int {P : Program} (w : World) (d : Nat) {ti tn : TypeId} {ms : Array (String × TypeId)} {i : TypeInfo} {k : IntKind} (a b : Int)
    (hi : P.underlying ti = some (.interface ms)) (hn : P.underlying tn = some (.int k)) (hinfo : P.info? tn = some i) (hcomp : i.comparable = true) :
    (Op.equalIn (d + 2) ti (.iface tn (.int k a)) (.iface tn (.int k b))).run P w = .ok (a == b) w := by
  simp [Op.equalIn, run_underlying hi, run_underlying hn, typeInfo, hinfo, hcomp]
theorem compErrno : (Tryd.prog.info? 37).map (·.comparable) = some true := by kernel_rfl
theorem eq_errno (a : Int) (w : World) : (binOp .eql 25 (.iface 37 (.int .i64 a)) (.iface 37 (.int .i64 a))).run Tryd.prog w = .ok (.bool true) w := by
  simp only [binOp]
  obtain ⟨i, h1, h2⟩ := Option.map_eq_some_iff.1 compErrno
  simp [Op.equal, Op.maxDepth, run_equalIn_iface_int w 9998 a a Tryd.underlying25 Tryd.underlying37 h1 h2]
theorem eq_other (v : Value) (a : Int) (w : World) : (binOp .eql 25 (.iface 39 v) (.iface 37 (.int .i64 a))).run Tryd.prog w = .ok (.bool false) w := by kernel_rfl
theorem as_noIs (v : Value) (w : World) : (Instr.typeAssert (.iface 39 v) 25 97 true).run Tryd.prog w = .ok (.tuple #[.nilIface, .bool false]) w := run_typeAssert_lacksB Tryd.underlying97 (by kernel_rfl) (by kernel_rfl) v 25 w
theorem as_unwrap (v : Value) (w : World) : (Instr.typeAssert (.iface 39 v) 25 85 true).run Tryd.prog w = .ok (.tuple #[.iface 39 v, .bool true]) w := run_typeAssert_hasB Tryd.underlying85 (by kernel_rfl) v 25 w
theorem m_unwrap (a c : Value) (w : World) : (Go.method 188 39 (.agg #[a, c]) "Unwrap").run Tryd.prog w = .ok (93, .agg #[a, c]) w := by kernel_rfl
theorem rl_typeOfE (v : Value) (w : World) : (ReflectliteType.typeOf #[.iface 37 v]).run Tryd.prog w = .ok (.iface 78 (.agg #[.pointer (some ⟨10, 37, none⟩)])) w := by kernel_rfl

theorem rl_compE (w : World) : ((ReflectliteType.method fun t => do Rtype.noPackHeld "Comparable" t; (fun a => Value.bool a.comparable) <$> typeInfo t) #[.agg #[.pointer (some ⟨10, 37, none⟩)]]).run Tryd.prog w = .ok (.bool true) w := by kernel_rfl
theorem unwrap_c (a c : Int) (w : World) : Calls Tryd.prog 93 #[.agg #[.int .i64 a, .int .i64 c]] w fun e w' => e = .returned (.iface 37 (.int .i64 c)) ∧ Below w.heap.size w w' := by
  go_enter Tryd.func93, Tryd.ntmps93
  go_wp2
  go_ret
  exact ⟨rfl, (Below.refl _ _).alloc (Nat.le_refl _) _⟩
set_option maxRecDepth 100000 in
set_option maxHeartbeats 4000000 in
theorem isis_c (a c : Int) (w : World) :
    Calls Tryd.prog 35 #[.iface 39 (.agg #[.int .i64 a, .int .i64 c]), .iface 37 (.int .i64 c), .bool true] w fun e w' => e = .returned (.bool true) ∧ Below w.heap.size w w' := by
  have e1 := eq_errno
  have e2 := eq_other
  have n1 := as_noIs
  have n2 := as_unwrap
  have n3 := m_unwrap
  go_enter Tryd.func35, Tryd.ntmps35
  go_wp2
  refine wp_loop_rounds 2 ?_
  rw [rounds_succ]
  go_wp2_with (first | (go_at_call 93; refine (unwrap_c a c _).mono ?_; rintro e w1 ⟨rfl, hb1⟩))
  rw [rounds_succ]
  go_wp2
  go_ret
  exact ⟨rfl, hb1⟩
set_option maxRecDepth 100000 in
set_option maxHeartbeats 4000000 in
theorem is_c (a c : Int) (w : World) :
    Calls Tryd.prog 18 #[.iface 39 (.agg #[.int .i64 a, .int .i64 c]), .iface 37 (.int .i64 c)] w fun e w' => e = .returned (.bool true) ∧ Below w.heap.size w w' := by
  have h7 := @run_callFunc_extern Tryd.prog 34 _ ReflectliteType.typeOf Tryd.func34 (by kernel_rfl) (by kernel_rfl) (by kernel_rfl) (by kernel_rfl)
  have h8 := @run_callFunc_extern Tryd.prog 100 _ (ReflectliteType.method fun t => do Rtype.noPackHeld "Comparable" t; pure (.bool (← typeInfo t).comparable)) Tryd.func100 (by kernel_rfl) (by kernel_rfl) (by kernel_rfl) (by kernel_rfl)
  have tO := rl_typeOfE
  have mC := rl_mComp
  have cC := rl_compE
  go_enter Tryd.func18, Tryd.ntmps18
  go_wp2_with (first | (go_at_call 35; refine (isis_c a c _).mono ?_; rintro e w1 ⟨rfl, hb1⟩))
  go_ret
  exact ⟨rfl, hb1⟩

/-- errors.As, and what it leaves. -/
theorem as_hit (tb : Nat) (x y : Value) (a c : Int) (w : World) (hw : Env w) (ht : Bk w tb #[x, y] 39) :
    Calls Tryd.prog 15 #[.iface 39 (.agg #[.int .i64 a, .int .i64 c]), .iface 45 (.pointer (some ⟨tb, 0, none⟩))] w
      fun e w' => e = .returned (.bool true) ∧ Bk w' tb #[.int .i64 a, .int .i64 c] 39 ∧ w.grownBy w' (some tb) := by
  refine (as_hit0 tb x y a c w hw ht).mono ?_
  rintro e w' ⟨rfl, rfl⟩
  have hb : Below w.heap.size w (asW w ⟨tb, 0, none⟩ a c) := ((((Below.refl _ _).alloc (Nat.le_refl _) _).alloc (by simp) _).alloc (by simp; omega) _).alloc (by simp; omega) _
  have h1 := ((ht.mono hb).set 0 (.int .i64 a)).set 1 (.int .i64 c)
  refine ⟨rfl, h1, ?_⟩
  have hg := grown_of_below hb (some tb)
  refine ⟨hg.os, hg.tape, hg.output, ?_, fun i hi hne => ?_⟩
  · simpa [World.setCell] using hg.size
  · have hne' : i ≠ tb := fun e => hne (by rw [e])
    rw [Below.heap_setCell _ _ _ _ hne', Below.heap_setCell _ _ _ _ hne']
    exact hg.block i hi hne

/-- Told: of no error; of a Fault. -/
theorem told_nil (a : Int) (w : World) : Calls Tryd.prog 10 #[.nilIface, .agg #[.int .i64 a, .int .i64 0]] w fun e w' => e = .returned (.bool true) ∧ Below w.heap.size w w' := by
  go_enter Tryd.func10, Tryd.ntmps10
  go_wp2
  go_ret
  exact ⟨rfl, (Below.refl _ _).alloc (Nat.le_refl _) _⟩
set_option maxRecDepth 100000 in
set_option maxHeartbeats 4000000 in
theorem told_c (a c : Int) (hc : (c == 0) = false) (w : World) (hw : Env w) :
    Calls Tryd.prog 10 #[.iface 39 (.agg #[.int .i64 a, .int .i64 c]), .agg #[.int .i64 a, .int .i64 c]] w fun e w' => e = .returned (.bool true) ∧ Below w.heap.size w w' := by
  have B0 := (Bk.new w #[.int .i64 a, .int .i64 c] 39).alloc (.cells #[.int .i64 0, .int .i64 0] 39)
  have B1 := Bk.newAt (w := w.alloc (.cells #[.int .i64 a, .int .i64 c] 39)) (n := w.heap.size + 1) #[.int .i64 0, .int .i64 0] 39 (by simp)
  have hb0 : Below w.heap.size w ((w.alloc (.cells #[.int .i64 a, .int .i64 c] 39)).alloc (.cells #[.int .i64 0, .int .i64 0] 39)) := ((Below.refl _ _).alloc (Nat.le_refl _) _).alloc (by simp) _
  go_enter Tryd.func10, Tryd.ntmps10
  go_wp2_with (first
    | (go_at_call 15; refine (as_hit (w.heap.size + 1) _ _ a c _ (hw.mono hb0) B1).mono ?_; rintro e w1 ⟨rfl, K1, hg1⟩; have K0 := B0.grown hg1 (by simp); have C0 := K0.cell; have C1 := K1.cell)
    | (go_at_call 18; refine (is_c a c _).mono ?_; rintro e w2 ⟨rfl, hb2⟩))
  go_ret
  exact ⟨rfl, bt (hb0.grown hg1 (by simp; omega) (fun q hq => by cases hq; omega)) hb2⟩
end Go.Proofs.YtkflcmengddijaaDoor
