/-
  errors.Is at an api.Fault, its target the Errno that it wraps; sacristylaw06.Told.
-/
import Derived.Test.YtkflcmengddijaaGreatDoorLexAs
namespace Go.Proofs.YtkflcmengddijaaGreatDoor
open Go.RowKit Go.Extern.Stop Go.Stop Go.Extern
set_option linter.unusedVariables false
set_option linter.unusedSimpArgs false

theorem run_equalIn_iface_int {P : Program} (w : World) (d : Nat) {ti tn : TypeId} {ms : Array (String × TypeId)} {i : TypeInfo} {k : IntKind} (a b : Int)
    (hi : P.underlying ti = some (.interface ms)) (hn : P.underlying tn = some (.int k)) (hinfo : P.info? tn = some i) (hcomp : i.comparable = true) :
    (Op.equalIn (d + 2) ti (.iface tn (.int k a)) (.iface tn (.int k b))).run P w = .ok (a == b) w := by
  simp [Op.equalIn, run_underlying hi, run_underlying hn, typeInfo, hinfo, hcomp]
theorem compErrno : (Tryz.prog.info? 28).map (·.comparable) = some true := by kernel_rfl
theorem eq_errno (a : Int) (w : World) : (binOp .eql 25 (.iface 28 (.int .i64 a)) (.iface 28 (.int .i64 a))).run Tryz.prog w = .ok (.bool true) w := by
  simp only [binOp]
  obtain ⟨i, h1, h2⟩ := Option.map_eq_some_iff.1 compErrno
  simp [Op.equal, Op.maxDepth, run_equalIn_iface_int w 9998 a a Tryz.underlying25 Tryz.underlying28 h1 h2]
theorem eq_other (v : Value) (a : Int) (w : World) : (binOp .eql 25 (.iface 30 v) (.iface 28 (.int .i64 a))).run Tryz.prog w = .ok (.bool false) w := by kernel_rfl
theorem as_noIs (v : Value) (w : World) : (Instr.typeAssert (.iface 30 v) 25 131 true).run Tryz.prog w = .ok (.tuple #[.nilIface, .bool false]) w := run_typeAssert_lacksB Tryz.underlying131 (by kernel_rfl) (by kernel_rfl) v 25 w
theorem as_unwrap (v : Value) (w : World) : (Instr.typeAssert (.iface 30 v) 25 126 true).run Tryz.prog w = .ok (.tuple #[.iface 30 v, .bool true]) w := run_typeAssert_hasB Tryz.underlying126 (by kernel_rfl) v 25 w
theorem m_unwrap (a c : Value) (w : World) : (Go.method 188 30 (.agg #[a, c]) "Unwrap").run Tryz.prog w = .ok (137, .agg #[a, c]) w := by kernel_rfl
theorem rl_typeOfE (v : Value) (w : World) : (ReflectliteType.typeOf #[.iface 28 v]).run Tryz.prog w = .ok (.iface 119 (.agg #[.pointer (some ⟨11, 28, none⟩)])) w := by kernel_rfl

theorem rl_compE (w : World) : ((ReflectliteType.method fun t => do Rtype.noPackHeld "Comparable" t; (fun a => Value.bool a.comparable) <$> typeInfo t) #[.agg #[.pointer (some ⟨11, 28, none⟩)]]).run Tryz.prog w = .ok (.bool true) w := by kernel_rfl
theorem unwrap_c (a c : Int) (w : World) : Calls Tryz.prog 137 #[.agg #[.int .i64 a, .int .i64 c]] w fun e w' => e = .returned (.iface 28 (.int .i64 c)) ∧ Below w.heap.size w w' := by
  go_enter Tryz.func137, Tryz.ntmps137
  go_wp2
  go_ret
  exact ⟨rfl, (Below.refl _ _).alloc (Nat.le_refl _) _⟩
set_option maxRecDepth 100000 in
set_option maxHeartbeats 4000000 in
theorem isis_c (a c : Int) (w : World) :
    Calls Tryz.prog 59 #[.iface 30 (.agg #[.int .i64 a, .int .i64 c]), .iface 28 (.int .i64 c), .bool true] w fun e w' => e = .returned (.bool true) ∧ Below w.heap.size w w' := by
  have e1 := eq_errno
  have e2 := eq_other
  have n1 := as_noIs
  have n2 := as_unwrap
  have n3 := m_unwrap
  go_enter Tryz.func59, Tryz.ntmps59
  go_wp2
  refine wp_loop_rounds 2 ?_
  rw [rounds_succ]
  go_wp2_with (first | (go_at_call 137; refine (unwrap_c a c _).mono ?_; rintro e w1 ⟨rfl, hb1⟩))
  rw [rounds_succ]
  go_wp2
  go_ret
  exact ⟨rfl, hb1⟩
set_option maxRecDepth 100000 in
set_option maxHeartbeats 4000000 in
theorem is_c (a c : Int) (w : World) :
    Calls Tryz.prog 32 #[.iface 30 (.agg #[.int .i64 a, .int .i64 c]), .iface 28 (.int .i64 c)] w fun e w' => e = .returned (.bool true) ∧ Below w.heap.size w w' := by
  have h7 := @run_callFunc_extern Tryz.prog 58 _ ReflectliteType.typeOf Tryz.func58 (by kernel_rfl) (by kernel_rfl) (by kernel_rfl) (by kernel_rfl)
  have h8 := @run_callFunc_extern Tryz.prog 144 _ (ReflectliteType.method fun t => do Rtype.noPackHeld "Comparable" t; pure (.bool (← typeInfo t).comparable)) Tryz.func144 (by kernel_rfl) (by kernel_rfl) (by kernel_rfl) (by kernel_rfl)
  have tO := rl_typeOfE
  have mC := rl_mComp
  have cC := rl_compE
  go_enter Tryz.func32, Tryz.ntmps32
  go_wp2_with (first | (go_at_call 59; refine (isis_c a c _).mono ?_; rintro e w1 ⟨rfl, hb1⟩))
  go_ret
  exact ⟨rfl, hb1⟩

/-- errors.As, and what it leaves. -/
theorem as_hit (tb : Nat) (x y : Value) (a c : Int) (w : World) (hw : Env w) (ht : Bk w tb #[x, y] 30) :
    Calls Tryz.prog 30 #[.iface 30 (.agg #[.int .i64 a, .int .i64 c]), .iface 62 (.pointer (some ⟨tb, 0, none⟩))] w
      fun e w' => e = .returned (.bool true) ∧ Bk w' tb #[.int .i64 a, .int .i64 c] 30 ∧ w.grownBy w' (some tb) := by
  refine (as_hit0 tb x y a c w hw ht).mono ?_
  rintro e w' ⟨rfl, rfl⟩
  have hb : Below w.heap.size w (asW w ⟨tb, 0, none⟩ a c) := ((((Below.refl _ _).alloc (Nat.le_refl _) _).alloc (by simp) _).alloc (by simp; omega) _).alloc (by simp; omega) _
  have h1 := ((ht.mono hb).set 0 (.int .i64 a)).set 1 (.int .i64 c)
  refine ⟨rfl, h1, ?_⟩
  have hg := grown_of_below hb (some tb)
  refine ⟨hg.os, hg.tape, hg.output, ?_, fun i hi hne => ?_⟩
  · simpa [World.setCell] using hg.size
  · have hne' : i ≠ tb := fun e => hne (by rw [e])
    rw [Below.heap_setCell _ _ _ _ hne', Below.heap_setCell _ _ _ _ hne']
    exact hg.block i hi hne

/-- Told: of no error; of a Fault. -/
theorem told_nil (a : Int) (w : World) : Calls Tryz.prog 11 #[.nilIface, .agg #[.int .i64 a, .int .i64 0]] w fun e w' => e = .returned (.bool true) ∧ Below w.heap.size w w' := by
  go_enter Tryz.func11, Tryz.ntmps11
  go_wp2
  go_ret
  exact ⟨rfl, (Below.refl _ _).alloc (Nat.le_refl _) _⟩
set_option maxRecDepth 100000 in
set_option maxHeartbeats 4000000 in
theorem told_c (a c : Int) (hc : (c == 0) = false) (w : World) (hw : Env w) :
    Calls Tryz.prog 11 #[.iface 30 (.agg #[.int .i64 a, .int .i64 c]), .agg #[.int .i64 a, .int .i64 c]] w fun e w' => e = .returned (.bool true) ∧ Below w.heap.size w w' := by
  have B0 := (Bk.new w #[.int .i64 a, .int .i64 c] 30).alloc (.cells #[.int .i64 0, .int .i64 0] 30)
  have B1 := Bk.newAt (w := w.alloc (.cells #[.int .i64 a, .int .i64 c] 30)) (n := w.heap.size + 1) #[.int .i64 0, .int .i64 0] 30 (by simp)
  have hb0 : Below w.heap.size w ((w.alloc (.cells #[.int .i64 a, .int .i64 c] 30)).alloc (.cells #[.int .i64 0, .int .i64 0] 30)) := ((Below.refl _ _).alloc (Nat.le_refl _) _).alloc (by simp) _
  go_enter Tryz.func11, Tryz.ntmps11
  go_wp2_with (first
    | (go_at_call 30; refine (as_hit (w.heap.size + 1) _ _ a c _ (hw.mono hb0) B1).mono ?_; rintro e w1 ⟨rfl, K1, hg1⟩; have K0 := B0.grown hg1 (by simp); have C0 := K0.cell; have C1 := K1.cell)
    | (go_at_call 32; refine (is_c a c _).mono ?_; rintro e w2 ⟨rfl, hb2⟩))
  go_ret
  exact ⟨rfl, bt (hb0.grown hg1 (by simp; omega) (fun q hq => by cases hq; omega)) hb2⟩
end Go.Proofs.YtkflcmengddijaaGreatDoor
