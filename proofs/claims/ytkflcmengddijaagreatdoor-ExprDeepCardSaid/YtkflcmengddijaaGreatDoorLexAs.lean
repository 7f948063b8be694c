/-
  errors.As at a nil error and at an api.Fault, its target an api.Fault; after the kit's worked example of errors.As.
-/
import Derived.Test.YtkflcmengddijaaGreatDoorLex3
import Derived.LaidEql
import Derived.Stop.Asserts
import Derived.RowKitTokens
namespace Go.Proofs.YtkflcmengddijaaGreatDoor
open Go.RowKit Go.Extern.Stop Go.Stop Go.Extern
set_option linter.unusedVariables false
set_option linter.unusedSimpArgs false

theorem as_nil (t : Value) (w : World) : Calls Tryz.prog 30 #[.nilIface, t] w fun e w' => e = .returned (.bool false) ∧ w = w' := by
  go_enter Tryz.func30, Tryz.ntmps30
  go_wp2
  go_ret
  exact ⟨rfl, rfl⟩

abbrev hF : Value := .pointer (some ⟨11, 30, none⟩)
abbrev hP : Value := .pointer (some ⟨11, 62, none⟩)
theorem rl_valueOfP (t : Addr) (w : World) : (ReflectliteValue.unpack (.iface 62 (.pointer (some t)))).run Tryz.prog w
    = .ok (.agg #[hP, .pointer (some ⟨w.heap.size, 0, none⟩), .int .u64 150]) (w.alloc (.cells #[.pointer (some t)] 62)) := by kernel_rfl
theorem rl_typeP (a : Addr) (w : World) : (ReflectliteValue.methodAny (ReflectliteValue.valueError "reflectlite.Value.Type" 0) (fun t _ _ _ => ReflectliteType.toType t) #[.agg #[hP, .pointer (some a), .int .u64 150]]).run Tryz.prog w
    = .ok (.iface 119 (.agg #[hP])) w := by kernel_rfl
theorem rl_mKind (h : Value) (w : World) : (Go.method 188 119 (.agg #[h]) "Kind").run Tryz.prog w = .ok (132, h) w := by kernel_rfl
theorem rl_kindP (w : World) : ((ReflectliteType.abiMethod fun t => (fun a : Nat => Value.int IntKind.u8 (a : Int)) <$> Rtype.kind t) #[hP]).run Tryz.prog w = .ok (.int .u8 22) w := by kernel_rfl
theorem rl_kindF (w : World) : ((ReflectliteType.abiMethod fun t => (fun a : Nat => Value.int IntKind.u8 (a : Int)) <$> Rtype.kind t) #[hF]).run Tryz.prog w = .ok (.int .u8 25) w := by kernel_rfl
theorem rlm (z : Sem Value) (f : TypeId → Addr → Nat → Nat → Sem Value) (v : Value) :
    ReflectliteValue.method z f #[v] = (do match ← ReflectliteValue.parts v with | none => z | some (t, a, fl) => f t a fl (fl % 32)) := rfl
theorem rl_partsP (a : Addr) (w : World) : (ReflectliteValue.parts (.agg #[hP, .pointer (some a), .int .u64 150])).run Tryz.prog w = .ok (some (62, a, 150)) w := by kernel_rfl
theorem rl_isNilP (a p : Addr) (W : World) (ha : W.cell? a = some (.pointer (some p))) :
    (ReflectliteValue.method (ReflectliteValue.valueError "reflectlite.Value.IsNil" 0) ReflectliteValue.isNil #[.agg #[hP, .pointer (some a), .int .u64 150]]).run Tryz.prog W = .ok (.bool false) W := by
  rw [rlm]
  simp only [Sem.run_bind, rl_partsP, Result.andThen]
  simp [ReflectliteValue.isNil, loadVar, isAgg, underlying, Tryz.underlying62, ha, Result.andThen]
theorem rl_mElem (h : Value) (w : World) : (Go.method 188 119 (.agg #[h]) "Elem").run Tryz.prog w = .ok (145, .agg #[h]) w := by kernel_rfl
theorem rl_mImpl (h : Value) (w : World) : (Go.method 188 119 (.agg #[h]) "Implements").run Tryz.prog w = .ok (146, .agg #[h]) w := by kernel_rfl
theorem rl_mAssign (h : Value) (w : World) : (Go.method 188 119 (.agg #[h]) "AssignableTo").run Tryz.prog w = .ok (143, .agg #[h]) w := by kernel_rfl
theorem rl_mComp (h : Value) (w : World) : (Go.method 188 119 (.agg #[h]) "Comparable").run Tryz.prog w = .ok (144, .agg #[h]) w := by kernel_rfl
theorem rl_elemP (w : World) : (ReflectliteType.method ReflectliteType.elem #[.agg #[hP]]).run Tryz.prog w = .ok (.iface 119 (.agg #[hF])) w := by kernel_rfl
theorem rl_implF (w : World) : (ReflectliteType.relation "Implements" ReflectliteType.implements_ #[.agg #[hF], .iface 119 (.agg #[.pointer (some ⟨11, 25, none⟩)])]).run Tryz.prog w = .ok (.bool true) w := by kernel_rfl
theorem rl_typeOfF (v : Value) (w : World) : (ReflectliteType.typeOf #[.iface 30 v]).run Tryz.prog w = .ok (.iface 119 (.agg #[hF])) w := by kernel_rfl
theorem rl_assignF (w : World) : (ReflectliteType.relation "AssignableTo" ReflectliteType.assignableTo #[.agg #[hF], .iface 119 (.agg #[hF])]).run Tryz.prog w = .ok (.bool true) w := by kernel_rfl
theorem rl_valueOfF (a c : Int) (w : World) : (ReflectliteValue.unpack (.iface 30 (.agg #[.int .i64 a, .int .i64 c]))).run Tryz.prog w
    = .ok (.agg #[hF, .pointer (some ⟨w.heap.size, 0, none⟩), .int .u64 153]) (w.alloc (.cells #[.int .i64 a, .int .i64 c] 30)) := by kernel_rfl
theorem rl_elemOfP (w : World) : (Rtype.elem? 62).run Tryz.prog w = .ok (some 30) w := by kernel_rfl
theorem rl_mkF (p : Addr) (w : World) : (ReflectliteValue.mk 30 p ReflectliteValue.flagAddr).run Tryz.prog w = .ok (.agg #[hF, .pointer (some p), .int .u64 409]) w := by kernel_rfl
theorem rl_elemVP (a p : Addr) (W : World) (ha : W.cell? a = some (.pointer (some p))) :
    (ReflectliteValue.method (ReflectliteValue.valueError "reflectlite.Value.Elem" 0) ReflectliteValue.elem #[.agg #[hP, .pointer (some a), .int .u64 150]]).run Tryz.prog W
      = .ok (.agg #[hF, .pointer (some p), .int .u64 409]) W := by
  rw [rlm]
  simp only [Sem.run_bind, rl_partsP, Result.andThen]
  simp [ReflectliteValue.elem, loadVar, isAgg, underlying, Tryz.underlying62, ha, Result.andThen, rl_elemOfP, rl_mkF]
theorem rls (v x : Value) : ReflectliteValue.set #[v, x] = (do
    let (some (dst, a, fl), some (src, b, _)) := (← ReflectliteValue.parts v, ← ReflectliteValue.parts x)
      | unsupported (.noEntry "extern/(internal/reflectlite.Value).Set.zeroValue")
    if fl / ReflectliteValue.flagAddr % 2 == 0 then unsupported (.noEntry "extern/(internal/reflectlite.Value).Set.unaddressable")
    let val ← loadVar src b
    if ← Rtype.directlyAssignable dst src then storeVar dst a val
    else if ← Rtype.implements dst src then
      if (← Rtype.kind src) == 20 then
        match val with
        | .nilIface => unsupported (.noEntry "extern/reflectlite: a nil value of one interface type handed on as a value of another")
        | _ => storeVar dst a val
      else storeVar dst a (.iface src val)
    else panicString ("reflectlite.Set: value of type " ++ (← Rtype.spelt src) ++ " is not assignable to type " ++ (← Rtype.spelt dst))
    pure (.tuple #[])) := rfl
theorem rl_partsFa (a : Addr) (w : World) : (ReflectliteValue.parts (.agg #[hF, .pointer (some a), .int .u64 409])).run Tryz.prog w = .ok (some (30, a, 409)) w := by kernel_rfl
theorem rl_partsF (a : Addr) (w : World) : (ReflectliteValue.parts (.agg #[hF, .pointer (some a), .int .u64 153])).run Tryz.prog w = .ok (some (30, a, 153)) w := by kernel_rfl
theorem rl_directF (w : World) : (Rtype.directlyAssignable 30 30).run Tryz.prog w = .ok true w := by kernel_rfl
theorem rl_sizeF (w : World) : (sizeOf 30).run Tryz.prog w = .ok 2 w := by kernel_rfl
/-- (Value).Set at the variable of a Fault. -/
theorem rl_setF (tb sb : Nat) (x y a c : Value) (W : World) (ha : a.oneCell' = true) (hc : c.oneCell' = true) (hb : Bk W sb #[a, c] 30) (ht : Bk W tb #[x, y] 30) :
    (ReflectliteValue.set #[.agg #[hF, .pointer (some ⟨tb, 0, none⟩), .int .u64 409], .agg #[hF, .pointer (some ⟨sb, 0, none⟩), .int .u64 153]]).run Tryz.prog W
      = .ok (.tuple #[]) ((W.setCell ⟨tb, 0, none⟩ a).setCell ⟨tb, 1, none⟩ c) := by
  rw [rls]
  simp only [Sem.run_bind, rl_partsFa, rl_partsF, Result.andThen]
  have hl := run_loadVar_row (P := Tryz.prog) W sb 30 30 #[a, c] (0, 0) _ hb Tryz.underlying30 rfl (by kernel_rfl)
  have c0 := ht.cell 0
  have f0 := ht.free 0
  have c1 := (ht.set 0 a).cell 1
  have f1 := (ht.set 0 a).free 1
  simp [ReflectliteValue.flagAddr, hl, Result.andThen, rl_directF, storeVar, Value.cells, rl_sizeF, storeCells, Addr.add]
  rw [run_store Tryz.prog W ⟨tb, 0, none⟩ _ _ ha]
  simp [c0, f0]
  rw [run_store Tryz.prog _ ⟨tb, 1, none⟩ _ _ hc]
  simp [c1, f1]

/-- The worlds of errors.As: what it lays. -/
def asW (w : World) (t : Addr) (a c : Int) : World :=
  (((w.alloc (.cells #[.pointer (some t)] 62)).alloc (.cells #[hP, .pointer (some ⟨w.heap.size, 0, none⟩), .int .u64 150] 86)).alloc (.cells #[hP, .pointer (some ⟨w.heap.size, 0, none⟩), .int .u64 150] 86)).alloc (.cells #[.int .i64 a, .int .i64 c] 30)

set_option maxRecDepth 100000 in
set_option maxHeartbeats 4000000 in
theorem as_hit0 (tb : Nat) (x y : Value) (a c : Int) (w : World) (hw : Env w) (ht : Bk w tb #[x, y] 30) :
    Calls Tryz.prog 30 #[.iface 30 (.agg #[.int .i64 a, .int .i64 c]), .iface 62 (.pointer (some ⟨tb, 0, none⟩))] w
      fun e w' => e = .returned (.bool true) ∧ w' = ((asW w ⟨tb, 0, none⟩ a c).setCell ⟨tb, 0, none⟩ (.int .i64 a)).setCell ⟨tb, 1, none⟩ (.int .i64 c) := by
  have hg : w.cell? ⟨0, 0, none⟩ = some (.iface 119 (.agg #[.pointer (some ⟨11, 25, none⟩)])) := by simpa using World.var?_cell gEty hw.ety 0
  have h1 := @run_callFunc_extern Tryz.prog 52 _ (fun args => ReflectliteValue.unpack (args.getD 0 (.tuple #[]))) Tryz.func52 (by kernel_rfl) (by kernel_rfl) (by kernel_rfl) (by kernel_rfl)
  have h2 := @run_callFunc_extern Tryz.prog 53 _ (ReflectliteValue.methodAny (ReflectliteValue.valueError "reflectlite.Value.Type" 0) (fun t _ _ _ => ReflectliteType.toType t)) Tryz.func53 (by kernel_rfl) (by kernel_rfl) (by kernel_rfl) (by kernel_rfl)
  have h3 := @run_callFunc_extern Tryz.prog 54 _ (ReflectliteValue.method (ReflectliteValue.valueError "reflectlite.Value.IsNil" 0) ReflectliteValue.isNil) Tryz.func54 (by kernel_rfl) (by kernel_rfl) (by kernel_rfl) (by kernel_rfl)
  have h4 := @run_callFunc_extern Tryz.prog 132 _ (ReflectliteType.abiMethod fun t => do pure (.int .u8 (← Rtype.kind t))) Tryz.func132 (by kernel_rfl) (by kernel_rfl) (by kernel_rfl) (by kernel_rfl)
  have h5 := @run_callFunc_extern Tryz.prog 145 _ (ReflectliteType.method ReflectliteType.elem) Tryz.func145 (by kernel_rfl) (by kernel_rfl) (by kernel_rfl) (by kernel_rfl)
  have h6 := @run_callFunc_extern Tryz.prog 146 _ (ReflectliteType.relation "Implements" ReflectliteType.implements_) Tryz.func146 (by kernel_rfl) (by kernel_rfl) (by kernel_rfl) (by kernel_rfl)
  have h7 := @run_callFunc_extern Tryz.prog 58 _ ReflectliteType.typeOf Tryz.func58 (by kernel_rfl) (by kernel_rfl) (by kernel_rfl) (by kernel_rfl)
  have h8 := @run_callFunc_extern Tryz.prog 143 _ (ReflectliteType.relation "AssignableTo" ReflectliteType.assignableTo) Tryz.func143 (by kernel_rfl) (by kernel_rfl) (by kernel_rfl) (by kernel_rfl)
  have h9 := @run_callFunc_extern Tryz.prog 81 _ (ReflectliteValue.method (ReflectliteValue.valueError "reflectlite.Value.Elem" 0) ReflectliteValue.elem) Tryz.func81 (by kernel_rfl) (by kernel_rfl) (by kernel_rfl) (by kernel_rfl)
  have h10 := @run_callFunc_extern Tryz.prog 82 _ ReflectliteValue.set Tryz.func82 (by kernel_rfl) (by kernel_rfl) (by kernel_rfl) (by kernel_rfl)
  have tO := rl_typeOfF
  have mA := rl_mAssign
  have a25 := rl_assignF
  have v25 := rl_valueOfF
  have f6 := rl_valueOfP
  have f7 := rl_typeP
  have mK := rl_mKind
  have mE := rl_mElem
  have mI := rl_mImpl
  have k27 := rl_kindP
  have k25 := rl_kindF
  have e27 := rl_elemP
  have i25 := rl_implF
  have hlt : 0 < w.heap.size := World.block_lt_of_cell? w _ hg
  have htl : tb < w.heap.size := ht.lt
  have ht1 := ht.alloc (.cells #[.pointer (some ⟨tb, 0, none⟩)] 62)
  have ht2 := ht1.alloc (.cells #[hP, .pointer (some ⟨w.heap.size, 0, none⟩), .int .u64 150] 86)
  have ht3 := ht2.alloc (.cells #[hP, .pointer (some ⟨w.heap.size, 0, none⟩), .int .u64 150] 86)
  have ht4 := ht3.alloc (.cells #[.int .i64 a, .int .i64 c] 30)
  have n8 := rl_isNilP ⟨w.heap.size, 0, none⟩ ⟨tb, 0, none⟩ ((w.alloc (.cells #[.pointer (some ⟨tb, 0, none⟩)] 62)).alloc (.cells #[hP, .pointer (some ⟨w.heap.size, 0, none⟩), .int .u64 150] 86)) (by simp)
  have hg2 : ((w.alloc (.cells #[.pointer (some ⟨tb, 0, none⟩)] 62)).alloc (.cells #[hP, .pointer (some ⟨w.heap.size, 0, none⟩), .int .u64 150] 86)).cell? ⟨0, 0, none⟩ = some (.iface 119 (.agg #[.pointer (some ⟨11, 25, none⟩)])) := by
    rw [World.cell?_alloc_lt _ _ ⟨0, 0, none⟩ (by simp), World.cell?_alloc_lt _ _ ⟨0, 0, none⟩ hlt]; exact hg
  have el := rl_elemVP ⟨w.heap.size, 0, none⟩ ⟨tb, 0, none⟩ (((w.alloc (.cells #[.pointer (some ⟨tb, 0, none⟩)] 62)).alloc (.cells #[hP, .pointer (some ⟨w.heap.size, 0, none⟩), .int .u64 150] 86)).alloc (.cells #[hP, .pointer (some ⟨w.heap.size, 0, none⟩), .int .u64 150] 86)) (by rw [World.cell?_alloc_lt _ _ ⟨w.heap.size, 0, none⟩ (by simp; omega)]; simp)
  have st := rl_setF tb (w.heap.size + 1 + 1 + 1) x y (.int .i64 a) (.int .i64 c) (asW w ⟨tb, 0, none⟩ a c) rfl rfl (Bk.newAt _ _ (by simp)) ht4
  unfold asW at st ⊢
  clear ht ht1 ht2 ht3 ht4 hw
  go_enter Tryz.func30, Tryz.ntmps30
  go_wp2
  refine wp_loop_rounds 1 ?_
  rw [rounds_succ]
  go_wp2
  go_ret
  exact ⟨rfl, rfl⟩
end Go.Proofs.YtkflcmengddijaaGreatDoor
