/-
  expr.may, all ways joined; expr.Check.
-/
import Derived.Test.YtkflcmengddijaaGreatDoorExMay2
namespace Go.Proofs.YtkflcmengddijaaGreatDoor
open Go.RowKit Lx
set_option linter.unusedVariables false
set_option linter.unusedSimpArgs false

set_option maxRecDepth 100000 in
theorem may_deep (d : Nat) (hd : (40 : Int) < (d : Int)) (hd2 : (d : Int) ≤ 1000) (k num op : Int) (name : ByteArray) (n : Nat) (K : Option Addr) (c : Nat) (w : World) :
    Calls Tryz.prog 40 #[.agg #[.int .u8 k, .int .u64 num, .string name, .int .u8 op, .slice K n c], .int .i64 d] w fun e w' => e = .returned (.bool false) ∧ Below w.heap.size w w' := by
  have hb0 := (((Below.refl w.heap.size w).alloc (Nat.le_refl _) (.cells #[.int .u8 k, .int .u64 num, .string name, .int .u8 op, .slice K n c] 40)).alloc (by simp) (.cells #[.int .i64 d] 3))
  go_enter Tryz.func40, Tryz.ntmps40
  go_wp2_with fail
  go_ret
  exact ⟨rfl, hb0⟩
set_option maxRecDepth 100000 in
theorem may_other (d : Nat) (hd : (d : Int) ≤ 40) (k num op : Int) (h1 : (k == 1) = false) (h2 : (k == 2) = false) (h3 : (k == 3) = false) (h4 : (k == 4) = false) (h5 : (k == 5) = false) (name : ByteArray) (n : Nat) (K : Option Addr) (c : Nat) (w : World) :
    Calls Tryz.prog 40 #[.agg #[.int .u8 k, .int .u64 num, .string name, .int .u8 op, .slice K n c], .int .i64 d] w fun e w' => e = .returned (.bool false) ∧ Below w.heap.size w w' := by
  have hb0 := (((Below.refl w.heap.size w).alloc (Nat.le_refl _) (.cells #[.int .u8 k, .int .u64 num, .string name, .int .u8 op, .slice K n c] 40)).alloc (by simp) (.cells #[.int .i64 d] 3))
  go_enter Tryz.func40, Tryz.ntmps40
  go_wp2_with fail
  go_ret
  exact ⟨rfl, hb0⟩

theorem name_no {s : ByteArray} (h : s.size = 0) : isName s.data.toList = false := by
  rw [← toList_data, nil_of_size h]; rfl
theorem may_c (x : Ex) : MayOf x := by
  refine Ex.ind (P := MayOf) (fun x ih => ?_) x
  obtain ⟨k, num, name, op, kids⟩ := x
  intro d K c w hd hm hr
  simp only [Ex.k, Ex.num, Ex.name, Ex.op, Ex.kids] at *
  have fin : ∀ v : Bool, mayB (.mk k num name op kids) d = v → (Calls Tryz.prog 40 #[.agg #[.int .u8 k, .int .u64 num, .string name, .int .u8 op, .slice K kids.length c], .int .i64 d] w fun e w' => e = .returned (.bool v) ∧ Below w.heap.size w w') →
      Calls Tryz.prog 40 #[.agg #[.int .u8 k, .int .u64 num, .string name, .int .u8 op, .slice K kids.length c], .int .i64 d] w fun e w' => e = .returned (.bool (mayB (.mk k num name op kids) d)) ∧ Below w.heap.size w w' := by
    rintro v rfl h; exact h
  by_cases hd4 : d ≤ 40
  case neg =>
    exact fin false (by rw [mayB_eq]; simp [hd4]) (may_deep d (by omega) (by omega) k num op name _ K c w)
  have hdi : (d : Int) ≤ 40 := by omega
  have hall : mayB (.mk k num name op kids) d = (shapeB (.mk k num name op kids) && kids.all fun y => mayB y (d + 1)) := by rw [mayB_eq]; simp [hd4, Ex.kids]
  have hno : shapeB (.mk k num name op kids) = false → mayB (.mk k num name op kids) d = false := by intro h; rw [hall, h]; rfl
  have hyes : shapeB (.mk k num name op kids) = true → mayB (.mk k num name op kids) d = (!(!kids.all fun y => mayB y (d + 1))) := by intro h; rw [hall, h]; simp
  have hC : ∀ (k num op : Int) W, Below w.heap.size w W → Below (w.heap.size + 2) ((w.alloc (.cells #[.int .u8 k, .int .u64 num, .string name, .int .u8 op, .slice K kids.length c] 40)).alloc (.cells #[.int .i64 d] 3)) W →
      Calls Tryz.prog 62 #[.slice K kids.length c, .func (.func 63) #[] #[.pointer (some ⟨w.heap.size + 1, 0, none⟩)]] W fun e w' => e = .returned (.bool (!kids.all (fun x => mayB x (d + 1)))) ∧ Below W.heap.size W w' := by
    intro k num op W h1 h2
    exact containsEx_c kids ih d (by omega) W (w.heap.size + 1) ((Bk.newAt _ _ (by simp)).monoB h2 (by omega)) (hr.mono h1) hm
  by_cases k1 : k = 1
  · subst k1
    by_cases hn : kids.length = 0
    case neg => exact fin false (hno (by simp [shapeB, Ex.k, Ex.name, Ex.op, Ex.kids, nameB, Ex.num, hn])) (may_k1_len d hdi _ _ _ _ (by omega) K c w)
    by_cases hnm : name.size = 0
    case neg => exact fin false (hno (by simp [shapeB, Ex.k, Ex.name, Ex.op, Ex.kids, nameB, Ex.num, hnm])) (by rw [hn]; exact may_k1_name d hdi _ _ _ (by omega) K c w)
    by_cases hop : op = 0
    case neg => exact fin false (hno (by simp [shapeB, Ex.k, Ex.name, Ex.op, Ex.kids, nameB, Ex.num, hop])) (by rw [hn]; exact may_k1_op d hdi _ _ _ hnm hop K c w)
    subst hop
    refine fin _ (hyes (by simp [shapeB, Ex.k, Ex.name, Ex.op, Ex.kids, nameB, Ex.num, hnm, hn])) ?_
    have h := hC 1 num 0
    rw [hn] at h ⊢
    exact may_k1_ok d hdi _ _ hnm K c w _ h
  by_cases k2 : k = 2
  · subst k2
    by_cases hn : kids.length = 0
    case neg => exact fin false (hno (by simp [shapeB, Ex.k, Ex.name, Ex.op, Ex.kids, nameB, Ex.num, hn])) (may_k2_len d hdi _ _ _ _ (by omega) K c w)
    by_cases hnum : num = 0
    case neg => exact fin false (hno (by simp [shapeB, Ex.k, Ex.name, Ex.op, Ex.kids, nameB, Ex.num, hnum])) (by rw [hn]; exact may_k2_num d hdi _ _ _ hnum K c w)
    subst hnum
    by_cases hnm : name.size = 0
    case pos => exact fin false (hno (by simp [shapeB, Ex.k, Ex.name, Ex.op, Ex.kids, nameB, Ex.num, name_no hnm])) (by rw [hn]; exact may_k2_empty d hdi _ _ hnm K c w)
    cases hN : isName name.data.toList with
    | false => exact fin false (hno (by simp [shapeB, Ex.k, Ex.name, Ex.op, Ex.kids, nameB, Ex.num, hN])) (by rw [hn]; exact may_k2_bad d hdi _ _ (by omega) hN K c w)
    | true =>
    by_cases hop : op = 0
    case neg => exact fin false (hno (by simp [shapeB, Ex.k, Ex.name, Ex.op, Ex.kids, nameB, Ex.num, hop])) (by rw [hn]; exact may_k2_op d hdi _ _ (by omega) hN hop K c w)
    subst hop
    refine fin _ (hyes (by simp [shapeB, Ex.k, Ex.name, Ex.op, Ex.kids, nameB, Ex.num, hN, hn])) ?_
    have h := hC 2 0 0
    rw [hn] at h ⊢
    exact may_k2_ok d hdi _ (by omega) hN K c w _ h
  by_cases k4 : k = 4
  · subst k4
    by_cases hn : kids.length = 0
    case neg => exact fin false (hno (by simp [shapeB, Ex.k, Ex.name, Ex.op, Ex.kids, nameB, Ex.num, hn])) (may_k4_len d hdi _ _ _ _ (by omega) K c w)
    by_cases hnum : num = 0
    case neg => exact fin false (hno (by simp [shapeB, Ex.k, Ex.name, Ex.op, Ex.kids, nameB, Ex.num, hnum])) (by rw [hn]; exact may_k4_num d hdi _ _ _ hnum K c w)
    subst hnum
    by_cases hnm : name.size = 0
    case pos => exact fin false (hno (by simp [shapeB, Ex.k, Ex.name, Ex.op, Ex.kids, nameB, Ex.num, name_no hnm])) (by rw [hn]; exact may_k4_empty d hdi _ _ hnm K c w)
    cases hN : isName name.data.toList with
    | false => exact fin false (hno (by simp [shapeB, Ex.k, Ex.name, Ex.op, Ex.kids, nameB, Ex.num, hN])) (by rw [hn]; exact may_k4_bad d hdi _ _ (by omega) hN K c w)
    | true =>
    by_cases hop : op = 0
    case neg => exact fin false (hno (by simp [shapeB, Ex.k, Ex.name, Ex.op, Ex.kids, nameB, Ex.num, hop])) (by rw [hn]; exact may_k4_op d hdi _ _ (by omega) hN hop K c w)
    subst hop
    refine fin _ (hyes (by simp [shapeB, Ex.k, Ex.name, Ex.op, Ex.kids, nameB, Ex.num, hN, hn])) ?_
    have h := hC 4 0 0
    rw [hn] at h ⊢
    exact may_k4_ok d hdi _ (by omega) hN K c w _ h
  by_cases k5 : k = 5
  · subst k5
    by_cases hn : kids.length = 1
    case neg => exact fin false (hno (by simp [shapeB, Ex.k, Ex.name, Ex.op, Ex.kids, nameB, Ex.num, hn])) (may_k5_len d hdi _ _ _ _ (by omega) K c w)
    by_cases hnum : num = 0
    case neg => exact fin false (hno (by simp [shapeB, Ex.k, Ex.name, Ex.op, Ex.kids, nameB, Ex.num, hnum])) (by rw [hn]; exact may_k5_num d hdi _ _ _ hnum K c w)
    subst hnum
    by_cases hnm : name.size = 0
    case pos => exact fin false (hno (by simp [shapeB, Ex.k, Ex.name, Ex.op, Ex.kids, nameB, Ex.num, name_no hnm])) (by rw [hn]; exact may_k5_empty d hdi _ _ hnm K c w)
    cases hN : isName name.data.toList with
    | false => exact fin false (hno (by simp [shapeB, Ex.k, Ex.name, Ex.op, Ex.kids, nameB, Ex.num, hN])) (by rw [hn]; exact may_k5_bad d hdi _ _ (by omega) hN K c w)
    | true =>
    by_cases hop : op = 0
    case neg => exact fin false (hno (by simp [shapeB, Ex.k, Ex.name, Ex.op, Ex.kids, nameB, Ex.num, hop])) (by rw [hn]; exact may_k5_op d hdi _ _ (by omega) hN hop K c w)
    subst hop
    refine fin _ (hyes (by simp [shapeB, Ex.k, Ex.name, Ex.op, Ex.kids, nameB, Ex.num, hN, hn])) ?_
    have h := hC 5 0 0
    rw [hn] at h ⊢
    exact may_k5_ok d hdi _ (by omega) hN K c w _ h
  by_cases k3 : k = 3
  · subst k3
    by_cases hn : kids.length = 2
    case neg => exact fin false (hno (by simp [shapeB, Ex.k, Ex.name, Ex.op, Ex.kids, nameB, Ex.num, hn])) (may_k3_len d hdi _ _ _ _ (by omega) K c w)
    by_cases hnum : num = 0
    case neg => exact fin false (hno (by simp [shapeB, Ex.k, Ex.name, Ex.op, Ex.kids, nameB, Ex.num, hnum])) (by rw [hn]; exact may_k3_num d hdi _ _ _ hnum K c w)
    subst hnum
    by_cases hnm : name.size = 0
    case neg => exact fin false (hno (by simp [shapeB, Ex.k, Ex.name, Ex.op, Ex.kids, nameB, Ex.num, hnm])) (by rw [hn]; exact may_k3_name d hdi _ _ (by omega) K c w)
    by_cases hop1 : op < 1
    case pos => exact fin false (hno (by unfold shapeB; rw [if_neg (by simp [Ex.k]), if_neg (by simp [Ex.k]), if_pos (by rfl)]; have h9 : decide (1 ≤ (Ex.mk 3 0 name op kids).op) = false := decide_eq_false (by simp only [Ex.op]; omega); rw [h9]; simp)) (by rw [hn]; exact may_k3_op1 d hdi _ _ hnm hop1 K c w)
    by_cases hop : 14 < op
    case pos => exact fin false (hno (by unfold shapeB; rw [if_neg (by simp [Ex.k]), if_neg (by simp [Ex.k]), if_pos (by rfl)]; have h9 : decide ((Ex.mk 3 0 name op kids).op ≤ 14) = false := decide_eq_false (by simp only [Ex.op]; omega); rw [h9]; simp)) (by rw [hn]; exact may_k3_op2 d hdi _ _ hnm (by omega) hop K c w)
    refine fin _ (hyes (by simp [shapeB, Ex.k, Ex.name, Ex.op, Ex.kids, nameB, Ex.num, hnm, hn, Int.not_lt.1 hop1, Int.not_lt.1 hop])) ?_
    have h := hC 3 0 op
    rw [hn] at h ⊢
    exact may_k3_ok d hdi _ _ hnm (by omega) (by omega) K c w _ h
  refine fin false (hno (by simp [shapeB, Ex.k, k1, k2, k3, k4, k5])) (may_other d hdi k num op ?_ ?_ ?_ ?_ ?_ name _ K c w) <;> simp [k1, k2, k3, k4, k5]

set_option maxRecDepth 100000 in
theorem check_c' (x : Ex) (K : Option Addr) (c : Nat) (w : World) (hm : x.kids.length ≤ maxLen) (hr : kEx.Row w K x.kids) (b : Bool) (hb : mayB x 1 = b) :
    Calls Tryz.prog 17 #[.agg #[.int .u8 x.k, .int .u64 x.num, .string x.name, .int .u8 x.op, .slice K x.kids.length c]] w fun e w' => e = .returned (.int .i64 (if b then 0 else 2)) ∧ Below w.heap.size w w' := by
  have hb0 := (Below.refl w.heap.size w).alloc (Nat.le_refl _) (.cells #[.int .u8 x.k, .int .u64 x.num, .string x.name, .int .u8 x.op, .slice K x.kids.length c] 40)
  have hM : ∀ W, Below w.heap.size w W → Calls Tryz.prog 40 #[.agg #[.int .u8 x.k, .int .u64 x.num, .string x.name, .int .u8 x.op, .slice K x.kids.length c], .int .i64 1] W fun e w' => e = .returned (.bool b) ∧ Below W.heap.size W w' := by
    intro W h
    have := may_c x 1 K c W (by omega) hm (hr.mono h)
    rw [hb] at this
    exact this
  have HM := Lib.hid (hM _ hb0)
  clear hM hb
  cases b with
  | true =>
    go_enter Tryz.func17, Tryz.ntmps17
    go_wp2_with (go_at_call 40; refine HM.out.mono ?_; rintro e w1 ⟨rfl, hb1⟩)
    go_ret
    exact ⟨rfl, bt hb0 hb1⟩
  | false =>
    go_enter Tryz.func17, Tryz.ntmps17
    go_wp2_with (go_at_call 40; refine HM.out.mono ?_; rintro e w1 ⟨rfl, hb1⟩)
    go_ret
    exact ⟨rfl, bt hb0 hb1⟩
end Go.Proofs.YtkflcmengddijaaGreatDoor
