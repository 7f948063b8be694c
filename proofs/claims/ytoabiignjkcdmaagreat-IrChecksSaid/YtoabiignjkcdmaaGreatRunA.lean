/-
  What is made of two numbers: word.Op, walked; alu.
-/
import Derived.Test.YtoabiignjkcdmaaGreatRunO1
import Derived.Test.YtoabiignjkcdmaaGreatShelfM
import Derived.Laws.Closers25b
namespace Go.Proofs.YtoabiignjkcdmaaGreat
open Go.RowKit
set_option linter.unusedVariables false
set_option linter.unusedSimpArgs false

theorem u64_wrap_range (n : Int) : 0 ≤ IntKind.u64.wrap n ∧ IntKind.u64.wrap n < 18446744073709551616 := by
  have := wrap_within .u64 n
  simp [IntKind.min, IntKind.max, IntKind.signed, IntKind.bits] at this
  omega
theorem u64_bits_range (op : BinOp) (a b : Int) : 0 ≤ bits op .u64 a b ∧ bits op .u64 a b < 18446744073709551616 := by
  have := bits_within op .u64 a b
  simp [IntKind.min, IntKind.max, IntKind.signed, IntKind.bits] at this
  omega
theorem div_pow_range {a : Int} (h0 : 0 ≤ a) (h1 : a < 18446744073709551616) (n : Nat) : 0 ≤ a / 2 ^ n ∧ a / 2 ^ n < 18446744073709551616 := by
  have hp : (0 : Int) < 2 ^ n := Int.pow_pos (by decide)
  exact ⟨Int.ediv_nonneg h0 (by omega), Int.lt_of_le_of_lt (Int.ediv_le_self _ h0) h1⟩
theorem aluP_range (fn a b : Int) (a0 : 0 ≤ a) (a1 : a < 18446744073709551616) (b0 : 0 ≤ b) (b1 : b < 18446744073709551616) : 0 ≤ aluP fn a b ∧ aluP fn a b < 18446744073709551616 := by
  unfold aluP
  by_cases e1 : fn = 1
  · rw [if_pos e1]; exact u64_wrap_range _
  rw [if_neg e1]
  by_cases e2 : fn = 2
  · rw [if_pos e2]; exact u64_wrap_range _
  rw [if_neg e2]
  by_cases e3 : fn = 3
  · rw [if_pos e3]; exact u64_wrap_range _
  rw [if_neg e3]
  by_cases e4 : fn = 4
  · rw [if_pos e4]; by_cases h : wrap64 a < wrap64 b
    · rw [if_pos h]; omega
    · rw [if_neg h]; omega
  rw [if_neg e4]
  by_cases e5 : fn = 5
  · rw [if_pos e5]; by_cases h : a < b
    · rw [if_pos h]; omega
    · rw [if_neg h]; omega
  rw [if_neg e5]
  by_cases e6 : fn = 6
  · rw [if_pos e6]; exact u64_bits_range _ _ _
  rw [if_neg e6]
  by_cases e7 : fn = 7
  · rw [if_pos e7]; exact div_pow_range a0 a1 _
  rw [if_neg e7]
  by_cases e8 : fn = 8
  · rw [if_pos e8]; exact u64_wrap_range _
  rw [if_neg e8]
  by_cases e9 : fn = 9
  · rw [if_pos e9]; exact u64_bits_range _ _ _
  rw [if_neg e9]
  by_cases e10 : fn = 10
  · rw [if_pos e10]; exact u64_bits_range _ _ _
  rw [if_neg e10]
  by_cases e11 : fn = 11
  · rw [if_pos e11]; exact u64_wrap_range _
  rw [if_neg e11]
  by_cases e12 : fn = 12
  · rw [if_pos e12]
    have : a.toNat * b.toNat / 18446744073709551616 < 18446744073709551616 := by
      refine Nat.div_lt_of_lt_mul ?_
      exact Nat.mul_lt_mul'' (by omega) (by omega)
    omega
  rw [if_neg e12]
  by_cases e13 : fn = 13
  · rw [if_pos e13]; by_cases h : b = 0
    · rw [if_pos h]; omega
    · rw [if_neg h]; exact ⟨Int.ediv_nonneg a0 b0, Int.lt_of_le_of_lt (Int.ediv_le_self _ a0) a1⟩
  rw [if_neg e13]
  by_cases e14 : fn = 14
  · rw [if_pos e14]; by_cases h : b = 0
    · rw [if_pos h]; omega
    · rw [if_neg h]
      have := Int.emod_nonneg a h
      have := Int.emod_lt_of_pos a (show 0 < b by omega)
      omega
  rw [if_neg e14]
  omega

abbrev aluTab : Array Value := #[.nilFunc, .func (.func 121) #[] #[], .func (.func 122) #[] #[], .func (.func 123) #[] #[], .func (.func 124) #[] #[], .func (.func 125) #[] #[], .func (.func 127) #[] #[], .func (.func 128) #[] #[], .func (.func 129) #[] #[], .func (.func 130) #[] #[], .func (.func 131) #[] #[], .func (.func 132) #[] #[], .func (.func 133) #[] #[], .func (.func 134) #[] #[], .func (.func 135) #[] #[]]
set_option maxRecDepth 100000 in
set_option maxHeartbeats 1000000 in
theorem table_c (w : World) : Calls Tryz.prog 108 #[] w fun e w' => e = .returned (.agg aluTab) ∧ Below w.heap.size w w' := by
  go_enter Tryz.func108, Tryz.ntmps108
  go_wp2_with (first
    | (with_reducible refine wpList_store_new rfl _ _ _ rfl (Array.replicate 15 .nilFunc) aluTab w rfl rfl (by kernel_rfl) (by kernel_rfl) (by kernel_rfl) rfl ?_))
  refine bodyPost_ret (v := .agg aluTab) ?_ rfl ⟨rfl, (Below.refl _ _).alloc (Nat.le_refl _) _⟩
  exact results_cell_row rfl _ _ w.heap.size 156 _ (0, 0) (.array 15 155) rfl (heap_alloc_last _ _) (by kernel_rfl) rfl (by kernel_rfl)
set_option maxRecDepth 100000 in
theorem alu1_c (a b : Int) (a0 : 0 ≤ a) (a1 : a < 18446744073709551616) (b0 : 0 ≤ b) (b1 : b < 18446744073709551616) (w : World) : Calls Tryz.prog 121 #[.int .u64 a, .int .u64 b] w fun e w' => e = .returned (.int .u64 (aluP 1 a b)) ∧ w' = w := by
  go_enter Tryz.func121, Tryz.ntmps121
  go_wp2
  go_ret
  exact ⟨rfl, rfl⟩
set_option maxRecDepth 100000 in
theorem alu2_c (a b : Int) (a0 : 0 ≤ a) (a1 : a < 18446744073709551616) (b0 : 0 ≤ b) (b1 : b < 18446744073709551616) (w : World) : Calls Tryz.prog 122 #[.int .u64 a, .int .u64 b] w fun e w' => e = .returned (.int .u64 (aluP 2 a b)) ∧ w' = w := by
  go_enter Tryz.func122, Tryz.ntmps122
  go_wp2
  go_ret
  exact ⟨rfl, rfl⟩
set_option maxRecDepth 100000 in
theorem alu3_c (a b : Int) (a0 : 0 ≤ a) (a1 : a < 18446744073709551616) (b0 : 0 ≤ b) (b1 : b < 18446744073709551616) (w : World) : Calls Tryz.prog 123 #[.int .u64 a, .int .u64 b] w fun e w' => e = .returned (.int .u64 (aluP 3 a b)) ∧ w' = w := by
  go_enter Tryz.func123, Tryz.ntmps123
  go_wp2
  go_ret
  exact ⟨rfl, rfl⟩
set_option maxRecDepth 100000 in
theorem alu4_c (a b : Int) (a0 : 0 ≤ a) (a1 : a < 18446744073709551616) (b0 : 0 ≤ b) (b1 : b < 18446744073709551616) (w : World) : Calls Tryz.prog 124 #[.int .u64 a, .int .u64 b] w fun e w' => e = .returned (.int .u64 (aluP 4 a b)) ∧ w' = w := by
  by_cases hb : wrap64 a < wrap64 b
  · have e : aluP 4 a b = 1 := by unfold aluP; simp [hb]
    rw [e]
    go_enter Tryz.func124, Tryz.ntmps124
    go_wp2
    go_ret
    exact ⟨rfl, rfl⟩
  · have e : aluP 4 a b = 0 := by unfold aluP; simp [hb]
    rw [e]
    go_enter Tryz.func124, Tryz.ntmps124
    go_wp2
    go_ret
    exact ⟨rfl, rfl⟩
set_option maxRecDepth 100000 in
theorem alu5_c (a b : Int) (a0 : 0 ≤ a) (a1 : a < 18446744073709551616) (b0 : 0 ≤ b) (b1 : b < 18446744073709551616) (w : World) : Calls Tryz.prog 125 #[.int .u64 a, .int .u64 b] w fun e w' => e = .returned (.int .u64 (aluP 5 a b)) ∧ w' = w := by
  by_cases hb : a < b
  · have e : aluP 5 a b = 1 := by unfold aluP; simp [hb]
    rw [e]
    go_enter Tryz.func125, Tryz.ntmps125
    go_wp2
    go_ret
    exact ⟨rfl, rfl⟩
  · have e : aluP 5 a b = 0 := by unfold aluP; simp [hb]
    rw [e]
    go_enter Tryz.func125, Tryz.ntmps125
    go_wp2
    go_ret
    exact ⟨rfl, rfl⟩
set_option maxRecDepth 100000 in
theorem alu6_c (a b : Int) (a0 : 0 ≤ a) (a1 : a < 18446744073709551616) (b0 : 0 ≤ b) (b1 : b < 18446744073709551616) (w : World) : Calls Tryz.prog 127 #[.int .u64 a, .int .u64 b] w fun e w' => e = .returned (.int .u64 (aluP 6 a b)) ∧ w' = w := by
  go_enter Tryz.func127, Tryz.ntmps127
  go_wp2
  go_ret
  exact ⟨rfl, rfl⟩
set_option maxRecDepth 100000 in
theorem alu7_c (a b : Int) (a0 : 0 ≤ a) (a1 : a < 18446744073709551616) (b0 : 0 ≤ b) (b1 : b < 18446744073709551616) (w : World) : Calls Tryz.prog 128 #[.int .u64 a, .int .u64 b] w fun e w' => e = .returned (.int .u64 (aluP 7 a b)) ∧ w' = w := by
  go_enter Tryz.func128, Tryz.ntmps128
  go_wp2
  go_ret
  exact ⟨rfl, rfl⟩
set_option maxRecDepth 100000 in
theorem alu8_c (a b : Int) (a0 : 0 ≤ a) (a1 : a < 18446744073709551616) (b0 : 0 ≤ b) (b1 : b < 18446744073709551616) (w : World) : Calls Tryz.prog 129 #[.int .u64 a, .int .u64 b] w fun e w' => e = .returned (.int .u64 (aluP 8 a b)) ∧ w' = w := by
  go_enter Tryz.func129, Tryz.ntmps129
  go_wp2
  go_ret
  exact ⟨rfl, rfl⟩
set_option maxRecDepth 100000 in
theorem alu9_c (a b : Int) (a0 : 0 ≤ a) (a1 : a < 18446744073709551616) (b0 : 0 ≤ b) (b1 : b < 18446744073709551616) (w : World) : Calls Tryz.prog 130 #[.int .u64 a, .int .u64 b] w fun e w' => e = .returned (.int .u64 (aluP 9 a b)) ∧ w' = w := by
  go_enter Tryz.func130, Tryz.ntmps130
  go_wp2
  go_ret
  exact ⟨rfl, rfl⟩
set_option maxRecDepth 100000 in
theorem alu10_c (a b : Int) (a0 : 0 ≤ a) (a1 : a < 18446744073709551616) (b0 : 0 ≤ b) (b1 : b < 18446744073709551616) (w : World) : Calls Tryz.prog 131 #[.int .u64 a, .int .u64 b] w fun e w' => e = .returned (.int .u64 (aluP 10 a b)) ∧ w' = w := by
  go_enter Tryz.func131, Tryz.ntmps131
  go_wp2
  go_ret
  exact ⟨rfl, rfl⟩
set_option maxRecDepth 100000 in
theorem alu11_c (a b : Int) (a0 : 0 ≤ a) (a1 : a < 18446744073709551616) (b0 : 0 ≤ b) (b1 : b < 18446744073709551616) (w : World) : Calls Tryz.prog 132 #[.int .u64 a, .int .u64 b] w fun e w' => e = .returned (.int .u64 (aluP 11 a b)) ∧ w' = w := by
  go_enter Tryz.func132, Tryz.ntmps132
  go_wp2
  go_ret
  exact ⟨rfl, rfl⟩
set_option maxRecDepth 100000 in
theorem alu12_c (a b : Int) (a0 : 0 ≤ a) (a1 : a < 18446744073709551616) (b0 : 0 ≤ b) (b1 : b < 18446744073709551616) (w : World) : Calls Tryz.prog 133 #[.int .u64 a, .int .u64 b] w fun e w' => e = .returned (.int .u64 (aluP 12 a b)) ∧ w' = w := by
  have hM := Tryz.bits_Mul64 a.toNat b.toNat (by omega) (by omega) w
  rw [Int.toNat_of_nonneg a0, Int.toNat_of_nonneg b0] at hM
  have HM := Lib.hid hM
  clear hM
  go_enter Tryz.func133, Tryz.ntmps133
  go_wp2_with fail
  refine HM.out.mono ?_
  rintro e w' ⟨rfl, rfl⟩
  go_wp2_with fail
  go_ret
  refine ⟨ret_int ?_, rfl⟩
  unfold aluP
  simp [Int.max_eq_left a0, Int.max_eq_left b0]
set_option maxRecDepth 100000 in
theorem alu13_c (a b : Int) (a0 : 0 ≤ a) (a1 : a < 18446744073709551616) (b0 : 0 ≤ b) (b1 : b < 18446744073709551616) (w : World) : Calls Tryz.prog 134 #[.int .u64 a, .int .u64 b] w fun e w' => e = .returned (.int .u64 (aluP 13 a b)) ∧ w' = w := by
  by_cases hb : b = 0
  · subst hb
    go_enter Tryz.func134, Tryz.ntmps134
    go_wp2
    go_ret
    exact ⟨rfl, rfl⟩
  · have e : aluP 13 a b = a / b := by unfold aluP; simp [hb]
    rw [e]
    go_enter Tryz.func134, Tryz.ntmps134
    go_wp2
    go_ret
    exact ⟨rfl, rfl⟩
set_option maxRecDepth 100000 in
theorem alu14_c (a b : Int) (a0 : 0 ≤ a) (a1 : a < 18446744073709551616) (b0 : 0 ≤ b) (b1 : b < 18446744073709551616) (w : World) : Calls Tryz.prog 135 #[.int .u64 a, .int .u64 b] w fun e w' => e = .returned (.int .u64 (aluP 14 a b)) ∧ w' = w := by
  by_cases hb : b = 0
  · subst hb
    go_enter Tryz.func135, Tryz.ntmps135
    go_wp2
    go_ret
    exact ⟨rfl, rfl⟩
  · have e : aluP 14 a b = a % b := by unfold aluP; simp [hb]
    rw [e]
    go_enter Tryz.func135, Tryz.ntmps135
    go_wp2
    go_ret
    exact ⟨rfl, rfl⟩
/-- A call of this function is entered. -/
def Enters (f : FuncId) : Prop := ∀ (args : Array Value) (w : World), (callFunc f args).run Tryz.prog w = .ok (.enter f args) w
theorem enters_of {f : FuncId} {fn : Func} {c : Code} (hf : Tryz.prog.funcs[f]? = some fn) (hname : (fn.name == "runtime.NumGoroutine") = false) (hb : fn.body = some c) : Enters f := by
  intro args w
  have h1 : fn.name ≠ "runtime.NumGoroutine" := by simpa using hname
  simp [callFunc, hf, h1, hb]
set_option maxRecDepth 100000 in
set_option maxHeartbeats 4000000 in
theorem wordOp_c (fn a b : Int) (f0 : 1 ≤ fn) (f1 : fn ≤ 14) (a0 : 0 ≤ a) (a1 : a < 18446744073709551616) (b0 : 0 ≤ b) (b1 : b < 18446744073709551616) (w : World) :
    Calls Tryz.prog 75 #[.int .u8 fn, .int .u64 a, .int .u64 b] w fun e w' => e = .returned (.tuple #[.int .u64 (aluP fn a b), .int .i64 0]) ∧ Below w.heap.size w w' := by
  go_enter Tryz.func75, Tryz.ntmps75
  go_wp2_with fail
  refine (table_c w).mono ?_
  rintro e w1 ⟨rfl, hb1⟩
  have hb2 := hb1.alloc hb1.size (.cells aluTab 156)
  go_upto_region 2 with (first
    | (with_reducible refine wpList_store_new rfl _ _ _ rfl (Array.replicate 15 .nilFunc) aluTab w1 rfl rfl (by kernel_rfl) (by kernel_rfl) (by kernel_rfl) rfl ?_))
  have B2 := Bk.new w1 aluTab 156
  obtain ⟨W, hW⟩ : ∃ W, W = w1.alloc (.cells aluTab 156) := ⟨_, rfl⟩
  rw [← hW] at hb2 B2 ⊢
  clear hW
  have C2 := B2.cell
  have h14 : fn = 1 ∨ fn = 2 ∨ fn = 3 ∨ fn = 4 ∨ fn = 5 ∨ fn = 6 ∨ fn = 7 ∨ fn = 8 ∨ fn = 9 ∨ fn = 10 ∨ fn = 11 ∨ fn = 12 ∨ fn = 13 ∨ fn = 14 := by omega
  obtain ⟨gf, ck, hEn, HC⟩ : ∃ gf : Nat, W.cell? ⟨w1.heap.size, fn.toNat, none⟩ = some (.func (.func gf) #[] #[]) ∧ Enters gf ∧ Calls Tryz.prog gf #[.int .u64 a, .int .u64 b] W (fun e w' => e = .returned (.int .u64 (aluP fn a b)) ∧ w' = W) := by
    rcases h14 with rfl | rfl | rfl | rfl | rfl | rfl | rfl | rfl | rfl | rfl | rfl | rfl | rfl | rfl
    · exact ⟨_, C2 1, enters_of Tryz.func121 (by kernel_rfl) rfl, alu1_c a b a0 a1 b0 b1 W⟩
    · exact ⟨_, C2 2, enters_of Tryz.func122 (by kernel_rfl) rfl, alu2_c a b a0 a1 b0 b1 W⟩
    · exact ⟨_, C2 3, enters_of Tryz.func123 (by kernel_rfl) rfl, alu3_c a b a0 a1 b0 b1 W⟩
    · exact ⟨_, C2 4, enters_of Tryz.func124 (by kernel_rfl) rfl, alu4_c a b a0 a1 b0 b1 W⟩
    · exact ⟨_, C2 5, enters_of Tryz.func125 (by kernel_rfl) rfl, alu5_c a b a0 a1 b0 b1 W⟩
    · exact ⟨_, C2 6, enters_of Tryz.func127 (by kernel_rfl) rfl, alu6_c a b a0 a1 b0 b1 W⟩
    · exact ⟨_, C2 7, enters_of Tryz.func128 (by kernel_rfl) rfl, alu7_c a b a0 a1 b0 b1 W⟩
    · exact ⟨_, C2 8, enters_of Tryz.func129 (by kernel_rfl) rfl, alu8_c a b a0 a1 b0 b1 W⟩
    · exact ⟨_, C2 9, enters_of Tryz.func130 (by kernel_rfl) rfl, alu9_c a b a0 a1 b0 b1 W⟩
    · exact ⟨_, C2 10, enters_of Tryz.func131 (by kernel_rfl) rfl, alu10_c a b a0 a1 b0 b1 W⟩
    · exact ⟨_, C2 11, enters_of Tryz.func132 (by kernel_rfl) rfl, alu11_c a b a0 a1 b0 b1 W⟩
    · exact ⟨_, C2 12, enters_of Tryz.func133 (by kernel_rfl) rfl, alu12_c a b a0 a1 b0 b1 W⟩
    · exact ⟨_, C2 13, enters_of Tryz.func134 (by kernel_rfl) rfl, alu13_c a b a0 a1 b0 b1 W⟩
    · exact ⟨_, C2 14, enters_of Tryz.func135 (by kernel_rfl) rfl, alu14_c a b a0 a1 b0 b1 W⟩
  have HG := Lib.hid HC
  clear HC C2 B2 h14
  have f15 : fn < 15 := by omega
  have hEn' : ∀ (args : Array Value) (w : World), (callFunc gf args).run Tryz.prog w = .ok (.enter gf args) w := hEn
  have ne : ∀ (g : Nat) (w : World), (binOp .eql 153 (.func (.func g) #[] #[]) .nilFunc).run Tryz.prog w = .ok (.bool false) w := fun _ _ => rfl
  have ng : ∀ (g : Nat) (x y : Operand) (w : World), (eqGuard .eql 153 x y (.func (.func g) #[] #[]) .nilFunc).run Tryz.prog w = .ok () w := fun _ _ _ _ => rfl
  have ff0 : 0 ≤ fn := by omega
  go_wp2_with fail
  refine HG.out.mono ?_
  rintro e w3 ⟨rfl, rfl⟩
  go_wp2_with fail
  go_ret2
  exact ⟨rfl, hb2⟩
theorem keep_set {w : World} {g i b j : Nat} {x v : Value} (hne : b ≠ g) (h : w.cell? ⟨b, j, none⟩ = some v) : (w.setCell ⟨g, i, none⟩ x).cell? ⟨b, j, none⟩ = some v :=
  (World.cell?_setCell_other w ⟨g, i, none⟩ ⟨b, j, none⟩ x (fun e => hne (by injection e with e; exact e.symm))).trans h
end Go.Proofs.YtoabiignjkcdmaaGreat
