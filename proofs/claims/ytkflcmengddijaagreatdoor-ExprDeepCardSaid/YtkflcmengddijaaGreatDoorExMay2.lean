/-
  expr.may walked, way by way; expr.Check.
-/
import Derived.Test.YtkflcmengddijaaGreatDoorExMay
namespace Go.Proofs.YtkflcmengddijaaGreatDoor
open Go.RowKit Lx
set_option linter.unusedVariables false
set_option linter.unusedSimpArgs false

set_option maxRecDepth 100000 in
set_option maxHeartbeats 1000000 in
theorem may_k1_len (d : Nat) (hd : (d : Int) ≤ 40) (num op : Int) (name : ByteArray) (n : Nat) (hn : ¬ (n : Int) = 0) (K : Option Addr) (c : Nat) (w : World) :
    Calls Tryz.prog 40 #[.agg #[.int .u8 1, .int .u64 num, .string name, .int .u8 op, .slice K n c], .int .i64 d] w fun e w' => e = .returned (.bool false) ∧ Below w.heap.size w w' := by
  have hb0 := (((Below.refl w.heap.size w).alloc (Nat.le_refl _) (.cells #[.int .u8 1, .int .u64 num, .string name, .int .u8 op, .slice K n c] 40)).alloc (by simp) (.cells #[.int .i64 d] 3))
  have q1n : (((n : Nat) : Int) == 0) = false := by simpa using hn
  have q2n : (((n : Nat) : Int) != 0) = true := by simpa using hn
  go_enter Tryz.func40, Tryz.ntmps40
  go_wp2_with (first
    | fail)
  go_ret
  exact ⟨rfl, hb0⟩

set_option maxRecDepth 100000 in
set_option maxHeartbeats 1000000 in
theorem may_k1_name (d : Nat) (hd : (d : Int) ≤ 40) (num op : Int) (name : ByteArray) (hnm : 0 < name.size) (K : Option Addr) (c : Nat) (w : World) :
    Calls Tryz.prog 40 #[.agg #[.int .u8 1, .int .u64 num, .string name, .int .u8 op, .slice K 0 c], .int .i64 d] w fun e w' => e = .returned (.bool false) ∧ Below w.heap.size w w' := by
  have hb0 := (((Below.refl w.heap.size w).alloc (Nat.le_refl _) (.cells #[.int .u8 1, .int .u64 num, .string name, .int .u8 op, .slice K 0 c] 40)).alloc (by simp) (.cells #[.int .i64 d] 3))
  have e1 : ¬ name.toList = [] := ne_of_size hnm
  have e2 : name.toList.isEmpty = false := nem_of_size hnm
  have e3 : (name.toList == []) = false := by simpa using e1
  go_enter Tryz.func40, Tryz.ntmps40
  go_wp2_with (first
    | fail)
  go_ret
  exact ⟨rfl, hb0⟩

set_option maxRecDepth 100000 in
set_option maxHeartbeats 1000000 in
theorem may_k1_op (d : Nat) (hd : (d : Int) ≤ 40) (num op : Int) (name : ByteArray) (hnm : name.size = 0) (hop : ¬ op = 0) (K : Option Addr) (c : Nat) (w : World) :
    Calls Tryz.prog 40 #[.agg #[.int .u8 1, .int .u64 num, .string name, .int .u8 op, .slice K 0 c], .int .i64 d] w fun e w' => e = .returned (.bool false) ∧ Below w.heap.size w w' := by
  have hb0 := (((Below.refl w.heap.size w).alloc (Nat.le_refl _) (.cells #[.int .u8 1, .int .u64 num, .string name, .int .u8 op, .slice K 0 c] 40)).alloc (by simp) (.cells #[.int .i64 d] 3))
  have e1 : name.toList = [] := nil_of_size hnm
  have e2 : name.toList.isEmpty = true := emp_of_size hnm
  have q1op : ((op : Int) == 0) = false := by simpa using hop
  have q2op : ((op : Int) != 0) = true := by simpa using hop
  go_enter Tryz.func40, Tryz.ntmps40
  go_wp2_with (first
    | fail)
  go_ret
  exact ⟨rfl, hb0⟩

set_option maxRecDepth 100000 in
set_option maxHeartbeats 1000000 in
theorem may_k1_ok (d : Nat) (hd : (d : Int) ≤ 40) (num : Int) (name : ByteArray) (hnm : name.size = 0) (K : Option Addr) (c : Nat) (w : World) (b : Bool) (hC : ∀ W, Below w.heap.size w W → Below (w.heap.size + 2) ((w.alloc (.cells #[.int .u8 1, .int .u64 num, .string name, .int .u8 0, .slice K 0 c] 40)).alloc (.cells #[.int .i64 d] 3)) W → Calls Tryz.prog 62 #[.slice K 0 c, .func (.func 63) #[] #[.pointer (some ⟨w.heap.size + 1, 0, none⟩)]] W fun e w' => e = .returned (.bool b) ∧ Below W.heap.size W w') :
    Calls Tryz.prog 40 #[.agg #[.int .u8 1, .int .u64 num, .string name, .int .u8 0, .slice K 0 c], .int .i64 d] w fun e w' => e = .returned (.bool (!b)) ∧ Below w.heap.size w w' := by
  have hb0 := (((Below.refl w.heap.size w).alloc (Nat.le_refl _) (.cells #[.int .u8 1, .int .u64 num, .string name, .int .u8 0, .slice K 0 c] 40)).alloc (by simp) (.cells #[.int .i64 d] 3))
  have e1 : name.toList = [] := nil_of_size hnm
  have e2 : name.toList.isEmpty = true := emp_of_size hnm
  have HC := hC _ hb0 (Below.refl _ _)
  have HCC := Lib.hid HC
  clear HC hC
  go_enter Tryz.func40, Tryz.ntmps40
  go_wp2_with (first
    | (go_at_call 62; refine HCC.out.mono ?_; rintro e w1 ⟨rfl, hb⟩)
    | fail)
  go_ret
  exact ⟨rfl, bt hb0 hb⟩

set_option maxRecDepth 100000 in
set_option maxHeartbeats 1000000 in
theorem may_k2_len (d : Nat) (hd : (d : Int) ≤ 40) (num op : Int) (name : ByteArray) (n : Nat) (hn : ¬ (n : Int) = 0) (K : Option Addr) (c : Nat) (w : World) :
    Calls Tryz.prog 40 #[.agg #[.int .u8 2, .int .u64 num, .string name, .int .u8 op, .slice K n c], .int .i64 d] w fun e w' => e = .returned (.bool false) ∧ Below w.heap.size w w' := by
  have hb0 := (((Below.refl w.heap.size w).alloc (Nat.le_refl _) (.cells #[.int .u8 2, .int .u64 num, .string name, .int .u8 op, .slice K n c] 40)).alloc (by simp) (.cells #[.int .i64 d] 3))
  have q1n : (((n : Nat) : Int) == 0) = false := by simpa using hn
  have q2n : (((n : Nat) : Int) != 0) = true := by simpa using hn
  go_enter Tryz.func40, Tryz.ntmps40
  go_wp2_with (first
    | fail)
  go_ret
  exact ⟨rfl, hb0⟩

set_option maxRecDepth 100000 in
set_option maxHeartbeats 1000000 in
theorem may_k2_num (d : Nat) (hd : (d : Int) ≤ 40) (num op : Int) (name : ByteArray) (hnum : ¬ num = 0) (K : Option Addr) (c : Nat) (w : World) :
    Calls Tryz.prog 40 #[.agg #[.int .u8 2, .int .u64 num, .string name, .int .u8 op, .slice K 0 c], .int .i64 d] w fun e w' => e = .returned (.bool false) ∧ Below w.heap.size w w' := by
  have hb0 := (((Below.refl w.heap.size w).alloc (Nat.le_refl _) (.cells #[.int .u8 2, .int .u64 num, .string name, .int .u8 op, .slice K 0 c] 40)).alloc (by simp) (.cells #[.int .i64 d] 3))
  have q1num : ((num : Int) == 0) = false := by simpa using hnum
  have q2num : ((num : Int) != 0) = true := by simpa using hnum
  go_enter Tryz.func40, Tryz.ntmps40
  go_wp2_with (first
    | fail)
  go_ret
  exact ⟨rfl, hb0⟩

set_option maxRecDepth 100000 in
set_option maxHeartbeats 1000000 in
theorem may_k2_empty (d : Nat) (hd : (d : Int) ≤ 40) (op : Int) (name : ByteArray) (hnm : name.size = 0) (K : Option Addr) (c : Nat) (w : World) :
    Calls Tryz.prog 40 #[.agg #[.int .u8 2, .int .u64 0, .string name, .int .u8 op, .slice K 0 c], .int .i64 d] w fun e w' => e = .returned (.bool false) ∧ Below w.heap.size w w' := by
  have hb0 := (((Below.refl w.heap.size w).alloc (Nat.le_refl _) (.cells #[.int .u8 2, .int .u64 0, .string name, .int .u8 op, .slice K 0 c] 40)).alloc (by simp) (.cells #[.int .i64 d] 3))
  have e1 : name.toList = [] := nil_of_size hnm
  have e2 : name.toList.isEmpty = true := emp_of_size hnm
  go_enter Tryz.func40, Tryz.ntmps40
  go_wp2_with (first
    | fail)
  go_ret
  exact ⟨rfl, hb0⟩

set_option maxRecDepth 100000 in
set_option maxHeartbeats 1000000 in
theorem may_k2_bad (d : Nat) (hd : (d : Int) ≤ 40) (op : Int) (name : ByteArray) (hnm : 0 < name.size) (hN : isName name.data.toList = false) (K : Option Addr) (c : Nat) (w : World) :
    Calls Tryz.prog 40 #[.agg #[.int .u8 2, .int .u64 0, .string name, .int .u8 op, .slice K 0 c], .int .i64 d] w fun e w' => e = .returned (.bool false) ∧ Below w.heap.size w w' := by
  have hb0 := (((Below.refl w.heap.size w).alloc (Nat.le_refl _) (.cells #[.int .u8 2, .int .u64 0, .string name, .int .u8 op, .slice K 0 c] 40)).alloc (by simp) (.cells #[.int .i64 d] 3))
  have e1 : ¬ name.toList = [] := ne_of_size hnm
  have e2 : name.toList.isEmpty = false := nem_of_size hnm
  have e3 : (name.toList == []) = false := by simpa using e1
  have HNM := Lib.hid hN
  clear hN
  go_enter Tryz.func40, Tryz.ntmps40
  go_wp2_with (first
    | (go_at_call 12; refine (named_any _ _).mono ?_; rintro e w' ⟨rfl, rfl⟩; rw [HNM.out])
    | fail)
  go_ret
  exact ⟨rfl, hb0⟩

set_option maxRecDepth 100000 in
set_option maxHeartbeats 1000000 in
theorem may_k2_op (d : Nat) (hd : (d : Int) ≤ 40) (op : Int) (name : ByteArray) (hnm : 0 < name.size) (hN : isName name.data.toList = true) (hop : ¬ op = 0) (K : Option Addr) (c : Nat) (w : World) :
    Calls Tryz.prog 40 #[.agg #[.int .u8 2, .int .u64 0, .string name, .int .u8 op, .slice K 0 c], .int .i64 d] w fun e w' => e = .returned (.bool false) ∧ Below w.heap.size w w' := by
  have hb0 := (((Below.refl w.heap.size w).alloc (Nat.le_refl _) (.cells #[.int .u8 2, .int .u64 0, .string name, .int .u8 op, .slice K 0 c] 40)).alloc (by simp) (.cells #[.int .i64 d] 3))
  have e1 : ¬ name.toList = [] := ne_of_size hnm
  have e2 : name.toList.isEmpty = false := nem_of_size hnm
  have e3 : (name.toList == []) = false := by simpa using e1
  have HNM := Lib.hid hN
  clear hN
  have q1op : ((op : Int) == 0) = false := by simpa using hop
  have q2op : ((op : Int) != 0) = true := by simpa using hop
  go_enter Tryz.func40, Tryz.ntmps40
  go_wp2_with (first
    | (go_at_call 12; refine (named_any _ _).mono ?_; rintro e w' ⟨rfl, rfl⟩; rw [HNM.out])
    | fail)
  go_ret
  exact ⟨rfl, hb0⟩

set_option maxRecDepth 100000 in
set_option maxHeartbeats 1000000 in
theorem may_k2_ok (d : Nat) (hd : (d : Int) ≤ 40) (name : ByteArray) (hnm : 0 < name.size) (hN : isName name.data.toList = true) (K : Option Addr) (c : Nat) (w : World) (b : Bool) (hC : ∀ W, Below w.heap.size w W → Below (w.heap.size + 2) ((w.alloc (.cells #[.int .u8 2, .int .u64 0, .string name, .int .u8 0, .slice K 0 c] 40)).alloc (.cells #[.int .i64 d] 3)) W → Calls Tryz.prog 62 #[.slice K 0 c, .func (.func 63) #[] #[.pointer (some ⟨w.heap.size + 1, 0, none⟩)]] W fun e w' => e = .returned (.bool b) ∧ Below W.heap.size W w') :
    Calls Tryz.prog 40 #[.agg #[.int .u8 2, .int .u64 0, .string name, .int .u8 0, .slice K 0 c], .int .i64 d] w fun e w' => e = .returned (.bool (!b)) ∧ Below w.heap.size w w' := by
  have hb0 := (((Below.refl w.heap.size w).alloc (Nat.le_refl _) (.cells #[.int .u8 2, .int .u64 0, .string name, .int .u8 0, .slice K 0 c] 40)).alloc (by simp) (.cells #[.int .i64 d] 3))
  have e1 : ¬ name.toList = [] := ne_of_size hnm
  have e2 : name.toList.isEmpty = false := nem_of_size hnm
  have e3 : (name.toList == []) = false := by simpa using e1
  have HNM := Lib.hid hN
  clear hN
  have HC := hC _ hb0 (Below.refl _ _)
  have HCC := Lib.hid HC
  clear HC hC
  go_enter Tryz.func40, Tryz.ntmps40
  go_wp2_with (first
    | (go_at_call 12; refine (named_any _ _).mono ?_; rintro e w' ⟨rfl, rfl⟩; rw [HNM.out])
    | (go_at_call 62; refine HCC.out.mono ?_; rintro e w1 ⟨rfl, hb⟩)
    | fail)
  go_ret
  exact ⟨rfl, bt hb0 hb⟩

set_option maxRecDepth 100000 in
set_option maxHeartbeats 1000000 in
theorem may_k4_len (d : Nat) (hd : (d : Int) ≤ 40) (num op : Int) (name : ByteArray) (n : Nat) (hn : ¬ (n : Int) = 0) (K : Option Addr) (c : Nat) (w : World) :
    Calls Tryz.prog 40 #[.agg #[.int .u8 4, .int .u64 num, .string name, .int .u8 op, .slice K n c], .int .i64 d] w fun e w' => e = .returned (.bool false) ∧ Below w.heap.size w w' := by
  have hb0 := (((Below.refl w.heap.size w).alloc (Nat.le_refl _) (.cells #[.int .u8 4, .int .u64 num, .string name, .int .u8 op, .slice K n c] 40)).alloc (by simp) (.cells #[.int .i64 d] 3))
  have q1n : (((n : Nat) : Int) == 0) = false := by simpa using hn
  have q2n : (((n : Nat) : Int) != 0) = true := by simpa using hn
  go_enter Tryz.func40, Tryz.ntmps40
  go_wp2_with (first
    | fail)
  go_ret
  exact ⟨rfl, hb0⟩

set_option maxRecDepth 100000 in
set_option maxHeartbeats 1000000 in
theorem may_k4_num (d : Nat) (hd : (d : Int) ≤ 40) (num op : Int) (name : ByteArray) (hnum : ¬ num = 0) (K : Option Addr) (c : Nat) (w : World) :
    Calls Tryz.prog 40 #[.agg #[.int .u8 4, .int .u64 num, .string name, .int .u8 op, .slice K 0 c], .int .i64 d] w fun e w' => e = .returned (.bool false) ∧ Below w.heap.size w w' := by
  have hb0 := (((Below.refl w.heap.size w).alloc (Nat.le_refl _) (.cells #[.int .u8 4, .int .u64 num, .string name, .int .u8 op, .slice K 0 c] 40)).alloc (by simp) (.cells #[.int .i64 d] 3))
  have q1num : ((num : Int) == 0) = false := by simpa using hnum
  have q2num : ((num : Int) != 0) = true := by simpa using hnum
  go_enter Tryz.func40, Tryz.ntmps40
  go_wp2_with (first
    | fail)
  go_ret
  exact ⟨rfl, hb0⟩

set_option maxRecDepth 100000 in
set_option maxHeartbeats 1000000 in
theorem may_k4_empty (d : Nat) (hd : (d : Int) ≤ 40) (op : Int) (name : ByteArray) (hnm : name.size = 0) (K : Option Addr) (c : Nat) (w : World) :
    Calls Tryz.prog 40 #[.agg #[.int .u8 4, .int .u64 0, .string name, .int .u8 op, .slice K 0 c], .int .i64 d] w fun e w' => e = .returned (.bool false) ∧ Below w.heap.size w w' := by
  have hb0 := (((Below.refl w.heap.size w).alloc (Nat.le_refl _) (.cells #[.int .u8 4, .int .u64 0, .string name, .int .u8 op, .slice K 0 c] 40)).alloc (by simp) (.cells #[.int .i64 d] 3))
  have e1 : name.toList = [] := nil_of_size hnm
  have e2 : name.toList.isEmpty = true := emp_of_size hnm
  go_enter Tryz.func40, Tryz.ntmps40
  go_wp2_with (first
    | fail)
  go_ret
  exact ⟨rfl, hb0⟩

set_option maxRecDepth 100000 in
set_option maxHeartbeats 1000000 in
theorem may_k4_bad (d : Nat) (hd : (d : Int) ≤ 40) (op : Int) (name : ByteArray) (hnm : 0 < name.size) (hN : isName name.data.toList = false) (K : Option Addr) (c : Nat) (w : World) :
    Calls Tryz.prog 40 #[.agg #[.int .u8 4, .int .u64 0, .string name, .int .u8 op, .slice K 0 c], .int .i64 d] w fun e w' => e = .returned (.bool false) ∧ Below w.heap.size w w' := by
  have hb0 := (((Below.refl w.heap.size w).alloc (Nat.le_refl _) (.cells #[.int .u8 4, .int .u64 0, .string name, .int .u8 op, .slice K 0 c] 40)).alloc (by simp) (.cells #[.int .i64 d] 3))
  have e1 : ¬ name.toList = [] := ne_of_size hnm
  have e2 : name.toList.isEmpty = false := nem_of_size hnm
  have e3 : (name.toList == []) = false := by simpa using e1
  have HNM := Lib.hid hN
  clear hN
  go_enter Tryz.func40, Tryz.ntmps40
  go_wp2_with (first
    | (go_at_call 12; refine (named_any _ _).mono ?_; rintro e w' ⟨rfl, rfl⟩; rw [HNM.out])
    | fail)
  go_ret
  exact ⟨rfl, hb0⟩

set_option maxRecDepth 100000 in
set_option maxHeartbeats 1000000 in
theorem may_k4_op (d : Nat) (hd : (d : Int) ≤ 40) (op : Int) (name : ByteArray) (hnm : 0 < name.size) (hN : isName name.data.toList = true) (hop : ¬ op = 0) (K : Option Addr) (c : Nat) (w : World) :
    Calls Tryz.prog 40 #[.agg #[.int .u8 4, .int .u64 0, .string name, .int .u8 op, .slice K 0 c], .int .i64 d] w fun e w' => e = .returned (.bool false) ∧ Below w.heap.size w w' := by
  have hb0 := (((Below.refl w.heap.size w).alloc (Nat.le_refl _) (.cells #[.int .u8 4, .int .u64 0, .string name, .int .u8 op, .slice K 0 c] 40)).alloc (by simp) (.cells #[.int .i64 d] 3))
  have e1 : ¬ name.toList = [] := ne_of_size hnm
  have e2 : name.toList.isEmpty = false := nem_of_size hnm
  have e3 : (name.toList == []) = false := by simpa using e1
  have HNM := Lib.hid hN
  clear hN
  have q1op : ((op : Int) == 0) = false := by simpa using hop
  have q2op : ((op : Int) != 0) = true := by simpa using hop
  go_enter Tryz.func40, Tryz.ntmps40
  go_wp2_with (first
    | (go_at_call 12; refine (named_any _ _).mono ?_; rintro e w' ⟨rfl, rfl⟩; rw [HNM.out])
    | fail)
  go_ret
  exact ⟨rfl, hb0⟩

set_option maxRecDepth 100000 in
set_option maxHeartbeats 1000000 in
theorem may_k4_ok (d : Nat) (hd : (d : Int) ≤ 40) (name : ByteArray) (hnm : 0 < name.size) (hN : isName name.data.toList = true) (K : Option Addr) (c : Nat) (w : World) (b : Bool) (hC : ∀ W, Below w.heap.size w W → Below (w.heap.size + 2) ((w.alloc (.cells #[.int .u8 4, .int .u64 0, .string name, .int .u8 0, .slice K 0 c] 40)).alloc (.cells #[.int .i64 d] 3)) W → Calls Tryz.prog 62 #[.slice K 0 c, .func (.func 63) #[] #[.pointer (some ⟨w.heap.size + 1, 0, none⟩)]] W fun e w' => e = .returned (.bool b) ∧ Below W.heap.size W w') :
    Calls Tryz.prog 40 #[.agg #[.int .u8 4, .int .u64 0, .string name, .int .u8 0, .slice K 0 c], .int .i64 d] w fun e w' => e = .returned (.bool (!b)) ∧ Below w.heap.size w w' := by
  have hb0 := (((Below.refl w.heap.size w).alloc (Nat.le_refl _) (.cells #[.int .u8 4, .int .u64 0, .string name, .int .u8 0, .slice K 0 c] 40)).alloc (by simp) (.cells #[.int .i64 d] 3))
  have e1 : ¬ name.toList = [] := ne_of_size hnm
  have e2 : name.toList.isEmpty = false := nem_of_size hnm
  have e3 : (name.toList == []) = false := by simpa using e1
  have HNM := Lib.hid hN
  clear hN
  have HC := hC _ hb0 (Below.refl _ _)
  have HCC := Lib.hid HC
  clear HC hC
  go_enter Tryz.func40, Tryz.ntmps40
  go_wp2_with (first
    | (go_at_call 12; refine (named_any _ _).mono ?_; rintro e w' ⟨rfl, rfl⟩; rw [HNM.out])
    | (go_at_call 62; refine HCC.out.mono ?_; rintro e w1 ⟨rfl, hb⟩)
    | fail)
  go_ret
  exact ⟨rfl, bt hb0 hb⟩

set_option maxRecDepth 100000 in
set_option maxHeartbeats 1000000 in
theorem may_k3_len (d : Nat) (hd : (d : Int) ≤ 40) (num op : Int) (name : ByteArray) (n : Nat) (hn : ¬ (n : Int) = 2) (K : Option Addr) (c : Nat) (w : World) :
    Calls Tryz.prog 40 #[.agg #[.int .u8 3, .int .u64 num, .string name, .int .u8 op, .slice K n c], .int .i64 d] w fun e w' => e = .returned (.bool false) ∧ Below w.heap.size w w' := by
  have hb0 := (((Below.refl w.heap.size w).alloc (Nat.le_refl _) (.cells #[.int .u8 3, .int .u64 num, .string name, .int .u8 op, .slice K n c] 40)).alloc (by simp) (.cells #[.int .i64 d] 3))
  have q1n : (((n : Nat) : Int) == 2) = false := by simpa using hn
  have q2n : (((n : Nat) : Int) != 2) = true := by simpa using hn
  go_enter Tryz.func40, Tryz.ntmps40
  go_wp2_with (first
    | fail)
  go_ret
  exact ⟨rfl, hb0⟩

set_option maxRecDepth 100000 in
set_option maxHeartbeats 1000000 in
theorem may_k3_num (d : Nat) (hd : (d : Int) ≤ 40) (num op : Int) (name : ByteArray) (hnum : ¬ num = 0) (K : Option Addr) (c : Nat) (w : World) :
    Calls Tryz.prog 40 #[.agg #[.int .u8 3, .int .u64 num, .string name, .int .u8 op, .slice K 2 c], .int .i64 d] w fun e w' => e = .returned (.bool false) ∧ Below w.heap.size w w' := by
  have hb0 := (((Below.refl w.heap.size w).alloc (Nat.le_refl _) (.cells #[.int .u8 3, .int .u64 num, .string name, .int .u8 op, .slice K 2 c] 40)).alloc (by simp) (.cells #[.int .i64 d] 3))
  have q1num : ((num : Int) == 0) = false := by simpa using hnum
  have q2num : ((num : Int) != 0) = true := by simpa using hnum
  go_enter Tryz.func40, Tryz.ntmps40
  go_wp2_with (first
    | fail)
  go_ret
  exact ⟨rfl, hb0⟩

set_option maxRecDepth 100000 in
set_option maxHeartbeats 1000000 in
theorem may_k3_name (d : Nat) (hd : (d : Int) ≤ 40) (op : Int) (name : ByteArray) (hnm : 0 < name.size) (K : Option Addr) (c : Nat) (w : World) :
    Calls Tryz.prog 40 #[.agg #[.int .u8 3, .int .u64 0, .string name, .int .u8 op, .slice K 2 c], .int .i64 d] w fun e w' => e = .returned (.bool false) ∧ Below w.heap.size w w' := by
  have hb0 := (((Below.refl w.heap.size w).alloc (Nat.le_refl _) (.cells #[.int .u8 3, .int .u64 0, .string name, .int .u8 op, .slice K 2 c] 40)).alloc (by simp) (.cells #[.int .i64 d] 3))
  have e1 : ¬ name.toList = [] := ne_of_size hnm
  have e2 : name.toList.isEmpty = false := nem_of_size hnm
  have e3 : (name.toList == []) = false := by simpa using e1
  go_enter Tryz.func40, Tryz.ntmps40
  go_wp2_with (first
    | fail)
  go_ret
  exact ⟨rfl, hb0⟩

set_option maxRecDepth 100000 in
set_option maxHeartbeats 1000000 in
theorem may_k3_op1 (d : Nat) (hd : (d : Int) ≤ 40) (op : Int) (name : ByteArray) (hnm : name.size = 0) (hop : op < 1) (K : Option Addr) (c : Nat) (w : World) :
    Calls Tryz.prog 40 #[.agg #[.int .u8 3, .int .u64 0, .string name, .int .u8 op, .slice K 2 c], .int .i64 d] w fun e w' => e = .returned (.bool false) ∧ Below w.heap.size w w' := by
  have hb0 := (((Below.refl w.heap.size w).alloc (Nat.le_refl _) (.cells #[.int .u8 3, .int .u64 0, .string name, .int .u8 op, .slice K 2 c] 40)).alloc (by simp) (.cells #[.int .i64 d] 3))
  have e1 : name.toList = [] := nil_of_size hnm
  have e2 : name.toList.isEmpty = true := emp_of_size hnm
  go_enter Tryz.func40, Tryz.ntmps40
  go_wp2_with (first
    | fail)
  go_ret
  exact ⟨rfl, hb0⟩

set_option maxRecDepth 100000 in
set_option maxHeartbeats 1000000 in
theorem may_k3_op2 (d : Nat) (hd : (d : Int) ≤ 40) (op : Int) (name : ByteArray) (hnm : name.size = 0) (hop1 : 1 ≤ op) (hop : 14 < op) (K : Option Addr) (c : Nat) (w : World) :
    Calls Tryz.prog 40 #[.agg #[.int .u8 3, .int .u64 0, .string name, .int .u8 op, .slice K 2 c], .int .i64 d] w fun e w' => e = .returned (.bool false) ∧ Below w.heap.size w w' := by
  have hb0 := (((Below.refl w.heap.size w).alloc (Nat.le_refl _) (.cells #[.int .u8 3, .int .u64 0, .string name, .int .u8 op, .slice K 2 c] 40)).alloc (by simp) (.cells #[.int .i64 d] 3))
  have e1 : name.toList = [] := nil_of_size hnm
  have e2 : name.toList.isEmpty = true := emp_of_size hnm
  go_enter Tryz.func40, Tryz.ntmps40
  go_wp2_with (first
    | fail)
  go_ret
  exact ⟨rfl, hb0⟩

set_option maxRecDepth 100000 in
set_option maxHeartbeats 1000000 in
theorem may_k3_ok (d : Nat) (hd : (d : Int) ≤ 40) (op : Int) (name : ByteArray) (hnm : name.size = 0) (hop1 : 1 ≤ op) (hop : op ≤ 14) (K : Option Addr) (c : Nat) (w : World) (b : Bool) (hC : ∀ W, Below w.heap.size w W → Below (w.heap.size + 2) ((w.alloc (.cells #[.int .u8 3, .int .u64 0, .string name, .int .u8 op, .slice K 2 c] 40)).alloc (.cells #[.int .i64 d] 3)) W → Calls Tryz.prog 62 #[.slice K 2 c, .func (.func 63) #[] #[.pointer (some ⟨w.heap.size + 1, 0, none⟩)]] W fun e w' => e = .returned (.bool b) ∧ Below W.heap.size W w') :
    Calls Tryz.prog 40 #[.agg #[.int .u8 3, .int .u64 0, .string name, .int .u8 op, .slice K 2 c], .int .i64 d] w fun e w' => e = .returned (.bool (!b)) ∧ Below w.heap.size w w' := by
  have hb0 := (((Below.refl w.heap.size w).alloc (Nat.le_refl _) (.cells #[.int .u8 3, .int .u64 0, .string name, .int .u8 op, .slice K 2 c] 40)).alloc (by simp) (.cells #[.int .i64 d] 3))
  have e1 : name.toList = [] := nil_of_size hnm
  have e2 : name.toList.isEmpty = true := emp_of_size hnm
  have HC := hC _ hb0 (Below.refl _ _)
  have HCC := Lib.hid HC
  clear HC hC
  go_enter Tryz.func40, Tryz.ntmps40
  go_wp2_with (first
    | (go_at_call 62; refine HCC.out.mono ?_; rintro e w1 ⟨rfl, hb⟩)
    | fail)
  go_ret
  exact ⟨rfl, bt hb0 hb⟩

set_option maxRecDepth 100000 in
set_option maxHeartbeats 1000000 in
theorem may_k5_len (d : Nat) (hd : (d : Int) ≤ 40) (num op : Int) (name : ByteArray) (n : Nat) (hn : ¬ (n : Int) = 1) (K : Option Addr) (c : Nat) (w : World) :
    Calls Tryz.prog 40 #[.agg #[.int .u8 5, .int .u64 num, .string name, .int .u8 op, .slice K n c], .int .i64 d] w fun e w' => e = .returned (.bool false) ∧ Below w.heap.size w w' := by
  have hb0 := (((Below.refl w.heap.size w).alloc (Nat.le_refl _) (.cells #[.int .u8 5, .int .u64 num, .string name, .int .u8 op, .slice K n c] 40)).alloc (by simp) (.cells #[.int .i64 d] 3))
  have q1n : (((n : Nat) : Int) == 1) = false := by simpa using hn
  have q2n : (((n : Nat) : Int) != 1) = true := by simpa using hn
  go_enter Tryz.func40, Tryz.ntmps40
  go_wp2_with (first
    | fail)
  go_ret
  exact ⟨rfl, hb0⟩

set_option maxRecDepth 100000 in
set_option maxHeartbeats 1000000 in
theorem may_k5_num (d : Nat) (hd : (d : Int) ≤ 40) (num op : Int) (name : ByteArray) (hnum : ¬ num = 0) (K : Option Addr) (c : Nat) (w : World) :
    Calls Tryz.prog 40 #[.agg #[.int .u8 5, .int .u64 num, .string name, .int .u8 op, .slice K 1 c], .int .i64 d] w fun e w' => e = .returned (.bool false) ∧ Below w.heap.size w w' := by
  have hb0 := (((Below.refl w.heap.size w).alloc (Nat.le_refl _) (.cells #[.int .u8 5, .int .u64 num, .string name, .int .u8 op, .slice K 1 c] 40)).alloc (by simp) (.cells #[.int .i64 d] 3))
  have q1num : ((num : Int) == 0) = false := by simpa using hnum
  have q2num : ((num : Int) != 0) = true := by simpa using hnum
  go_enter Tryz.func40, Tryz.ntmps40
  go_wp2_with (first
    | fail)
  go_ret
  exact ⟨rfl, hb0⟩

set_option maxRecDepth 100000 in
set_option maxHeartbeats 1000000 in
theorem may_k5_empty (d : Nat) (hd : (d : Int) ≤ 40) (op : Int) (name : ByteArray) (hnm : name.size = 0) (K : Option Addr) (c : Nat) (w : World) :
    Calls Tryz.prog 40 #[.agg #[.int .u8 5, .int .u64 0, .string name, .int .u8 op, .slice K 1 c], .int .i64 d] w fun e w' => e = .returned (.bool false) ∧ Below w.heap.size w w' := by
  have hb0 := (((Below.refl w.heap.size w).alloc (Nat.le_refl _) (.cells #[.int .u8 5, .int .u64 0, .string name, .int .u8 op, .slice K 1 c] 40)).alloc (by simp) (.cells #[.int .i64 d] 3))
  have e1 : name.toList = [] := nil_of_size hnm
  have e2 : name.toList.isEmpty = true := emp_of_size hnm
  go_enter Tryz.func40, Tryz.ntmps40
  go_wp2_with (first
    | fail)
  go_ret
  exact ⟨rfl, hb0⟩

set_option maxRecDepth 100000 in
set_option maxHeartbeats 1000000 in
theorem may_k5_bad (d : Nat) (hd : (d : Int) ≤ 40) (op : Int) (name : ByteArray) (hnm : 0 < name.size) (hN : isName name.data.toList = false) (K : Option Addr) (c : Nat) (w : World) :
    Calls Tryz.prog 40 #[.agg #[.int .u8 5, .int .u64 0, .string name, .int .u8 op, .slice K 1 c], .int .i64 d] w fun e w' => e = .returned (.bool false) ∧ Below w.heap.size w w' := by
  have hb0 := (((Below.refl w.heap.size w).alloc (Nat.le_refl _) (.cells #[.int .u8 5, .int .u64 0, .string name, .int .u8 op, .slice K 1 c] 40)).alloc (by simp) (.cells #[.int .i64 d] 3))
  have e1 : ¬ name.toList = [] := ne_of_size hnm
  have e2 : name.toList.isEmpty = false := nem_of_size hnm
  have e3 : (name.toList == []) = false := by simpa using e1
  have HNM := Lib.hid hN
  clear hN
  go_enter Tryz.func40, Tryz.ntmps40
  go_wp2_with (first
    | (go_at_call 12; refine (named_any _ _).mono ?_; rintro e w' ⟨rfl, rfl⟩; rw [HNM.out])
    | fail)
  go_ret
  exact ⟨rfl, hb0⟩

set_option maxRecDepth 100000 in
set_option maxHeartbeats 1000000 in
theorem may_k5_op (d : Nat) (hd : (d : Int) ≤ 40) (op : Int) (name : ByteArray) (hnm : 0 < name.size) (hN : isName name.data.toList = true) (hop : ¬ op = 0) (K : Option Addr) (c : Nat) (w : World) :
    Calls Tryz.prog 40 #[.agg #[.int .u8 5, .int .u64 0, .string name, .int .u8 op, .slice K 1 c], .int .i64 d] w fun e w' => e = .returned (.bool false) ∧ Below w.heap.size w w' := by
  have hb0 := (((Below.refl w.heap.size w).alloc (Nat.le_refl _) (.cells #[.int .u8 5, .int .u64 0, .string name, .int .u8 op, .slice K 1 c] 40)).alloc (by simp) (.cells #[.int .i64 d] 3))
  have e1 : ¬ name.toList = [] := ne_of_size hnm
  have e2 : name.toList.isEmpty = false := nem_of_size hnm
  have e3 : (name.toList == []) = false := by simpa using e1
  have HNM := Lib.hid hN
  clear hN
  have q1op : ((op : Int) == 0) = false := by simpa using hop
  have q2op : ((op : Int) != 0) = true := by simpa using hop
  go_enter Tryz.func40, Tryz.ntmps40
  go_wp2_with (first
    | (go_at_call 12; refine (named_any _ _).mono ?_; rintro e w' ⟨rfl, rfl⟩; rw [HNM.out])
    | fail)
  go_ret
  exact ⟨rfl, hb0⟩

set_option maxRecDepth 100000 in
set_option maxHeartbeats 1000000 in
theorem may_k5_ok (d : Nat) (hd : (d : Int) ≤ 40) (name : ByteArray) (hnm : 0 < name.size) (hN : isName name.data.toList = true) (K : Option Addr) (c : Nat) (w : World) (b : Bool) (hC : ∀ W, Below w.heap.size w W → Below (w.heap.size + 2) ((w.alloc (.cells #[.int .u8 5, .int .u64 0, .string name, .int .u8 0, .slice K 1 c] 40)).alloc (.cells #[.int .i64 d] 3)) W → Calls Tryz.prog 62 #[.slice K 1 c, .func (.func 63) #[] #[.pointer (some ⟨w.heap.size + 1, 0, none⟩)]] W fun e w' => e = .returned (.bool b) ∧ Below W.heap.size W w') :
    Calls Tryz.prog 40 #[.agg #[.int .u8 5, .int .u64 0, .string name, .int .u8 0, .slice K 1 c], .int .i64 d] w fun e w' => e = .returned (.bool (!b)) ∧ Below w.heap.size w w' := by
  have hb0 := (((Below.refl w.heap.size w).alloc (Nat.le_refl _) (.cells #[.int .u8 5, .int .u64 0, .string name, .int .u8 0, .slice K 1 c] 40)).alloc (by simp) (.cells #[.int .i64 d] 3))
  have e1 : ¬ name.toList = [] := ne_of_size hnm
  have e2 : name.toList.isEmpty = false := nem_of_size hnm
  have e3 : (name.toList == []) = false := by simpa using e1
  have HNM := Lib.hid hN
  clear hN
  have HC := hC _ hb0 (Below.refl _ _)
  have HCC := Lib.hid HC
  clear HC hC
  go_enter Tryz.func40, Tryz.ntmps40
  go_wp2_with (first
    | (go_at_call 12; refine (named_any _ _).mono ?_; rintro e w' ⟨rfl, rfl⟩; rw [HNM.out])
    | (go_at_call 62; refine HCC.out.mono ?_; rintro e w1 ⟨rfl, hb⟩)
    | fail)
  go_ret
  exact ⟨rfl, bt hb0 hb⟩
end Go.Proofs.YtkflcmengddijaaGreatDoor
