/-
  The document's Sign and shape, walked.
-/
import Derived.Test.YtkflcmengddijaaGreatDoorExTell3
namespace Go.Proofs.YtkflcmengddijaaGreatDoor
open Go.RowKit Lx
set_option linter.unusedVariables false
set_option linter.unusedSimpArgs false

theorem row_cells {w : World} {n : Nat} {cs : Array Value} {t : TypeId} (h : Bk w n cs t) (i : Nat) (v : Value) (hi : cs[i]? = some v) : w.cell? ⟨n, i, none⟩ = some v := (h.cell i).trans hi
def sgCells : Array Value := (signsL.map fun l => Value.string ⟨l.toArray⟩).toArray
theorem sgCells_at (i : Nat) (hi : i < 15) : sgCells[i]? = some (.string ⟨(signsL.getD i []).toArray⟩) := by
  have hl : signsL.length = 15 := rfl
  simp [sgCells, List.getD, hl, hi]
set_option maxRecDepth 100000 in
theorem rSg_c (op : Int) (h0 : 0 ≤ op) (h1 : op < 256) (w : World) : Calls Tryz.prog 45 #[.int .u8 op] w fun e w' => e = .returned (.string ⟨(opSign op).toArray⟩) ∧ Below w.heap.size w w' := by
  by_cases h : op < 15
  · have B0 := Bk.new w sgCells 9
    have hs : op.toNat < 15 := by omega
    have hB := (Below.refl w.heap.size w).alloc (Nat.le_refl _) (.cells sgCells 9)
    go_enter Tryz.func45, Tryz.ntmps45
    go_wp2_with fail
    go_ret
    refine ⟨?_, hB⟩
    have h15 : op = 0 ∨ op = 1 ∨ op = 2 ∨ op = 3 ∨ op = 4 ∨ op = 5 ∨ op = 6 ∨ op = 7 ∨ op = 8 ∨ op = 9 ∨ op = 10 ∨ op = 11 ∨ op = 12 ∨ op = 13 ∨ op = 14 := by omega
    rcases h15 with rfl | rfl | rfl | rfl | rfl | rfl | rfl | rfl | rfl | rfl | rfl | rfl | rfl | rfl | rfl <;> rfl
  · have he : opSign op = [] := by
      unfold opSign
      rw [List.getD_eq_getElem?_getD, List.getElem?_eq_none (by show signsL.length ≤ _; have hl : signsL.length = 15 := rfl; omega)]
      rfl
    rw [he]
    have hB := (Below.refl w.heap.size w).alloc (Nat.le_refl _) (.cells sgCells 9)
    go_enter Tryz.func45, Tryz.ntmps45
    go_wp2_with fail
    go_ret
    exact ⟨rfl, hB⟩
theorem opSign_ne (op : Int) (h1 : 1 ≤ op) (h2 : op ≤ 14) : opSign op ≠ [] := by
  have : ∀ k : Fin 15, 1 ≤ k.val → signsL.getD k.val [] ≠ [] := by decide
  exact this ⟨op.toNat, by omega⟩ (by simp only []; omega)
theorem opSign_nil (op : Int) (h0 : 0 ≤ op) (h : ¬ (1 ≤ op ∧ op ≤ 14)) : opSign op = [] := by
  by_cases e : op = 0
  · subst e; rfl
  · unfold opSign
    rw [List.getD_eq_getElem?_getD, List.getElem?_eq_none (by show signsL.length ≤ _; have hl : signsL.length = 15 := rfl; omega)]
    rfl

set_option maxRecDepth 100000 in
set_option maxHeartbeats 1000000 in
theorem shape_k1_name (b : Bool) (num op : Int) (n : Nat) (name : ByteArray) (hN : isName name.data.toList = b) (hnm : 0 < name.size) (K : Option Addr) (c : Nat) (w : World) :
    Calls Tryz.prog 66 #[.agg #[.int .u8 1, .int .u64 num, .string name, .int .u8 op, .slice K n c]] w fun e w' => e = .returned (.bool false) ∧ Below w.heap.size w w' := by
  have hb0 := (Below.refl w.heap.size w).alloc (Nat.le_refl _) (.cells #[.int .u8 1, .int .u64 num, .string name, .int .u8 op, .slice K n c] 40)
  have B0 := Bk.new w #[.int .u8 1, .int .u64 num, .string name, .int .u8 op, .slice K n c] 40
  have hNM : ∀ W, Calls Tryz.prog 13 #[.string name] W fun e w' => e = .returned (.bool b) ∧ Below W.heap.size W w' := fun W => by have h := rNamed_any name W; rw [hN] at h; exact h
  have HNM := Lib.hid hNM
  clear hNM hN
  have e1 : ¬ name.toList = [] := ne_of_size hnm
  have e2 : name.toList.isEmpty = false := nem_of_size hnm
  have e3 : (name.toList == []) = false := by simpa using e1
  go_enter Tryz.func66, Tryz.ntmps66
  go_wp2_with (first
    | (go_at_call 13; refine (HNM.out _).mono ?_; rintro e w1 ⟨rfl, hb1⟩; have B1 := B0.mono hb1; have C1 := B1.cell)
    | fail)
  go_ret
  exact ⟨rfl, bt hb0 hb1⟩

set_option maxRecDepth 100000 in
set_option maxHeartbeats 1000000 in
theorem shape_k1_op (b : Bool) (num op : Int) (n : Nat) (name : ByteArray) (hN : isName name.data.toList = b) (hnm : name.size = 0) (hop : ¬ op = 0) (K : Option Addr) (c : Nat) (w : World) :
    Calls Tryz.prog 66 #[.agg #[.int .u8 1, .int .u64 num, .string name, .int .u8 op, .slice K n c]] w fun e w' => e = .returned (.bool false) ∧ Below w.heap.size w w' := by
  have hb0 := (Below.refl w.heap.size w).alloc (Nat.le_refl _) (.cells #[.int .u8 1, .int .u64 num, .string name, .int .u8 op, .slice K n c] 40)
  have B0 := Bk.new w #[.int .u8 1, .int .u64 num, .string name, .int .u8 op, .slice K n c] 40
  have hNM : ∀ W, Calls Tryz.prog 13 #[.string name] W fun e w' => e = .returned (.bool b) ∧ Below W.heap.size W w' := fun W => by have h := rNamed_any name W; rw [hN] at h; exact h
  have HNM := Lib.hid hNM
  clear hNM hN
  have e1 : name.toList = [] := nil_of_size hnm
  have e2 : name.toList.isEmpty = true := emp_of_size hnm
  have q1op : (op == 0) = false := by simpa using hop
  have q2op : (op != 0) = true := by simpa using hop
  go_enter Tryz.func66, Tryz.ntmps66
  go_wp2_with (first
    | (go_at_call 13; refine (HNM.out _).mono ?_; rintro e w1 ⟨rfl, hb1⟩; have B1 := B0.mono hb1; have C1 := B1.cell)
    | fail)
  go_ret
  exact ⟨rfl, bt hb0 hb1⟩

set_option maxRecDepth 100000 in
set_option maxHeartbeats 1000000 in
theorem shape_k1_len (b : Bool) (num : Int) (n : Nat) (name : ByteArray) (hN : isName name.data.toList = b) (hnm : name.size = 0) (hn : ¬ (n : Int) = 0) (K : Option Addr) (c : Nat) (w : World) :
    Calls Tryz.prog 66 #[.agg #[.int .u8 1, .int .u64 num, .string name, .int .u8 0, .slice K n c]] w fun e w' => e = .returned (.bool false) ∧ Below w.heap.size w w' := by
  have hb0 := (Below.refl w.heap.size w).alloc (Nat.le_refl _) (.cells #[.int .u8 1, .int .u64 num, .string name, .int .u8 0, .slice K n c] 40)
  have B0 := Bk.new w #[.int .u8 1, .int .u64 num, .string name, .int .u8 0, .slice K n c] 40
  have hNM : ∀ W, Calls Tryz.prog 13 #[.string name] W fun e w' => e = .returned (.bool b) ∧ Below W.heap.size W w' := fun W => by have h := rNamed_any name W; rw [hN] at h; exact h
  have HNM := Lib.hid hNM
  clear hNM hN
  have e1 : name.toList = [] := nil_of_size hnm
  have e2 : name.toList.isEmpty = true := emp_of_size hnm
  have q1n : (((n : Nat) : Int) == 0) = false := by simpa using hn
  have q2n : (((n : Nat) : Int) != 0) = true := by simpa using hn
  go_enter Tryz.func66, Tryz.ntmps66
  go_wp2_with (first
    | (go_at_call 13; refine (HNM.out _).mono ?_; rintro e w1 ⟨rfl, hb1⟩; have B1 := B0.mono hb1; have C1 := B1.cell)
    | fail)
  go_ret
  exact ⟨rfl, bt hb0 hb1⟩

set_option maxRecDepth 100000 in
set_option maxHeartbeats 1000000 in
theorem shape_k1_ok (b : Bool) (num : Int) (name : ByteArray) (hN : isName name.data.toList = b) (hnm : name.size = 0) (K : Option Addr) (c : Nat) (w : World) :
    Calls Tryz.prog 66 #[.agg #[.int .u8 1, .int .u64 num, .string name, .int .u8 0, .slice K 0 c]] w fun e w' => e = .returned (.bool true) ∧ Below w.heap.size w w' := by
  have hb0 := (Below.refl w.heap.size w).alloc (Nat.le_refl _) (.cells #[.int .u8 1, .int .u64 num, .string name, .int .u8 0, .slice K 0 c] 40)
  have B0 := Bk.new w #[.int .u8 1, .int .u64 num, .string name, .int .u8 0, .slice K 0 c] 40
  have hNM : ∀ W, Calls Tryz.prog 13 #[.string name] W fun e w' => e = .returned (.bool b) ∧ Below W.heap.size W w' := fun W => by have h := rNamed_any name W; rw [hN] at h; exact h
  have HNM := Lib.hid hNM
  clear hNM hN
  have e1 : name.toList = [] := nil_of_size hnm
  have e2 : name.toList.isEmpty = true := emp_of_size hnm
  go_enter Tryz.func66, Tryz.ntmps66
  go_wp2_with (first
    | (go_at_call 13; refine (HNM.out _).mono ?_; rintro e w1 ⟨rfl, hb1⟩; have B1 := B0.mono hb1; have C1 := B1.cell)
    | fail)
  go_ret
  exact ⟨rfl, bt hb0 hb1⟩

set_option maxRecDepth 100000 in
set_option maxHeartbeats 1000000 in
theorem shape_k2_num (b : Bool) (num op : Int) (n : Nat) (name : ByteArray) (hN : isName name.data.toList = b) (hnum : ¬ num = 0) (K : Option Addr) (c : Nat) (w : World) :
    Calls Tryz.prog 66 #[.agg #[.int .u8 2, .int .u64 num, .string name, .int .u8 op, .slice K n c]] w fun e w' => e = .returned (.bool false) ∧ Below w.heap.size w w' := by
  have hb0 := (Below.refl w.heap.size w).alloc (Nat.le_refl _) (.cells #[.int .u8 2, .int .u64 num, .string name, .int .u8 op, .slice K n c] 40)
  have B0 := Bk.new w #[.int .u8 2, .int .u64 num, .string name, .int .u8 op, .slice K n c] 40
  have hNM : ∀ W, Calls Tryz.prog 13 #[.string name] W fun e w' => e = .returned (.bool b) ∧ Below W.heap.size W w' := fun W => by have h := rNamed_any name W; rw [hN] at h; exact h
  have HNM := Lib.hid hNM
  clear hNM hN
  have q1num : (num == 0) = false := by simpa using hnum
  have q2num : (num != 0) = true := by simpa using hnum
  go_enter Tryz.func66, Tryz.ntmps66
  go_wp2_with (first
    | (go_at_call 13; refine (HNM.out _).mono ?_; rintro e w1 ⟨rfl, hb1⟩; have B1 := B0.mono hb1; have C1 := B1.cell)
    | fail)
  go_ret
  exact ⟨rfl, bt hb0 hb1⟩

set_option maxRecDepth 100000 in
set_option maxHeartbeats 1000000 in
theorem shape_k2_bad (op : Int) (n : Nat) (name : ByteArray) (hN : isName name.data.toList = false) (K : Option Addr) (c : Nat) (w : World) :
    Calls Tryz.prog 66 #[.agg #[.int .u8 2, .int .u64 0, .string name, .int .u8 op, .slice K n c]] w fun e w' => e = .returned (.bool false) ∧ Below w.heap.size w w' := by
  have hb0 := (Below.refl w.heap.size w).alloc (Nat.le_refl _) (.cells #[.int .u8 2, .int .u64 0, .string name, .int .u8 op, .slice K n c] 40)
  have B0 := Bk.new w #[.int .u8 2, .int .u64 0, .string name, .int .u8 op, .slice K n c] 40
  have hNM : ∀ W, Calls Tryz.prog 13 #[.string name] W fun e w' => e = .returned (.bool false) ∧ Below W.heap.size W w' := fun W => by have h := rNamed_any name W; rw [hN] at h; exact h
  have HNM := Lib.hid hNM
  clear hNM hN
  go_enter Tryz.func66, Tryz.ntmps66
  go_wp2_with (first
    | (go_at_call 13; refine (HNM.out _).mono ?_; rintro e w1 ⟨rfl, hb1⟩; have B1 := B0.mono hb1; have C1 := B1.cell)
    | fail)
  go_ret
  exact ⟨rfl, bt hb0 hb1⟩

set_option maxRecDepth 100000 in
set_option maxHeartbeats 1000000 in
theorem shape_k2_op (op : Int) (n : Nat) (name : ByteArray) (hN : isName name.data.toList = true) (hop : ¬ op = 0) (K : Option Addr) (c : Nat) (w : World) :
    Calls Tryz.prog 66 #[.agg #[.int .u8 2, .int .u64 0, .string name, .int .u8 op, .slice K n c]] w fun e w' => e = .returned (.bool false) ∧ Below w.heap.size w w' := by
  have hb0 := (Below.refl w.heap.size w).alloc (Nat.le_refl _) (.cells #[.int .u8 2, .int .u64 0, .string name, .int .u8 op, .slice K n c] 40)
  have B0 := Bk.new w #[.int .u8 2, .int .u64 0, .string name, .int .u8 op, .slice K n c] 40
  have hNM : ∀ W, Calls Tryz.prog 13 #[.string name] W fun e w' => e = .returned (.bool true) ∧ Below W.heap.size W w' := fun W => by have h := rNamed_any name W; rw [hN] at h; exact h
  have HNM := Lib.hid hNM
  clear hNM hN
  have q1op : (op == 0) = false := by simpa using hop
  have q2op : (op != 0) = true := by simpa using hop
  go_enter Tryz.func66, Tryz.ntmps66
  go_wp2_with (first
    | (go_at_call 13; refine (HNM.out _).mono ?_; rintro e w1 ⟨rfl, hb1⟩; have B1 := B0.mono hb1; have C1 := B1.cell)
    | fail)
  go_ret
  exact ⟨rfl, bt hb0 hb1⟩

set_option maxRecDepth 100000 in
set_option maxHeartbeats 1000000 in
theorem shape_k2_len (n : Nat) (name : ByteArray) (hN : isName name.data.toList = true) (hn : ¬ (n : Int) = 0) (K : Option Addr) (c : Nat) (w : World) :
    Calls Tryz.prog 66 #[.agg #[.int .u8 2, .int .u64 0, .string name, .int .u8 0, .slice K n c]] w fun e w' => e = .returned (.bool false) ∧ Below w.heap.size w w' := by
  have hb0 := (Below.refl w.heap.size w).alloc (Nat.le_refl _) (.cells #[.int .u8 2, .int .u64 0, .string name, .int .u8 0, .slice K n c] 40)
  have B0 := Bk.new w #[.int .u8 2, .int .u64 0, .string name, .int .u8 0, .slice K n c] 40
  have hNM : ∀ W, Calls Tryz.prog 13 #[.string name] W fun e w' => e = .returned (.bool true) ∧ Below W.heap.size W w' := fun W => by have h := rNamed_any name W; rw [hN] at h; exact h
  have HNM := Lib.hid hNM
  clear hNM hN
  have q1n : (((n : Nat) : Int) == 0) = false := by simpa using hn
  have q2n : (((n : Nat) : Int) != 0) = true := by simpa using hn
  go_enter Tryz.func66, Tryz.ntmps66
  go_wp2_with (first
    | (go_at_call 13; refine (HNM.out _).mono ?_; rintro e w1 ⟨rfl, hb1⟩; have B1 := B0.mono hb1; have C1 := B1.cell)
    | fail)
  go_ret
  exact ⟨rfl, bt hb0 hb1⟩

set_option maxRecDepth 100000 in
set_option maxHeartbeats 1000000 in
theorem shape_k2_ok (name : ByteArray) (hN : isName name.data.toList = true) (K : Option Addr) (c : Nat) (w : World) :
    Calls Tryz.prog 66 #[.agg #[.int .u8 2, .int .u64 0, .string name, .int .u8 0, .slice K 0 c]] w fun e w' => e = .returned (.bool true) ∧ Below w.heap.size w w' := by
  have hb0 := (Below.refl w.heap.size w).alloc (Nat.le_refl _) (.cells #[.int .u8 2, .int .u64 0, .string name, .int .u8 0, .slice K 0 c] 40)
  have B0 := Bk.new w #[.int .u8 2, .int .u64 0, .string name, .int .u8 0, .slice K 0 c] 40
  have hNM : ∀ W, Calls Tryz.prog 13 #[.string name] W fun e w' => e = .returned (.bool true) ∧ Below W.heap.size W w' := fun W => by have h := rNamed_any name W; rw [hN] at h; exact h
  have HNM := Lib.hid hNM
  clear hNM hN
  go_enter Tryz.func66, Tryz.ntmps66
  go_wp2_with (first
    | (go_at_call 13; refine (HNM.out _).mono ?_; rintro e w1 ⟨rfl, hb1⟩; have B1 := B0.mono hb1; have C1 := B1.cell)
    | fail)
  go_ret
  exact ⟨rfl, bt hb0 hb1⟩

set_option maxRecDepth 100000 in
set_option maxHeartbeats 1000000 in
theorem shape_k4_num (b : Bool) (num op : Int) (n : Nat) (name : ByteArray) (hN : isName name.data.toList = b) (hnum : ¬ num = 0) (K : Option Addr) (c : Nat) (w : World) :
    Calls Tryz.prog 66 #[.agg #[.int .u8 4, .int .u64 num, .string name, .int .u8 op, .slice K n c]] w fun e w' => e = .returned (.bool false) ∧ Below w.heap.size w w' := by
  have hb0 := (Below.refl w.heap.size w).alloc (Nat.le_refl _) (.cells #[.int .u8 4, .int .u64 num, .string name, .int .u8 op, .slice K n c] 40)
  have B0 := Bk.new w #[.int .u8 4, .int .u64 num, .string name, .int .u8 op, .slice K n c] 40
  have hNM : ∀ W, Calls Tryz.prog 13 #[.string name] W fun e w' => e = .returned (.bool b) ∧ Below W.heap.size W w' := fun W => by have h := rNamed_any name W; rw [hN] at h; exact h
  have HNM := Lib.hid hNM
  clear hNM hN
  have q1num : (num == 0) = false := by simpa using hnum
  have q2num : (num != 0) = true := by simpa using hnum
  go_enter Tryz.func66, Tryz.ntmps66
  go_wp2_with (first
    | (go_at_call 13; refine (HNM.out _).mono ?_; rintro e w1 ⟨rfl, hb1⟩; have B1 := B0.mono hb1; have C1 := B1.cell)
    | fail)
  go_ret
  exact ⟨rfl, bt hb0 hb1⟩

set_option maxRecDepth 100000 in
set_option maxHeartbeats 1000000 in
theorem shape_k4_bad (op : Int) (n : Nat) (name : ByteArray) (hN : isName name.data.toList = false) (K : Option Addr) (c : Nat) (w : World) :
    Calls Tryz.prog 66 #[.agg #[.int .u8 4, .int .u64 0, .string name, .int .u8 op, .slice K n c]] w fun e w' => e = .returned (.bool false) ∧ Below w.heap.size w w' := by
  have hb0 := (Below.refl w.heap.size w).alloc (Nat.le_refl _) (.cells #[.int .u8 4, .int .u64 0, .string name, .int .u8 op, .slice K n c] 40)
  have B0 := Bk.new w #[.int .u8 4, .int .u64 0, .string name, .int .u8 op, .slice K n c] 40
  have hNM : ∀ W, Calls Tryz.prog 13 #[.string name] W fun e w' => e = .returned (.bool false) ∧ Below W.heap.size W w' := fun W => by have h := rNamed_any name W; rw [hN] at h; exact h
  have HNM := Lib.hid hNM
  clear hNM hN
  go_enter Tryz.func66, Tryz.ntmps66
  go_wp2_with (first
    | (go_at_call 13; refine (HNM.out _).mono ?_; rintro e w1 ⟨rfl, hb1⟩; have B1 := B0.mono hb1; have C1 := B1.cell)
    | fail)
  go_ret
  exact ⟨rfl, bt hb0 hb1⟩

set_option maxRecDepth 100000 in
set_option maxHeartbeats 1000000 in
theorem shape_k4_op (op : Int) (n : Nat) (name : ByteArray) (hN : isName name.data.toList = true) (hop : ¬ op = 0) (K : Option Addr) (c : Nat) (w : World) :
    Calls Tryz.prog 66 #[.agg #[.int .u8 4, .int .u64 0, .string name, .int .u8 op, .slice K n c]] w fun e w' => e = .returned (.bool false) ∧ Below w.heap.size w w' := by
  have hb0 := (Below.refl w.heap.size w).alloc (Nat.le_refl _) (.cells #[.int .u8 4, .int .u64 0, .string name, .int .u8 op, .slice K n c] 40)
  have B0 := Bk.new w #[.int .u8 4, .int .u64 0, .string name, .int .u8 op, .slice K n c] 40
  have hNM : ∀ W, Calls Tryz.prog 13 #[.string name] W fun e w' => e = .returned (.bool true) ∧ Below W.heap.size W w' := fun W => by have h := rNamed_any name W; rw [hN] at h; exact h
  have HNM := Lib.hid hNM
  clear hNM hN
  have q1op : (op == 0) = false := by simpa using hop
  have q2op : (op != 0) = true := by simpa using hop
  go_enter Tryz.func66, Tryz.ntmps66
  go_wp2_with (first
    | (go_at_call 13; refine (HNM.out _).mono ?_; rintro e w1 ⟨rfl, hb1⟩; have B1 := B0.mono hb1; have C1 := B1.cell)
    | fail)
  go_ret
  exact ⟨rfl, bt hb0 hb1⟩

set_option maxRecDepth 100000 in
set_option maxHeartbeats 1000000 in
theorem shape_k4_len (n : Nat) (name : ByteArray) (hN : isName name.data.toList = true) (hn : ¬ (n : Int) = 0) (K : Option Addr) (c : Nat) (w : World) :
    Calls Tryz.prog 66 #[.agg #[.int .u8 4, .int .u64 0, .string name, .int .u8 0, .slice K n c]] w fun e w' => e = .returned (.bool false) ∧ Below w.heap.size w w' := by
  have hb0 := (Below.refl w.heap.size w).alloc (Nat.le_refl _) (.cells #[.int .u8 4, .int .u64 0, .string name, .int .u8 0, .slice K n c] 40)
  have B0 := Bk.new w #[.int .u8 4, .int .u64 0, .string name, .int .u8 0, .slice K n c] 40
  have hNM : ∀ W, Calls Tryz.prog 13 #[.string name] W fun e w' => e = .returned (.bool true) ∧ Below W.heap.size W w' := fun W => by have h := rNamed_any name W; rw [hN] at h; exact h
  have HNM := Lib.hid hNM
  clear hNM hN
  have q1n : (((n : Nat) : Int) == 0) = false := by simpa using hn
  have q2n : (((n : Nat) : Int) != 0) = true := by simpa using hn
  go_enter Tryz.func66, Tryz.ntmps66
  go_wp2_with (first
    | (go_at_call 13; refine (HNM.out _).mono ?_; rintro e w1 ⟨rfl, hb1⟩; have B1 := B0.mono hb1; have C1 := B1.cell)
    | fail)
  go_ret
  exact ⟨rfl, bt hb0 hb1⟩

set_option maxRecDepth 100000 in
set_option maxHeartbeats 1000000 in
theorem shape_k4_ok (name : ByteArray) (hN : isName name.data.toList = true) (K : Option Addr) (c : Nat) (w : World) :
    Calls Tryz.prog 66 #[.agg #[.int .u8 4, .int .u64 0, .string name, .int .u8 0, .slice K 0 c]] w fun e w' => e = .returned (.bool true) ∧ Below w.heap.size w w' := by
  have hb0 := (Below.refl w.heap.size w).alloc (Nat.le_refl _) (.cells #[.int .u8 4, .int .u64 0, .string name, .int .u8 0, .slice K 0 c] 40)
  have B0 := Bk.new w #[.int .u8 4, .int .u64 0, .string name, .int .u8 0, .slice K 0 c] 40
  have hNM : ∀ W, Calls Tryz.prog 13 #[.string name] W fun e w' => e = .returned (.bool true) ∧ Below W.heap.size W w' := fun W => by have h := rNamed_any name W; rw [hN] at h; exact h
  have HNM := Lib.hid hNM
  clear hNM hN
  go_enter Tryz.func66, Tryz.ntmps66
  go_wp2_with (first
    | (go_at_call 13; refine (HNM.out _).mono ?_; rintro e w1 ⟨rfl, hb1⟩; have B1 := B0.mono hb1; have C1 := B1.cell)
    | fail)
  go_ret
  exact ⟨rfl, bt hb0 hb1⟩

set_option maxRecDepth 100000 in
set_option maxHeartbeats 1000000 in
theorem shape_k5_num (b : Bool) (num op : Int) (n : Nat) (name : ByteArray) (hN : isName name.data.toList = b) (hnum : ¬ num = 0) (K : Option Addr) (c : Nat) (w : World) :
    Calls Tryz.prog 66 #[.agg #[.int .u8 5, .int .u64 num, .string name, .int .u8 op, .slice K n c]] w fun e w' => e = .returned (.bool false) ∧ Below w.heap.size w w' := by
  have hb0 := (Below.refl w.heap.size w).alloc (Nat.le_refl _) (.cells #[.int .u8 5, .int .u64 num, .string name, .int .u8 op, .slice K n c] 40)
  have B0 := Bk.new w #[.int .u8 5, .int .u64 num, .string name, .int .u8 op, .slice K n c] 40
  have hNM : ∀ W, Calls Tryz.prog 13 #[.string name] W fun e w' => e = .returned (.bool b) ∧ Below W.heap.size W w' := fun W => by have h := rNamed_any name W; rw [hN] at h; exact h
  have HNM := Lib.hid hNM
  clear hNM hN
  have q1num : (num == 0) = false := by simpa using hnum
  have q2num : (num != 0) = true := by simpa using hnum
  go_enter Tryz.func66, Tryz.ntmps66
  go_wp2_with (first
    | (go_at_call 13; refine (HNM.out _).mono ?_; rintro e w1 ⟨rfl, hb1⟩; have B1 := B0.mono hb1; have C1 := B1.cell)
    | fail)
  go_ret
  exact ⟨rfl, bt hb0 hb1⟩

set_option maxRecDepth 100000 in
set_option maxHeartbeats 1000000 in
theorem shape_k5_bad (op : Int) (n : Nat) (name : ByteArray) (hN : isName name.data.toList = false) (K : Option Addr) (c : Nat) (w : World) :
    Calls Tryz.prog 66 #[.agg #[.int .u8 5, .int .u64 0, .string name, .int .u8 op, .slice K n c]] w fun e w' => e = .returned (.bool false) ∧ Below w.heap.size w w' := by
  have hb0 := (Below.refl w.heap.size w).alloc (Nat.le_refl _) (.cells #[.int .u8 5, .int .u64 0, .string name, .int .u8 op, .slice K n c] 40)
  have B0 := Bk.new w #[.int .u8 5, .int .u64 0, .string name, .int .u8 op, .slice K n c] 40
  have hNM : ∀ W, Calls Tryz.prog 13 #[.string name] W fun e w' => e = .returned (.bool false) ∧ Below W.heap.size W w' := fun W => by have h := rNamed_any name W; rw [hN] at h; exact h
  have HNM := Lib.hid hNM
  clear hNM hN
  go_enter Tryz.func66, Tryz.ntmps66
  go_wp2_with (first
    | (go_at_call 13; refine (HNM.out _).mono ?_; rintro e w1 ⟨rfl, hb1⟩; have B1 := B0.mono hb1; have C1 := B1.cell)
    | fail)
  go_ret
  exact ⟨rfl, bt hb0 hb1⟩

set_option maxRecDepth 100000 in
set_option maxHeartbeats 1000000 in
theorem shape_k5_op (op : Int) (n : Nat) (name : ByteArray) (hN : isName name.data.toList = true) (hop : ¬ op = 0) (K : Option Addr) (c : Nat) (w : World) :
    Calls Tryz.prog 66 #[.agg #[.int .u8 5, .int .u64 0, .string name, .int .u8 op, .slice K n c]] w fun e w' => e = .returned (.bool false) ∧ Below w.heap.size w w' := by
  have hb0 := (Below.refl w.heap.size w).alloc (Nat.le_refl _) (.cells #[.int .u8 5, .int .u64 0, .string name, .int .u8 op, .slice K n c] 40)
  have B0 := Bk.new w #[.int .u8 5, .int .u64 0, .string name, .int .u8 op, .slice K n c] 40
  have hNM : ∀ W, Calls Tryz.prog 13 #[.string name] W fun e w' => e = .returned (.bool true) ∧ Below W.heap.size W w' := fun W => by have h := rNamed_any name W; rw [hN] at h; exact h
  have HNM := Lib.hid hNM
  clear hNM hN
  have q1op : (op == 0) = false := by simpa using hop
  have q2op : (op != 0) = true := by simpa using hop
  go_enter Tryz.func66, Tryz.ntmps66
  go_wp2_with (first
    | (go_at_call 13; refine (HNM.out _).mono ?_; rintro e w1 ⟨rfl, hb1⟩; have B1 := B0.mono hb1; have C1 := B1.cell)
    | fail)
  go_ret
  exact ⟨rfl, bt hb0 hb1⟩

set_option maxRecDepth 100000 in
set_option maxHeartbeats 1000000 in
theorem shape_k5_len (n : Nat) (name : ByteArray) (hN : isName name.data.toList = true) (hn : ¬ (n : Int) = 1) (K : Option Addr) (c : Nat) (w : World) :
    Calls Tryz.prog 66 #[.agg #[.int .u8 5, .int .u64 0, .string name, .int .u8 0, .slice K n c]] w fun e w' => e = .returned (.bool false) ∧ Below w.heap.size w w' := by
  have hb0 := (Below.refl w.heap.size w).alloc (Nat.le_refl _) (.cells #[.int .u8 5, .int .u64 0, .string name, .int .u8 0, .slice K n c] 40)
  have B0 := Bk.new w #[.int .u8 5, .int .u64 0, .string name, .int .u8 0, .slice K n c] 40
  have hNM : ∀ W, Calls Tryz.prog 13 #[.string name] W fun e w' => e = .returned (.bool true) ∧ Below W.heap.size W w' := fun W => by have h := rNamed_any name W; rw [hN] at h; exact h
  have HNM := Lib.hid hNM
  clear hNM hN
  have q1n : (((n : Nat) : Int) == 1) = false := by simpa using hn
  have q2n : (((n : Nat) : Int) != 1) = true := by simpa using hn
  go_enter Tryz.func66, Tryz.ntmps66
  go_wp2_with (first
    | (go_at_call 13; refine (HNM.out _).mono ?_; rintro e w1 ⟨rfl, hb1⟩; have B1 := B0.mono hb1; have C1 := B1.cell)
    | fail)
  go_ret
  exact ⟨rfl, bt hb0 hb1⟩

set_option maxRecDepth 100000 in
set_option maxHeartbeats 1000000 in
theorem shape_k5_ok (name : ByteArray) (hN : isName name.data.toList = true) (K : Option Addr) (c : Nat) (w : World) :
    Calls Tryz.prog 66 #[.agg #[.int .u8 5, .int .u64 0, .string name, .int .u8 0, .slice K 1 c]] w fun e w' => e = .returned (.bool true) ∧ Below w.heap.size w w' := by
  have hb0 := (Below.refl w.heap.size w).alloc (Nat.le_refl _) (.cells #[.int .u8 5, .int .u64 0, .string name, .int .u8 0, .slice K 1 c] 40)
  have B0 := Bk.new w #[.int .u8 5, .int .u64 0, .string name, .int .u8 0, .slice K 1 c] 40
  have hNM : ∀ W, Calls Tryz.prog 13 #[.string name] W fun e w' => e = .returned (.bool true) ∧ Below W.heap.size W w' := fun W => by have h := rNamed_any name W; rw [hN] at h; exact h
  have HNM := Lib.hid hNM
  clear hNM hN
  go_enter Tryz.func66, Tryz.ntmps66
  go_wp2_with (first
    | (go_at_call 13; refine (HNM.out _).mono ?_; rintro e w1 ⟨rfl, hb1⟩; have B1 := B0.mono hb1; have C1 := B1.cell)
    | fail)
  go_ret
  exact ⟨rfl, bt hb0 hb1⟩

set_option maxRecDepth 100000 in
set_option maxHeartbeats 1000000 in
theorem shape_k3_num (b : Bool) (num op : Int) (n : Nat) (name : ByteArray) (hN : isName name.data.toList = b) (hnum : ¬ num = 0) (K : Option Addr) (c : Nat) (w : World) :
    Calls Tryz.prog 66 #[.agg #[.int .u8 3, .int .u64 num, .string name, .int .u8 op, .slice K n c]] w fun e w' => e = .returned (.bool false) ∧ Below w.heap.size w w' := by
  have hb0 := (Below.refl w.heap.size w).alloc (Nat.le_refl _) (.cells #[.int .u8 3, .int .u64 num, .string name, .int .u8 op, .slice K n c] 40)
  have B0 := Bk.new w #[.int .u8 3, .int .u64 num, .string name, .int .u8 op, .slice K n c] 40
  have hNM : ∀ W, Calls Tryz.prog 13 #[.string name] W fun e w' => e = .returned (.bool b) ∧ Below W.heap.size W w' := fun W => by have h := rNamed_any name W; rw [hN] at h; exact h
  have HNM := Lib.hid hNM
  clear hNM hN
  have q1num : (num == 0) = false := by simpa using hnum
  have q2num : (num != 0) = true := by simpa using hnum
  go_enter Tryz.func66, Tryz.ntmps66
  go_wp2_with (first
    | (go_at_call 13; refine (HNM.out _).mono ?_; rintro e w1 ⟨rfl, hb1⟩; have B1 := B0.mono hb1; have C1 := B1.cell)
    | fail)
  go_ret
  exact ⟨rfl, bt hb0 hb1⟩

set_option maxRecDepth 100000 in
set_option maxHeartbeats 1000000 in
theorem shape_k3_name (b : Bool) (op : Int) (n : Nat) (name : ByteArray) (hN : isName name.data.toList = b) (hnm : 0 < name.size) (K : Option Addr) (c : Nat) (w : World) :
    Calls Tryz.prog 66 #[.agg #[.int .u8 3, .int .u64 0, .string name, .int .u8 op, .slice K n c]] w fun e w' => e = .returned (.bool false) ∧ Below w.heap.size w w' := by
  have hb0 := (Below.refl w.heap.size w).alloc (Nat.le_refl _) (.cells #[.int .u8 3, .int .u64 0, .string name, .int .u8 op, .slice K n c] 40)
  have B0 := Bk.new w #[.int .u8 3, .int .u64 0, .string name, .int .u8 op, .slice K n c] 40
  have hNM : ∀ W, Calls Tryz.prog 13 #[.string name] W fun e w' => e = .returned (.bool b) ∧ Below W.heap.size W w' := fun W => by have h := rNamed_any name W; rw [hN] at h; exact h
  have HNM := Lib.hid hNM
  clear hNM hN
  have e1 : ¬ name.toList = [] := ne_of_size hnm
  have e2 : name.toList.isEmpty = false := nem_of_size hnm
  have e3 : (name.toList == []) = false := by simpa using e1
  go_enter Tryz.func66, Tryz.ntmps66
  go_wp2_with (first
    | (go_at_call 13; refine (HNM.out _).mono ?_; rintro e w1 ⟨rfl, hb1⟩; have B1 := B0.mono hb1; have C1 := B1.cell)
    | fail)
  go_ret
  exact ⟨rfl, bt hb0 hb1⟩

set_option maxRecDepth 100000 in
set_option maxHeartbeats 1000000 in
theorem shape_k3_op (b : Bool) (op : Int) (n : Nat) (name : ByteArray) (hN : isName name.data.toList = b) (hnm : name.size = 0) (h0 : 0 ≤ op) (h1 : op < 256) (hop : ¬ (1 ≤ op ∧ op ≤ 14)) (K : Option Addr) (c : Nat) (w : World) :
    Calls Tryz.prog 66 #[.agg #[.int .u8 3, .int .u64 0, .string name, .int .u8 op, .slice K n c]] w fun e w' => e = .returned (.bool false) ∧ Below w.heap.size w w' := by
  have hb0 := (Below.refl w.heap.size w).alloc (Nat.le_refl _) (.cells #[.int .u8 3, .int .u64 0, .string name, .int .u8 op, .slice K n c] 40)
  have B0 := Bk.new w #[.int .u8 3, .int .u64 0, .string name, .int .u8 op, .slice K n c] 40
  have hNM : ∀ W, Calls Tryz.prog 13 #[.string name] W fun e w' => e = .returned (.bool b) ∧ Below W.heap.size W w' := fun W => by have h := rNamed_any name W; rw [hN] at h; exact h
  have HNM := Lib.hid hNM
  clear hNM hN
  have e1 : name.toList = [] := nil_of_size hnm
  have e2 : name.toList.isEmpty = true := emp_of_size hnm
  have hSG : ∀ W, Calls Tryz.prog 45 #[.int .u8 op] W fun e w' => e = .returned (.string ⟨#[]⟩) ∧ Below W.heap.size W w' := fun W => by have h := rSg_c op h0 h1 W; rw [opSign_nil op h0 hop] at h; exact h
  have HSG := Lib.hid hSG
  clear hSG hop
  go_enter Tryz.func66, Tryz.ntmps66
  go_wp2_with (first
    | (go_at_call 13; refine (HNM.out _).mono ?_; rintro e w1 ⟨rfl, hb1⟩; have B1 := B0.mono hb1; have C1 := B1.cell)
    | (go_at_call 45; refine (HSG.out _).mono ?_; rintro e w2 ⟨rfl, hb2⟩; have B2 := B1.mono hb2; have C2 := B2.cell)
    | fail)
  go_ret
  exact ⟨rfl, bt (bt hb0 hb1) hb2⟩

set_option maxRecDepth 100000 in
set_option maxHeartbeats 1000000 in
theorem shape_k3_len (b : Bool) (op : Int) (n : Nat) (name : ByteArray) (hN : isName name.data.toList = b) (hnm : name.size = 0) (hop1 : 1 ≤ op) (hop2 : op ≤ 14) (hn : ¬ (n : Int) = 2) (K : Option Addr) (c : Nat) (w : World) :
    Calls Tryz.prog 66 #[.agg #[.int .u8 3, .int .u64 0, .string name, .int .u8 op, .slice K n c]] w fun e w' => e = .returned (.bool false) ∧ Below w.heap.size w w' := by
  have hb0 := (Below.refl w.heap.size w).alloc (Nat.le_refl _) (.cells #[.int .u8 3, .int .u64 0, .string name, .int .u8 op, .slice K n c] 40)
  have B0 := Bk.new w #[.int .u8 3, .int .u64 0, .string name, .int .u8 op, .slice K n c] 40
  have hNM : ∀ W, Calls Tryz.prog 13 #[.string name] W fun e w' => e = .returned (.bool b) ∧ Below W.heap.size W w' := fun W => by have h := rNamed_any name W; rw [hN] at h; exact h
  have HNM := Lib.hid hNM
  clear hNM hN
  have e1 : name.toList = [] := nil_of_size hnm
  have e2 : name.toList.isEmpty = true := emp_of_size hnm
  obtain ⟨S, hS⟩ : ∃ S : ByteArray, S = ⟨(opSign op).toArray⟩ := ⟨_, rfl⟩
  have hS0 : 0 < S.size := by rw [hS]; exact List.length_pos_iff.2 (opSign_ne op hop1 hop2)
  have hSG : ∀ W, Calls Tryz.prog 45 #[.int .u8 op] W fun e w' => e = .returned (.string S) ∧ Below W.heap.size W w' := fun W => by rw [hS]; exact rSg_c op (by omega) (by omega) W
  have HSG := Lib.hid hSG
  have f1 : ¬ S.toList = [] := ne_of_size hS0
  have f2 : S.toList.isEmpty = false := nem_of_size hS0
  have f3 : (S.toList == []) = false := by simpa using f1
  clear hSG hS hS0
  have q1n : (((n : Nat) : Int) == 2) = false := by simpa using hn
  have q2n : (((n : Nat) : Int) != 2) = true := by simpa using hn
  go_enter Tryz.func66, Tryz.ntmps66
  go_wp2_with (first
    | (go_at_call 13; refine (HNM.out _).mono ?_; rintro e w1 ⟨rfl, hb1⟩; have B1 := B0.mono hb1; have C1 := B1.cell)
    | (go_at_call 45; refine (HSG.out _).mono ?_; rintro e w2 ⟨rfl, hb2⟩; have B2 := B1.mono hb2; have C2 := B2.cell)
    | fail)
  go_ret
  exact ⟨rfl, bt (bt hb0 hb1) hb2⟩

set_option maxRecDepth 100000 in
set_option maxHeartbeats 1000000 in
theorem shape_k3_ok (b : Bool) (op : Int) (name : ByteArray) (hN : isName name.data.toList = b) (hnm : name.size = 0) (hop1 : 1 ≤ op) (hop2 : op ≤ 14) (K : Option Addr) (c : Nat) (w : World) :
    Calls Tryz.prog 66 #[.agg #[.int .u8 3, .int .u64 0, .string name, .int .u8 op, .slice K 2 c]] w fun e w' => e = .returned (.bool true) ∧ Below w.heap.size w w' := by
  have hb0 := (Below.refl w.heap.size w).alloc (Nat.le_refl _) (.cells #[.int .u8 3, .int .u64 0, .string name, .int .u8 op, .slice K 2 c] 40)
  have B0 := Bk.new w #[.int .u8 3, .int .u64 0, .string name, .int .u8 op, .slice K 2 c] 40
  have hNM : ∀ W, Calls Tryz.prog 13 #[.string name] W fun e w' => e = .returned (.bool b) ∧ Below W.heap.size W w' := fun W => by have h := rNamed_any name W; rw [hN] at h; exact h
  have HNM := Lib.hid hNM
  clear hNM hN
  have e1 : name.toList = [] := nil_of_size hnm
  have e2 : name.toList.isEmpty = true := emp_of_size hnm
  obtain ⟨S, hS⟩ : ∃ S : ByteArray, S = ⟨(opSign op).toArray⟩ := ⟨_, rfl⟩
  have hS0 : 0 < S.size := by rw [hS]; exact List.length_pos_iff.2 (opSign_ne op hop1 hop2)
  have hSG : ∀ W, Calls Tryz.prog 45 #[.int .u8 op] W fun e w' => e = .returned (.string S) ∧ Below W.heap.size W w' := fun W => by rw [hS]; exact rSg_c op (by omega) (by omega) W
  have HSG := Lib.hid hSG
  have f1 : ¬ S.toList = [] := ne_of_size hS0
  have f2 : S.toList.isEmpty = false := nem_of_size hS0
  have f3 : (S.toList == []) = false := by simpa using f1
  clear hSG hS hS0
  go_enter Tryz.func66, Tryz.ntmps66
  go_wp2_with (first
    | (go_at_call 13; refine (HNM.out _).mono ?_; rintro e w1 ⟨rfl, hb1⟩; have B1 := B0.mono hb1; have C1 := B1.cell)
    | (go_at_call 45; refine (HSG.out _).mono ?_; rintro e w2 ⟨rfl, hb2⟩; have B2 := B1.mono hb2; have C2 := B2.cell)
    | fail)
  go_ret
  exact ⟨rfl, bt (bt hb0 hb1) hb2⟩

set_option maxRecDepth 100000 in
set_option maxHeartbeats 1000000 in
theorem shape_other (b : Bool) (k num op : Int) (h1 : (k == 1) = false) (h2 : (k == 2) = false) (h3 : (k == 3) = false) (h4 : (k == 4) = false) (h5 : (k == 5) = false) (n : Nat) (name : ByteArray) (hN : isName name.data.toList = b) (K : Option Addr) (c : Nat) (w : World) :
    Calls Tryz.prog 66 #[.agg #[.int .u8 k, .int .u64 num, .string name, .int .u8 op, .slice K n c]] w fun e w' => e = .returned (.bool false) ∧ Below w.heap.size w w' := by
  have hb0 := (Below.refl w.heap.size w).alloc (Nat.le_refl _) (.cells #[.int .u8 k, .int .u64 num, .string name, .int .u8 op, .slice K n c] 40)
  have B0 := Bk.new w #[.int .u8 k, .int .u64 num, .string name, .int .u8 op, .slice K n c] 40
  have hNM : ∀ W, Calls Tryz.prog 13 #[.string name] W fun e w' => e = .returned (.bool b) ∧ Below W.heap.size W w' := fun W => by have h := rNamed_any name W; rw [hN] at h; exact h
  have HNM := Lib.hid hNM
  clear hNM hN
  go_enter Tryz.func66, Tryz.ntmps66
  go_wp2_with (first
    | (go_at_call 13; refine (HNM.out _).mono ?_; rintro e w1 ⟨rfl, hb1⟩; have B1 := B0.mono hb1; have C1 := B1.cell)
    | fail)
  go_ret
  exact ⟨rfl, bt hb0 hb1⟩

theorem shape_c (x : Ex) (h0 : 0 ≤ x.op) (h1 : x.op < 256) (K : Option Addr) (c : Nat) (w : World) :
    Calls Tryz.prog 66 #[.agg #[.int .u8 x.k, .int .u64 x.num, .string x.name, .int .u8 x.op, .slice K x.kids.length c]] w fun e w' => e = .returned (.bool (shapeB x)) ∧ Below w.heap.size w w' := by
  obtain ⟨k, num, name, op, kids⟩ := x
  simp only [Ex.k, Ex.num, Ex.name, Ex.op, Ex.kids] at h0 h1 ⊢
  have fin : ∀ v : Bool, shapeB (.mk k num name op kids) = v → (Calls Tryz.prog 66 #[.agg #[.int .u8 k, .int .u64 num, .string name, .int .u8 op, .slice K kids.length c]] w fun e w' => e = .returned (.bool v) ∧ Below w.heap.size w w') →
      Calls Tryz.prog 66 #[.agg #[.int .u8 k, .int .u64 num, .string name, .int .u8 op, .slice K kids.length c]] w fun e w' => e = .returned (.bool (shapeB (.mk k num name op kids))) ∧ Below w.heap.size w w' := by
    rintro v rfl h; exact h
  by_cases k1 : k = 1
  · subst k1
    by_cases hnm : name.size = 0
    case neg => exact fin false (by simp [shapeB, Ex.k, Ex.name, Ex.op, Ex.kids, nameB, Ex.num, hnm]) (shape_k1_name _ _ _ _ _ rfl (by omega) K c w)
    by_cases hop : op = 0
    case neg => exact fin false (by simp [shapeB, Ex.k, Ex.name, Ex.op, Ex.kids, nameB, Ex.num, hop]) (shape_k1_op _ _ _ _ _ rfl hnm hop K c w)
    subst hop
    by_cases hn : kids.length = 0
    case neg => exact fin false (by simp [shapeB, Ex.k, Ex.name, Ex.op, Ex.kids, nameB, Ex.num, hn]) (shape_k1_len _ _ _ _ rfl hnm (by omega) K c w)
    refine fin true (by simp [shapeB, Ex.k, Ex.name, Ex.op, Ex.kids, nameB, Ex.num, hnm, hn]) ?_
    rw [hn]
    exact shape_k1_ok _ _ _ rfl hnm K c w
  by_cases k2 : k = 2
  · subst k2
    by_cases hnum : num = 0
    case neg => exact fin false (by simp [shapeB, Ex.k, Ex.name, Ex.op, Ex.kids, nameB, Ex.num, hnum]) (shape_k2_num _ _ _ _ _ rfl hnum K c w)
    subst hnum
    cases hN : isName name.data.toList with
    | false => exact fin false (by simp [shapeB, Ex.k, Ex.name, Ex.op, Ex.kids, nameB, Ex.num, hN]) (shape_k2_bad _ _ _ hN K c w)
    | true =>
    by_cases hop : op = 0
    case neg => exact fin false (by simp [shapeB, Ex.k, Ex.name, Ex.op, Ex.kids, nameB, Ex.num, hop]) (shape_k2_op _ _ _ hN hop K c w)
    subst hop
    by_cases hn : kids.length = 0
    case neg => exact fin false (by simp [shapeB, Ex.k, Ex.name, Ex.op, Ex.kids, nameB, Ex.num, hn]) (shape_k2_len _ _ hN (by omega) K c w)
    refine fin true (by simp [shapeB, Ex.k, Ex.name, Ex.op, Ex.kids, nameB, Ex.num, hN, hn]) ?_
    rw [hn]
    exact shape_k2_ok _ hN K c w
  by_cases k4 : k = 4
  · subst k4
    by_cases hnum : num = 0
    case neg => exact fin false (by simp [shapeB, Ex.k, Ex.name, Ex.op, Ex.kids, nameB, Ex.num, hnum]) (shape_k4_num _ _ _ _ _ rfl hnum K c w)
    subst hnum
    cases hN : isName name.data.toList with
    | false => exact fin false (by simp [shapeB, Ex.k, Ex.name, Ex.op, Ex.kids, nameB, Ex.num, hN]) (shape_k4_bad _ _ _ hN K c w)
    | true =>
    by_cases hop : op = 0
    case neg => exact fin false (by simp [shapeB, Ex.k, Ex.name, Ex.op, Ex.kids, nameB, Ex.num, hop]) (shape_k4_op _ _ _ hN hop K c w)
    subst hop
    by_cases hn : kids.length = 0
    case neg => exact fin false (by simp [shapeB, Ex.k, Ex.name, Ex.op, Ex.kids, nameB, Ex.num, hn]) (shape_k4_len _ _ hN (by omega) K c w)
    refine fin true (by simp [shapeB, Ex.k, Ex.name, Ex.op, Ex.kids, nameB, Ex.num, hN, hn]) ?_
    rw [hn]
    exact shape_k4_ok _ hN K c w
  by_cases k5 : k = 5
  · subst k5
    by_cases hnum : num = 0
    case neg => exact fin false (by simp [shapeB, Ex.k, Ex.name, Ex.op, Ex.kids, nameB, Ex.num, hnum]) (shape_k5_num _ _ _ _ _ rfl hnum K c w)
    subst hnum
    cases hN : isName name.data.toList with
    | false => exact fin false (by simp [shapeB, Ex.k, Ex.name, Ex.op, Ex.kids, nameB, Ex.num, hN]) (shape_k5_bad _ _ _ hN K c w)
    | true =>
    by_cases hop : op = 0
    case neg => exact fin false (by simp [shapeB, Ex.k, Ex.name, Ex.op, Ex.kids, nameB, Ex.num, hop]) (shape_k5_op _ _ _ hN hop K c w)
    subst hop
    by_cases hn : kids.length = 1
    case neg => exact fin false (by simp [shapeB, Ex.k, Ex.name, Ex.op, Ex.kids, nameB, Ex.num, hn]) (shape_k5_len _ _ hN (by omega) K c w)
    refine fin true (by simp [shapeB, Ex.k, Ex.name, Ex.op, Ex.kids, nameB, Ex.num, hN, hn]) ?_
    rw [hn]
    exact shape_k5_ok _ hN K c w
  by_cases k3 : k = 3
  · subst k3
    by_cases hnum : num = 0
    case neg => exact fin false (by simp [shapeB, Ex.k, Ex.name, Ex.op, Ex.kids, nameB, Ex.num, hnum]) (shape_k3_num _ _ _ _ _ rfl hnum K c w)
    subst hnum
    by_cases hnm : name.size = 0
    case neg => exact fin false (by simp [shapeB, Ex.k, Ex.name, Ex.op, Ex.kids, nameB, Ex.num, hnm]) (shape_k3_name _ _ _ _ rfl (by omega) K c w)
    by_cases hop : 1 ≤ op ∧ op ≤ 14
    case neg =>
      refine fin false ?_ (shape_k3_op _ _ _ _ rfl hnm h0 h1 hop K c w)
      unfold shapeB
      rw [if_neg (by simp [Ex.k]), if_neg (by simp [Ex.k]), if_pos (by rfl)]
      have h9 : (decide (1 ≤ (Ex.mk 3 0 name op kids).op) && decide ((Ex.mk 3 0 name op kids).op ≤ 14)) = false := by
        rcases (by omega : op < 1 ∨ 14 < op) with h | h
        · rw [decide_eq_false (show ¬ 1 ≤ (Ex.mk 3 0 name op kids).op by show ¬ 1 ≤ op; omega)]; rfl
        · rw [decide_eq_false (show ¬ (Ex.mk 3 0 name op kids).op ≤ 14 by show ¬ op ≤ 14; omega), Bool.and_false]
      rw [h9]; simp
    obtain ⟨hop1, hop2⟩ := hop
    by_cases hn : kids.length = 2
    case neg => exact fin false (by simp [shapeB, Ex.k, Ex.name, Ex.op, Ex.kids, nameB, Ex.num, hn]) (shape_k3_len _ _ _ _ rfl hnm hop1 hop2 (by omega) K c w)
    refine fin true (by simp [shapeB, Ex.k, Ex.name, Ex.op, Ex.kids, nameB, Ex.num, hnm, hn, hop1, hop2]) ?_
    rw [hn]
    exact shape_k3_ok _ _ _ rfl hnm hop1 hop2 K c w
  refine fin false (by simp [shapeB, Ex.k, k1, k2, k3, k4, k5]) (shape_other _ k num op ?_ ?_ ?_ ?_ ?_ _ name rfl K c w) <;> simp [k1, k2, k3, k4, k5]
end Go.Proofs.YtkflcmengddijaaGreatDoor
