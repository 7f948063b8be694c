/-
  ir.end walked: whether a block's end may be.
-/
import Derived.Test.YtoabiignjkcdmaaGreatIrW1
namespace Go.Proofs.YtoabiignjkcdmaaGreat
open Go.RowKit
set_option linter.unusedVariables false
set_option linter.unusedSimpArgs false

def blkB (n : Nat) (v : Int) : Bool := decide (0 ≤ v) && decide (v < (n : Int))
/-- May a block's end be? -/
def endS (p : SIr) (x : SBlock) : Bool :=
  if x.e = 1 then x.a == 0 && blkB p.blk.length x.go && x.els == 0
  else if x.e = 2 then varB p.sec.length x.a true && !secS p x.a && blkB p.blk.length x.go && blkB p.blk.length x.els
  else if x.e = 3 then (x.a == -1 || varB p.sec.length x.a true) && x.go == 0 && x.els == 0
  else if x.e = 4 then x.a == 0 && decide (1 ≤ x.go) && decide (x.go ≤ 3) && x.els == 0
  else false

set_option maxHeartbeats 400000 in
theorem endBlock_c' {b : Nat} {B : Option Addr} {n c : Nat} (v : Int) (w : World) (h0 : w.cell? ⟨b, 2, none⟩ = some (.slice B n c)) :
    Calls Tryz.prog 48 #[.int .i64 v, .pointer (some ⟨b, 0, none⟩)] w fun e w' => e = .returned (.bool (blkB n v)) ∧ w = w' := endBlock_c v w h0

set_option maxRecDepth 100000 in
set_option maxHeartbeats 2000000 in
theorem end_c1 (p : SIr) (a go els : Int) (S P B O : Option Addr) (c1 c2 c3 n c : Nat) (w : World) (hs : kBool.Row w S p.sec) (ops : List SOp) :
    Calls Tryz.prog 22 #[.agg #[.slice S p.sec.length c1, .slice P p.par.length c2, .slice B p.blk.length c3], .agg #[.slice O n c, .int .u8 1, .int .i64 a, .int .i64 go, .int .i64 els]] w
      fun e' w' => e' = .returned (.bool (endS p ⟨ops, 1, a, go, els⟩)) ∧ Below w.heap.size w w' := by
  have hmf : ∀ (fn : Fn) (first cap : Array Value) (w : World), (Instr.makeFunc fn first cap).run Tryz.prog w = .ok (.func fn first cap) w := fun _ _ _ _ => rfl
  have hbW : Below w.heap.size w ((w.alloc (.cells #[.slice S p.sec.length c1, .slice P p.par.length c2, .slice B p.blk.length c3] 26)).alloc (.cells #[.slice O n c, .int .u8 1, .int .i64 a, .int .i64 go, .int .i64 els] 38)) := ((Below.refl _ _).alloc (Nat.le_refl _) _).alloc (by simp) _
  go_enter Tryz.func22, Tryz.ntmps22
  go_wp2_with (go_at_call 48; refine (endBlock_c' (B := B) (n := p.blk.length) (c := c3) _ _ ((Bk.alloc (Bk.new w _ _) _).cell 2)).mono ?_; rintro e w1 ⟨rfl, rfl⟩)
  all_goals
    go_ret
    refine ⟨ret_bool ?_, ((Below.refl _ _).alloc (Nat.le_refl _) _).alloc (by simp) _⟩
    simp [endS, *]
    try (intros; omega)

set_option maxRecDepth 100000 in
set_option maxHeartbeats 2000000 in
theorem end_c2t (p : SIr) (a go els : Int) (S P B O : Option Addr) (c1 c2 c3 n c : Nat) (w : World) (hs : kBool.Row w S p.sec) (ops : List SOp) (hv : varB p.sec.length a true = true) :
    Calls Tryz.prog 22 #[.agg #[.slice S p.sec.length c1, .slice P p.par.length c2, .slice B p.blk.length c3], .agg #[.slice O n c, .int .u8 2, .int .i64 a, .int .i64 go, .int .i64 els]] w
      fun e' w' => e' = .returned (.bool (endS p ⟨ops, 2, a, go, els⟩)) ∧ Below w.heap.size w w' := by
  have hmf : ∀ (fn : Fn) (first cap : Array Value) (w : World), (Instr.makeFunc fn first cap).run Tryz.prog w = .ok (.func fn first cap) w := fun _ _ _ _ => rfl
  have hbW : Below w.heap.size w ((w.alloc (.cells #[.slice S p.sec.length c1, .slice P p.par.length c2, .slice B p.blk.length c3] 26)).alloc (.cells #[.slice O n c, .int .u8 2, .int .i64 a, .int .i64 go, .int .i64 els] 38)) := ((Below.refl _ _).alloc (Nat.le_refl _) _).alloc (by simp) _
  have hv2 := varB_in hv
  obtain ⟨sb, so, rfl, hc⟩ := kBool_at hs a.toNat (by omega)
  have hsec : p.sec[a.toNat]'(by omega) = secS p a := by simp [secS, show a.toNat < p.sec.length by omega]
  rw [hsec] at hc
  clear hs hsec
  go_enter Tryz.func22, Tryz.ntmps22
  go_wp2_with (first | (go_at_call 44; refine (variable_c _ _ _).mono ?_; rintro e w1 ⟨rfl, hb⟩; have B1 := (Bk.alloc (Bk.new w #[.slice (some ⟨sb, so, none⟩) p.sec.length c1, .slice P p.par.length c2, .slice B p.blk.length c3] 26) (.cells #[.slice O n c, .int .u8 2, .int .i64 a, .int .i64 go, .int .i64 els] 38)).mono hb; have B2 := (Bk.newAt (w := w.alloc (.cells #[.slice (some ⟨sb, so, none⟩) p.sec.length c1, .slice P p.par.length c2, .slice B p.blk.length c3] 26)) (n := w.heap.size + 1) #[.slice O n c, .int .u8 2, .int .i64 a, .int .i64 go, .int .i64 els] 38 (by simp)).mono hb; have C1 := B1.cell; have C2 := B2.cell; have hB := bt' hbW hbW.size hb; have hc1 := cm (cm hc hbW) hb) | (go_at_call 48; refine (endBlock_c' (B := B) (n := p.blk.length) (c := c3) _ _ (by exact C1 2)).mono ?_; rintro e w2 ⟨rfl, rfl⟩))
  all_goals
    go_ret
    refine ⟨ret_bool ?_, hB⟩
    simp [endS, *]

set_option maxRecDepth 100000 in
set_option maxHeartbeats 2000000 in
theorem end_c2f (p : SIr) (a go els : Int) (S P B O : Option Addr) (c1 c2 c3 n c : Nat) (w : World) (hs : kBool.Row w S p.sec) (ops : List SOp) (hv : varB p.sec.length a true = false) :
    Calls Tryz.prog 22 #[.agg #[.slice S p.sec.length c1, .slice P p.par.length c2, .slice B p.blk.length c3], .agg #[.slice O n c, .int .u8 2, .int .i64 a, .int .i64 go, .int .i64 els]] w
      fun e' w' => e' = .returned (.bool (endS p ⟨ops, 2, a, go, els⟩)) ∧ Below w.heap.size w w' := by
  have hmf : ∀ (fn : Fn) (first cap : Array Value) (w : World), (Instr.makeFunc fn first cap).run Tryz.prog w = .ok (.func fn first cap) w := fun _ _ _ _ => rfl
  have hbW : Below w.heap.size w ((w.alloc (.cells #[.slice S p.sec.length c1, .slice P p.par.length c2, .slice B p.blk.length c3] 26)).alloc (.cells #[.slice O n c, .int .u8 2, .int .i64 a, .int .i64 go, .int .i64 els] 38)) := ((Below.refl _ _).alloc (Nat.le_refl _) _).alloc (by simp) _
  clear hs
  go_enter Tryz.func22, Tryz.ntmps22
  go_wp2_with (go_at_call 44; refine (variable_c _ _ _).mono ?_; rintro e w1 ⟨rfl, hb⟩; have B1 := (Bk.alloc (Bk.new w #[.slice S p.sec.length c1, .slice P p.par.length c2, .slice B p.blk.length c3] 26) (.cells #[.slice O n c, .int .u8 2, .int .i64 a, .int .i64 go, .int .i64 els] 38)).mono hb; have B2 := (Bk.newAt (w := w.alloc (.cells #[.slice S p.sec.length c1, .slice P p.par.length c2, .slice B p.blk.length c3] 26)) (n := w.heap.size + 1) #[.slice O n c, .int .u8 2, .int .i64 a, .int .i64 go, .int .i64 els] 38 (by simp)).mono hb; have C1 := B1.cell; have C2 := B2.cell; have hB := bt' hbW hbW.size hb)
  all_goals
    go_ret
    refine ⟨ret_bool ?_, hB⟩
    simp [endS, *]

set_option maxRecDepth 100000 in
set_option maxHeartbeats 2000000 in
theorem end_c3 (p : SIr) (a go els : Int) (S P B O : Option Addr) (c1 c2 c3 n c : Nat) (w : World) (hs : kBool.Row w S p.sec) (ops : List SOp) :
    Calls Tryz.prog 22 #[.agg #[.slice S p.sec.length c1, .slice P p.par.length c2, .slice B p.blk.length c3], .agg #[.slice O n c, .int .u8 3, .int .i64 a, .int .i64 go, .int .i64 els]] w
      fun e' w' => e' = .returned (.bool (endS p ⟨ops, 3, a, go, els⟩)) ∧ Below w.heap.size w w' := by
  have hmf : ∀ (fn : Fn) (first cap : Array Value) (w : World), (Instr.makeFunc fn first cap).run Tryz.prog w = .ok (.func fn first cap) w := fun _ _ _ _ => rfl
  have hbW : Below w.heap.size w ((w.alloc (.cells #[.slice S p.sec.length c1, .slice P p.par.length c2, .slice B p.blk.length c3] 26)).alloc (.cells #[.slice O n c, .int .u8 3, .int .i64 a, .int .i64 go, .int .i64 els] 38)) := ((Below.refl _ _).alloc (Nat.le_refl _) _).alloc (by simp) _
  clear hs
  cases h1 : (a == -1)
  · go_enter Tryz.func22, Tryz.ntmps22
    go_wp2_with (go_at_call 44; refine (variable_c _ _ _).mono ?_; rintro e w1 ⟨rfl, hb⟩; have B1 := (Bk.alloc (Bk.new w #[.slice S p.sec.length c1, .slice P p.par.length c2, .slice B p.blk.length c3] 26) (.cells #[.slice O n c, .int .u8 3, .int .i64 a, .int .i64 go, .int .i64 els] 38)).mono hb; have B2 := (Bk.newAt (w := w.alloc (.cells #[.slice S p.sec.length c1, .slice P p.par.length c2, .slice B p.blk.length c3] 26)) (n := w.heap.size + 1) #[.slice O n c, .int .u8 3, .int .i64 a, .int .i64 go, .int .i64 els] 38 (by simp)).mono hb; have C1 := B1.cell; have C2 := B2.cell; have hB := bt' hbW hbW.size hb)
    all_goals
      go_ret
      refine ⟨ret_bool ?_, hB⟩
      simp [endS, *]
  · go_enter Tryz.func22, Tryz.ntmps22
    go_wp2
    all_goals
      go_ret
      refine ⟨ret_bool ?_, ((Below.refl _ _).alloc (Nat.le_refl _) _).alloc (by simp) _⟩
      simp [endS, *]
      try (intros; omega)

set_option maxRecDepth 100000 in
set_option maxHeartbeats 2000000 in
theorem end_c4 (p : SIr) (a go els : Int) (S P B O : Option Addr) (c1 c2 c3 n c : Nat) (w : World) (hs : kBool.Row w S p.sec) (ops : List SOp) :
    Calls Tryz.prog 22 #[.agg #[.slice S p.sec.length c1, .slice P p.par.length c2, .slice B p.blk.length c3], .agg #[.slice O n c, .int .u8 4, .int .i64 a, .int .i64 go, .int .i64 els]] w
      fun e' w' => e' = .returned (.bool (endS p ⟨ops, 4, a, go, els⟩)) ∧ Below w.heap.size w w' := by
  have hmf : ∀ (fn : Fn) (first cap : Array Value) (w : World), (Instr.makeFunc fn first cap).run Tryz.prog w = .ok (.func fn first cap) w := fun _ _ _ _ => rfl
  have hbW : Below w.heap.size w ((w.alloc (.cells #[.slice S p.sec.length c1, .slice P p.par.length c2, .slice B p.blk.length c3] 26)).alloc (.cells #[.slice O n c, .int .u8 4, .int .i64 a, .int .i64 go, .int .i64 els] 38)) := ((Below.refl _ _).alloc (Nat.le_refl _) _).alloc (by simp) _
  clear hs
  go_enter Tryz.func22, Tryz.ntmps22
  go_wp2
  all_goals
    go_ret
    refine ⟨ret_bool ?_, ((Below.refl _ _).alloc (Nat.le_refl _) _).alloc (by simp) _⟩
    simp [endS, *]
    try (intros; omega)

set_option maxRecDepth 100000 in
set_option maxHeartbeats 2000000 in
theorem end_c5 (p : SIr) (a go els : Int) (S P B O : Option Addr) (c1 c2 c3 n c : Nat) (w : World) (hs : kBool.Row w S p.sec) (e : Int) (ops : List SOp) (e1 : (e == 1) = false) (e2 : (e == 2) = false) (e3 : (e == 3) = false) (e4 : (e == 4) = false) :
    Calls Tryz.prog 22 #[.agg #[.slice S p.sec.length c1, .slice P p.par.length c2, .slice B p.blk.length c3], .agg #[.slice O n c, .int .u8 e, .int .i64 a, .int .i64 go, .int .i64 els]] w
      fun e' w' => e' = .returned (.bool (endS p ⟨ops, e, a, go, els⟩)) ∧ Below w.heap.size w w' := by
  have hmf : ∀ (fn : Fn) (first cap : Array Value) (w : World), (Instr.makeFunc fn first cap).run Tryz.prog w = .ok (.func fn first cap) w := fun _ _ _ _ => rfl
  have hbW : Below w.heap.size w ((w.alloc (.cells #[.slice S p.sec.length c1, .slice P p.par.length c2, .slice B p.blk.length c3] 26)).alloc (.cells #[.slice O n c, .int .u8 e, .int .i64 a, .int .i64 go, .int .i64 els] 38)) := ((Below.refl _ _).alloc (Nat.le_refl _) _).alloc (by simp) _
  clear hs
  go_enter Tryz.func22, Tryz.ntmps22
  go_wp2
  go_ret
  refine ⟨ret_bool ?_, hbW⟩
  simp only [beq_eq_false_iff_ne] at e1 e2 e3 e4
  simp [endS, *]

/-- ir.end, whatever the block. -/
theorem end_c (p : SIr) (x : SBlock) (S P B O : Option Addr) (c1 c2 c3 n c : Nat) (w : World) (hs : kBool.Row w S p.sec) :
    Calls Tryz.prog 22 #[.agg #[.slice S p.sec.length c1, .slice P p.par.length c2, .slice B p.blk.length c3], .agg #[.slice O n c, .int .u8 x.e, .int .i64 x.a, .int .i64 x.go, .int .i64 x.els]] w
      fun e' w' => e' = .returned (.bool (endS p x)) ∧ Below w.heap.size w w' := by
  obtain ⟨ops, e, a, go, els⟩ := x
  by_cases e1 : e = 1
  · subst e1; exact end_c1 p a go els S P B O c1 c2 c3 n c w hs ops
  by_cases e2 : e = 2
  · subst e2
    cases hv : varB p.sec.length a true with
    | true => exact end_c2t p a go els S P B O c1 c2 c3 n c w hs ops hv
    | false => exact end_c2f p a go els S P B O c1 c2 c3 n c w hs ops hv
  by_cases e3 : e = 3
  · subst e3; exact end_c3 p a go els S P B O c1 c2 c3 n c w hs ops
  by_cases e4 : e = 4
  · subst e4; exact end_c4 p a go els S P B O c1 c2 c3 n c w hs ops
  exact end_c5 p a go els S P B O c1 c2 c3 n c w hs e ops (by simp [e1]) (by simp [e2]) (by simp [e3]) (by simp [e4])

end Go.Proofs.YtoabiignjkcdmaaGreat
