/-
  Lemmas (texts IrW3 IrC RunP MapC), each proved without a condition beyond its own hypotheses.
-/
import Derived.Test.YtoabiignjkcdmaaGreatFd1
import Derived.Maps.RangeWalk
import Derived.Maps.OwnSet
namespace Go.Proofs.YtoabiignjkcdmaaGreat
open Go.RowKit
set_option linter.unusedVariables false
set_option linter.unusedSimpArgs false

def blkB (n : Nat) (v : Int) : Bool := decide (0 ≤ v) && decide (v < (n : Int))
/-- May a block's end be? -/
def endS (p : SIr) (x : SBlock) : Bool :=
  if x.e = 1 then x.a == 0 && blkB p.blk.length x.go && x.els == 0
  else if x.e = 2 then varB p.sec.length x.a true && !secS p x.a && blkB p.blk.length x.go && blkB p.blk.length x.els
  else if x.e = 3 then (x.a == -1 || varB p.sec.length x.a true) && x.go == 0 && x.els == 0
  else if x.e = 4 then x.a == 0 && decide (1 ≤ x.go) && decide (x.go ≤ 3) && x.els == 0
  else false

set_option maxHeartbeats 400000 in
theorem endBlock_c' {b : Nat} {B : Option Addr} {n c : Nat} (v : Int) (w : World) (h0 : w.cell? ⟨b, 2, none⟩ = some (.slice B n c)) :
    Calls Tryz.prog 48 #[.int .i64 v, .pointer (some ⟨b, 0, none⟩)] w fun e w' => e = .returned (.bool (blkB n v)) ∧ w = w' := endBlock_c v w h0

set_option maxRecDepth 100000 in
set_option maxHeartbeats 2000000 in
theorem end_c1 (p : SIr) (a go els : Int) (S P B O : Option Addr) (c1 c2 c3 n c : Nat) (w : World) (hs : kBool.Row w S p.sec) (ops : List SOp) :
    Calls Tryz.prog 22 #[.agg #[.slice S p.sec.length c1, .slice P p.par.length c2, .slice B p.blk.length c3], .agg #[.slice O n c, .int .u8 1, .int .i64 a, .int .i64 go, .int .i64 els]] w
      fun e' w' => e' = .returned (.bool (endS p ⟨ops, 1, a, go, els⟩)) ∧ Below w.heap.size w w' := by
  have hmf : ∀ (fn : Fn) (first cap : Array Value) (w : World), (Instr.makeFunc fn first cap).run Tryz.prog w = .ok (.func fn first cap) w := fun _ _ _ _ => rfl
  have hbW : Below w.heap.size w ((w.alloc (.cells #[.slice S p.sec.length c1, .slice P p.par.length c2, .slice B p.blk.length c3] 26)).alloc (.cells #[.slice O n c, .int .u8 1, .int .i64 a, .int .i64 go, .int .i64 els] 38)) := ((Below.refl _ _).alloc (Nat.le_refl _) _).alloc (by simp) _
  go_enter Tryz.func22, Tryz.ntmps22
  go_wp2_with (go_at_call 48; refine (endBlock_c' (B := B) (n := p.blk.length) (c := c3) _ _ ((Bk.alloc (Bk.new w _ _) _).cell 2)).mono ?_; rintro e w1 ⟨rfl, rfl⟩)
  all_goals
    go_ret
    refine ⟨ret_bool ?_, ((Below.refl _ _).alloc (Nat.le_refl _) _).alloc (by simp) _⟩
    simp [endS, *]
    try (intros; omega)

set_option maxRecDepth 100000 in
set_option maxHeartbeats 2000000 in
theorem end_c2t (p : SIr) (a go els : Int) (S P B O : Option Addr) (c1 c2 c3 n c : Nat) (w : World) (hs : kBool.Row w S p.sec) (ops : List SOp) (hv : varB p.sec.length a true = true) :
    Calls Tryz.prog 22 #[.agg #[.slice S p.sec.length c1, .slice P p.par.length c2, .slice B p.blk.length c3], .agg #[.slice O n c, .int .u8 2, .int .i64 a, .int .i64 go, .int .i64 els]] w
      fun e' w' => e' = .returned (.bool (endS p ⟨ops, 2, a, go, els⟩)) ∧ Below w.heap.size w w' := by
  have hmf : ∀ (fn : Fn) (first cap : Array Value) (w : World), (Instr.makeFunc fn first cap).run Tryz.prog w = .ok (.func fn first cap) w := fun _ _ _ _ => rfl
  have hbW : Below w.heap.size w ((w.alloc (.cells #[.slice S p.sec.length c1, .slice P p.par.length c2, .slice B p.blk.length c3] 26)).alloc (.cells #[.slice O n c, .int .u8 2, .int .i64 a, .int .i64 go, .int .i64 els] 38)) := ((Below.refl _ _).alloc (Nat.le_refl _) _).alloc (by simp) _
  have hv2 := varB_in hv
  obtain ⟨sb, so, rfl, hc⟩ := kBool_at hs a.toNat (by omega)
  have hsec : p.sec[a.toNat]'(by omega) = secS p a := by simp [secS, show a.toNat < p.sec.length by omega]
  rw [hsec] at hc
  clear hs hsec
  go_enter Tryz.func22, Tryz.ntmps22
  go_wp2_with (first | (go_at_call 44; refine (variable_c _ _ _).mono ?_; rintro e w1 ⟨rfl, hb⟩; have B1 := (Bk.alloc (Bk.new w #[.slice (some ⟨sb, so, none⟩) p.sec.length c1, .slice P p.par.length c2, .slice B p.blk.length c3] 26) (.cells #[.slice O n c, .int .u8 2, .int .i64 a, .int .i64 go, .int .i64 els] 38)).mono hb; have B2 := (Bk.newAt (w := w.alloc (.cells #[.slice (some ⟨sb, so, none⟩) p.sec.length c1, .slice P p.par.length c2, .slice B p.blk.length c3] 26)) (n := w.heap.size + 1) #[.slice O n c, .int .u8 2, .int .i64 a, .int .i64 go, .int .i64 els] 38 (by simp)).mono hb; have C1 := B1.cell; have C2 := B2.cell; have hB := bt' hbW hbW.size hb; have hc1 := cm (cm hc hbW) hb) | (go_at_call 48; refine (endBlock_c' (B := B) (n := p.blk.length) (c := c3) _ _ (by exact C1 2)).mono ?_; rintro e w2 ⟨rfl, rfl⟩))
  all_goals
    go_ret
    refine ⟨ret_bool ?_, hB⟩
    simp [endS, *]

set_option maxRecDepth 100000 in
set_option maxHeartbeats 2000000 in
theorem end_c2f (p : SIr) (a go els : Int) (S P B O : Option Addr) (c1 c2 c3 n c : Nat) (w : World) (hs : kBool.Row w S p.sec) (ops : List SOp) (hv : varB p.sec.length a true = false) :
    Calls Tryz.prog 22 #[.agg #[.slice S p.sec.length c1, .slice P p.par.length c2, .slice B p.blk.length c3], .agg #[.slice O n c, .int .u8 2, .int .i64 a, .int .i64 go, .int .i64 els]] w
      fun e' w' => e' = .returned (.bool (endS p ⟨ops, 2, a, go, els⟩)) ∧ Below w.heap.size w w' := by
  have hmf : ∀ (fn : Fn) (first cap : Array Value) (w : World), (Instr.makeFunc fn first cap).run Tryz.prog w = .ok (.func fn first cap) w := fun _ _ _ _ => rfl
  have hbW : Below w.heap.size w ((w.alloc (.cells #[.slice S p.sec.length c1, .slice P p.par.length c2, .slice B p.blk.length c3] 26)).alloc (.cells #[.slice O n c, .int .u8 2, .int .i64 a, .int .i64 go, .int .i64 els] 38)) := ((Below.refl _ _).alloc (Nat.le_refl _) _).alloc (by simp) _
  clear hs
  go_enter Tryz.func22, Tryz.ntmps22
  go_wp2_with (go_at_call 44; refine (variable_c _ _ _).mono ?_; rintro e w1 ⟨rfl, hb⟩; have B1 := (Bk.alloc (Bk.new w #[.slice S p.sec.length c1, .slice P p.par.length c2, .slice B p.blk.length c3] 26) (.cells #[.slice O n c, .int .u8 2, .int .i64 a, .int .i64 go, .int .i64 els] 38)).mono hb; have B2 := (Bk.newAt (w := w.alloc (.cells #[.slice S p.sec.length c1, .slice P p.par.length c2, .slice B p.blk.length c3] 26)) (n := w.heap.size + 1) #[.slice O n c, .int .u8 2, .int .i64 a, .int .i64 go, .int .i64 els] 38 (by simp)).mono hb; have C1 := B1.cell; have C2 := B2.cell; have hB := bt' hbW hbW.size hb)
  all_goals
    go_ret
    refine ⟨ret_bool ?_, hB⟩
    simp [endS, *]

set_option maxRecDepth 100000 in
set_option maxHeartbeats 2000000 in
theorem end_c3 (p : SIr) (a go els : Int) (S P B O : Option Addr) (c1 c2 c3 n c : Nat) (w : World) (hs : kBool.Row w S p.sec) (ops : List SOp) :
    Calls Tryz.prog 22 #[.agg #[.slice S p.sec.length c1, .slice P p.par.length c2, .slice B p.blk.length c3], .agg #[.slice O n c, .int .u8 3, .int .i64 a, .int .i64 go, .int .i64 els]] w
      fun e' w' => e' = .returned (.bool (endS p ⟨ops, 3, a, go, els⟩)) ∧ Below w.heap.size w w' := by
  have hmf : ∀ (fn : Fn) (first cap : Array Value) (w : World), (Instr.makeFunc fn first cap).run Tryz.prog w = .ok (.func fn first cap) w := fun _ _ _ _ => rfl
  have hbW : Below w.heap.size w ((w.alloc (.cells #[.slice S p.sec.length c1, .slice P p.par.length c2, .slice B p.blk.length c3] 26)).alloc (.cells #[.slice O n c, .int .u8 3, .int .i64 a, .int .i64 go, .int .i64 els] 38)) := ((Below.refl _ _).alloc (Nat.le_refl _) _).alloc (by simp) _
  clear hs
  cases h1 : (a == -1)
  · go_enter Tryz.func22, Tryz.ntmps22
    go_wp2_with (go_at_call 44; refine (variable_c _ _ _).mono ?_; rintro e w1 ⟨rfl, hb⟩; have B1 := (Bk.alloc (Bk.new w #[.slice S p.sec.length c1, .slice P p.par.length c2, .slice B p.blk.length c3] 26) (.cells #[.slice O n c, .int .u8 3, .int .i64 a, .int .i64 go, .int .i64 els] 38)).mono hb; have B2 := (Bk.newAt (w := w.alloc (.cells #[.slice S p.sec.length c1, .slice P p.par.length c2, .slice B p.blk.length c3] 26)) (n := w.heap.size + 1) #[.slice O n c, .int .u8 3, .int .i64 a, .int .i64 go, .int .i64 els] 38 (by simp)).mono hb; have C1 := B1.cell; have C2 := B2.cell; have hB := bt' hbW hbW.size hb)
    all_goals
      go_ret
      refine ⟨ret_bool ?_, hB⟩
      simp [endS, *]
  · go_enter Tryz.func22, Tryz.ntmps22
    go_wp2
    all_goals
      go_ret
      refine ⟨ret_bool ?_, ((Below.refl _ _).alloc (Nat.le_refl _) _).alloc (by simp) _⟩
      simp [endS, *]
      try (intros; omega)

set_option maxRecDepth 100000 in
set_option maxHeartbeats 2000000 in
theorem end_c4 (p : SIr) (a go els : Int) (S P B O : Option Addr) (c1 c2 c3 n c : Nat) (w : World) (hs : kBool.Row w S p.sec) (ops : List SOp) :
    Calls Tryz.prog 22 #[.agg #[.slice S p.sec.length c1, .slice P p.par.length c2, .slice B p.blk.length c3], .agg #[.slice O n c, .int .u8 4, .int .i64 a, .int .i64 go, .int .i64 els]] w
      fun e' w' => e' = .returned (.bool (endS p ⟨ops, 4, a, go, els⟩)) ∧ Below w.heap.size w w' := by
  have hmf : ∀ (fn : Fn) (first cap : Array Value) (w : World), (Instr.makeFunc fn first cap).run Tryz.prog w = .ok (.func fn first cap) w := fun _ _ _ _ => rfl
  have hbW : Below w.heap.size w ((w.alloc (.cells #[.slice S p.sec.length c1, .slice P p.par.length c2, .slice B p.blk.length c3] 26)).alloc (.cells #[.slice O n c, .int .u8 4, .int .i64 a, .int .i64 go, .int .i64 els] 38)) := ((Below.refl _ _).alloc (Nat.le_refl _) _).alloc (by simp) _
  clear hs
  go_enter Tryz.func22, Tryz.ntmps22
  go_wp2
  all_goals
    go_ret
    refine ⟨ret_bool ?_, ((Below.refl _ _).alloc (Nat.le_refl _) _).alloc (by simp) _⟩
    simp [endS, *]
    try (intros; omega)

set_option maxRecDepth 100000 in
set_option maxHeartbeats 2000000 in
theorem end_c5 (p : SIr) (a go els : Int) (S P B O : Option Addr) (c1 c2 c3 n c : Nat) (w : World) (hs : kBool.Row w S p.sec) (e : Int) (ops : List SOp) (e1 : (e == 1) = false) (e2 : (e == 2) = false) (e3 : (e == 3) = false) (e4 : (e == 4) = false) :
    Calls Tryz.prog 22 #[.agg #[.slice S p.sec.length c1, .slice P p.par.length c2, .slice B p.blk.length c3], .agg #[.slice O n c, .int .u8 e, .int .i64 a, .int .i64 go, .int .i64 els]] w
      fun e' w' => e' = .returned (.bool (endS p ⟨ops, e, a, go, els⟩)) ∧ Below w.heap.size w w' := by
  have hmf : ∀ (fn : Fn) (first cap : Array Value) (w : World), (Instr.makeFunc fn first cap).run Tryz.prog w = .ok (.func fn first cap) w := fun _ _ _ _ => rfl
  have hbW : Below w.heap.size w ((w.alloc (.cells #[.slice S p.sec.length c1, .slice P p.par.length c2, .slice B p.blk.length c3] 26)).alloc (.cells #[.slice O n c, .int .u8 e, .int .i64 a, .int .i64 go, .int .i64 els] 38)) := ((Below.refl _ _).alloc (Nat.le_refl _) _).alloc (by simp) _
  clear hs
  go_enter Tryz.func22, Tryz.ntmps22
  go_wp2
  go_ret
  refine ⟨ret_bool ?_, hbW⟩
  simp only [beq_eq_false_iff_ne] at e1 e2 e3 e4
  simp [endS, *]

/-- ir.end, whatever the block. -/
theorem end_c (p : SIr) (x : SBlock) (S P B O : Option Addr) (c1 c2 c3 n c : Nat) (w : World) (hs : kBool.Row w S p.sec) :
    Calls Tryz.prog 22 #[.agg #[.slice S p.sec.length c1, .slice P p.par.length c2, .slice B p.blk.length c3], .agg #[.slice O n c, .int .u8 x.e, .int .i64 x.a, .int .i64 x.go, .int .i64 x.els]] w
      fun e' w' => e' = .returned (.bool (endS p x)) ∧ Below w.heap.size w w' := by
  obtain ⟨ops, e, a, go, els⟩ := x
  by_cases e1 : e = 1
  · subst e1; exact end_c1 p a go els S P B O c1 c2 c3 n c w hs ops
  by_cases e2 : e = 2
  · subst e2
    cases hv : varB p.sec.length a true with
    | true => exact end_c2t p a go els S P B O c1 c2 c3 n c w hs ops hv
    | false => exact end_c2f p a go els S P B O c1 c2 c3 n c w hs ops hv
  by_cases e3 : e = 3
  · subst e3; exact end_c3 p a go els S P B O c1 c2 c3 n c w hs ops
  by_cases e4 : e = 4
  · subst e4; exact end_c4 p a go els S P B O c1 c2 c3 n c w hs ops
  exact end_c5 p a go els S P B O c1 c2 c3 n c w hs e ops (by simp [e1]) (by simp [e2]) (by simp [e3]) (by simp [e4])

end Go.Proofs.YtoabiignjkcdmaaGreat

namespace Go.Proofs.YtoabiignjkcdmaaGreat
open Go.RowKit
set_option linter.unusedVariables false
set_option linter.unusedSimpArgs false

def handS (p : SIr) (h : SHanded) : Bool :=
  varB p.sec.length h.d true && varB p.sec.length h.len h.buf && !(h.mu && !h.buf) && secS p h.d == (h.sec && !h.buf) && !(h.buf && secS p h.len)
def metS (l : List SHanded) : List Int := l.flatMap fun h => if h.buf then [h.d, h.len] else [h.d]
def sumOps (bs : List SBlock) : Nat := (bs.map fun b => b.ops.length).sum
def paramsS (p : SIr) : Bool := p.par.all (handS p) && decide (p.par.length ≤ 8) && decide (metS p.par).Nodup
def blockS (p : SIr) (b : SBlock) : Bool := endS p b && b.ops.all (opS p)
def headS (p : SIr) : Bool := decide (p.sec.length ≤ 4096) && decide (1 ≤ p.blk.length) && decide (p.blk.length ≤ 4096) && paramsS p
/-- May a program be? -/
def checkS (p : SIr) : Bool := headS p && decide (sumOps p.blk ≤ 32768) && p.blk.all (blockS p)

/-- The word ir.Check answers. -/
def checkN (p : SIr) : Int := if checkS p then 0 else 2

theorem kBlock_at {w : World} {A : Option Addr} {xs : List SBlock} (h : kBlock.Row w A xs) (i : Nat) (hi : i < xs.length) : ∃ b o O c, A = some ⟨b, o, none⟩ ∧
    w.cell? ⟨b, o + i * 5, none⟩ = some (.slice O xs[i].ops.length c) ∧ w.cell? ⟨b, o + i * 5 + 1, none⟩ = some (.int .u8 xs[i].e) ∧ w.cell? ⟨b, o + i * 5 + 2, none⟩ = some (.int .i64 xs[i].a) ∧
    w.cell? ⟨b, o + i * 5 + 3, none⟩ = some (.int .i64 xs[i].go) ∧ w.cell? ⟨b, o + i * 5 + 4, none⟩ = some (.int .i64 xs[i].els) ∧ xs[i].ops.length ≤ maxLen ∧ kOp.Row w O xs[i].ops := by
  obtain ⟨b, o, cs, e, ⟨O, c, rfl, hm, hr⟩, h2⟩ := h.at i hi
  exact ⟨b, o, O, c, e, h2 0 (by simp), h2 1 (by simp), h2 2 (by simp), h2 3 (by simp), h2 4 (by simp), hm, hr⟩
end Go.Proofs.YtoabiignjkcdmaaGreat

namespace Go.Proofs.YtoabiignjkcdmaaGreat
open Go.RowKit
set_option linter.unusedVariables false
set_option linter.unusedSimpArgs false

/-- A stretch of bytes. -/
structure SObj where
  at' : Int
  b : List Int
  sec : Bool
  fixed : Bool
/-- What a run has. -/
structure SM where
  v : List Int
  handed : List SObj
  arena : List SObj
  left : List Int
  taken : Int
  size : Int
  fuel : Int
  en : Int
  trap : Int
  ret : Int
  steps : Int
  told : List Int
/-- What is handed in. -/
structure SIn where
  nums : List Int
  bufs : List ByteArray

/-- A run goes on, or is over. -/
inductive Res where
  | go (m : SM)
  | over (e : Int) (m : SM)

/-- What a function of two numbers makes of them. -/
def aluP (fn a b : Int) : Int :=
  if fn = 1 then IntKind.u64.wrap (a + b)
  else if fn = 2 then IntKind.u64.wrap (a - b)
  else if fn = 3 then IntKind.u64.wrap (a * 2 ^ (b % 64).toNat)
  else if fn = 4 then (if wrap64 a < wrap64 b then 1 else 0)
  else if fn = 5 then (if a < b then 1 else 0)
  else if fn = 6 then bits .xor .u64 a b
  else if fn = 7 then a / 2 ^ (b % 64).toNat
  else if fn = 8 then IntKind.u64.wrap (wrap64 a / 2 ^ (b % 64).toNat)
  else if fn = 9 then bits .or .u64 a b
  else if fn = 10 then bits .and .u64 a b
  else if fn = 11 then IntKind.u64.wrap (a * b)
  else if fn = 12 then ((a.toNat * b.toNat / 18446744073709551616 : Nat) : Int)
  else if fn = 13 then (if b = 0 then 18446744073709551615 else a / b)
  else if fn = 14 then (if b = 0 then a else a % b)
  else 0

namespace SM
def get (m : SM) (i : Int) : Int := m.v.getD i.toNat 0
def put (m : SM) (i x : Int) : SM := { m with v := m.v.set i.toNat x }
end SM
def eights (n : Int) : Int := ((n.toNat + 7) / 8 : Nat)
def roomB (m : SM) (n : Int) : Bool := decide (eights n ≤ (m.size - m.taken) / 8)
def costS (m : SM) (o : SOp) : Int :=
  if o.k = 9 then (if roomB m (m.get o.a) = true then 1 + eights (m.get o.a) else 1) else if o.k = 10 then 1 + eights (m.get o.b) else 1
def payS (m : SM) (n : Int) : Res := if m.fuel - m.steps < n then .over 0 m else .go { m with steps := m.steps + n }
def trapS (m : SM) (n : Int) : Res := .over 0 { m with en := 4, trap := n }
def hits (p fn : Int) (store : Bool) (x : SObj) : Bool := decide (x.at' ≤ p) && decide (p - x.at' < (x.b.length : Int)) && (x.sec == (fn == 1)) && !(store && x.fixed)
def starts (p : Int) (x : SObj) : Bool := x.at' == p
def SObj.put (x : SObj) (i v : Int) : SObj := { x with b := x.b.set i.toNat v }
def SObj.wiped (x : SObj) : SObj := { x with b := List.replicate x.b.length 0 }
def objZ : SObj := ⟨0, [], false, false⟩
def loadS (m : SM) (o : SOp) : Res :=
  match m.handed.findIdx? (hits (m.get o.a) o.fn false) with
  | some i => .go (m.put o.d ((m.handed.getD i objZ).b.getD (m.get o.a - (m.handed.getD i objZ).at').toNat 0))
  | none => match m.arena.findIdx? (hits (m.get o.a) o.fn false) with
    | some i => .go (m.put o.d ((m.arena.getD i objZ).b.getD (m.get o.a - (m.arena.getD i objZ).at').toNat 0))
    | none => .over 40 m
def storeS (m : SM) (o : SOp) : Res :=
  match m.handed.findIdx? (hits (m.get o.a) o.fn true) with
  | some i => .go { m with handed := m.handed.modify i fun x => x.put (m.get o.a - x.at') (m.get o.b % 256) }
  | none => match m.arena.findIdx? (hits (m.get o.a) o.fn true) with
    | some i => .go { m with arena := m.arena.modify i fun x => x.put (m.get o.a - x.at') (m.get o.b % 256) }
    | none => .over 40 m
def arenaBase : Int := 268435456
def bufBase : Int := 16777216
def allocS (m : SM) (o : SOp) : Res :=
  if roomB m (m.get o.a) = true then
    .go { m with arena := m.arena ++ [⟨arenaBase + m.taken, List.replicate (m.get o.a).toNat 0, o.fn == 1, false⟩], left := m.left ++ [m.taken], v := m.v.set o.d.toNat (arenaBase + m.taken), taken := m.taken + 8 * eights (m.get o.a) }
  else trapS m 3
def wipeS (m : SM) (o : SOp) : Res :=
  match m.arena.findIdx? (fun x => starts (m.get o.a) x && ((x.b.length : Int) == m.get o.b)) with
  | some i => .go { m with arena := m.arena.modify i SObj.wiped }
  | none => .over 40 m
def freeS (m : SM) (o : SOp) : Res :=
  match m.arena.findIdx? (starts (m.get o.a)) with
  | some i => .go { m with taken := m.left.getD i 0, arena := m.arena.take i, left := m.left.take i }
  | none => .over 40 m
/-- One step, its cost paid. -/
def opM (m : SM) (o : SOp) : Res :=
  if o.k = 1 then .go (m.put o.d o.imm)
  else if o.k = 2 then .go (m.put o.d (m.get o.a))
  else if o.k = 3 then .go (m.put o.d (aluP o.fn (m.get o.a) (m.get o.b)))
  else if o.k = 4 then loadS m o
  else if o.k = 5 then storeS m o
  else if o.k = 6 then (if m.get o.b ≤ m.get o.a then trapS m 1 else .go m)
  else if o.k = 7 then (if m.get o.b < m.get o.a then trapS m 1 else .go m)
  else if o.k = 8 then (if m.get o.a = 0 then trapS m 2 else .go m)
  else if o.k = 9 then allocS m o
  else if o.k = 10 then wipeS m o
  else if o.k = 11 then freeS m o
  else if o.k = 12 then .go { m.put o.d (m.get o.a) with told := m.told ++ [m.get o.a] }
  else .go m
theorem opM_1 (m : SM) {o : SOp} (h : o.k = 1) : opM m o = (.go (m.put o.d o.imm)) := by
  unfold opM
  rw [if_pos h]
theorem opM_2 (m : SM) {o : SOp} (h : o.k = 2) : opM m o = (.go (m.put o.d (m.get o.a))) := by
  unfold opM
  rw [if_neg (show ¬ o.k = 1 by omega), if_pos h]
theorem opM_3 (m : SM) {o : SOp} (h : o.k = 3) : opM m o = (.go (m.put o.d (aluP o.fn (m.get o.a) (m.get o.b)))) := by
  unfold opM
  rw [if_neg (show ¬ o.k = 1 by omega), if_neg (show ¬ o.k = 2 by omega), if_pos h]
theorem opM_4 (m : SM) {o : SOp} (h : o.k = 4) : opM m o = (loadS m o) := by
  unfold opM
  rw [if_neg (show ¬ o.k = 1 by omega), if_neg (show ¬ o.k = 2 by omega), if_neg (show ¬ o.k = 3 by omega), if_pos h]
theorem opM_5 (m : SM) {o : SOp} (h : o.k = 5) : opM m o = (storeS m o) := by
  unfold opM
  rw [if_neg (show ¬ o.k = 1 by omega), if_neg (show ¬ o.k = 2 by omega), if_neg (show ¬ o.k = 3 by omega), if_neg (show ¬ o.k = 4 by omega), if_pos h]
theorem opM_6 (m : SM) {o : SOp} (h : o.k = 6) : opM m o = (if m.get o.b ≤ m.get o.a then trapS m 1 else .go m) := by
  unfold opM
  rw [if_neg (show ¬ o.k = 1 by omega), if_neg (show ¬ o.k = 2 by omega), if_neg (show ¬ o.k = 3 by omega), if_neg (show ¬ o.k = 4 by omega), if_neg (show ¬ o.k = 5 by omega), if_pos h]
theorem opM_7 (m : SM) {o : SOp} (h : o.k = 7) : opM m o = (if m.get o.b < m.get o.a then trapS m 1 else .go m) := by
  unfold opM
  rw [if_neg (show ¬ o.k = 1 by omega), if_neg (show ¬ o.k = 2 by omega), if_neg (show ¬ o.k = 3 by omega), if_neg (show ¬ o.k = 4 by omega), if_neg (show ¬ o.k = 5 by omega), if_neg (show ¬ o.k = 6 by omega), if_pos h]
theorem opM_8 (m : SM) {o : SOp} (h : o.k = 8) : opM m o = (if m.get o.a = 0 then trapS m 2 else .go m) := by
  unfold opM
  rw [if_neg (show ¬ o.k = 1 by omega), if_neg (show ¬ o.k = 2 by omega), if_neg (show ¬ o.k = 3 by omega), if_neg (show ¬ o.k = 4 by omega), if_neg (show ¬ o.k = 5 by omega), if_neg (show ¬ o.k = 6 by omega), if_neg (show ¬ o.k = 7 by omega), if_pos h]
theorem opM_9 (m : SM) {o : SOp} (h : o.k = 9) : opM m o = (allocS m o) := by
  unfold opM
  rw [if_neg (show ¬ o.k = 1 by omega), if_neg (show ¬ o.k = 2 by omega), if_neg (show ¬ o.k = 3 by omega), if_neg (show ¬ o.k = 4 by omega), if_neg (show ¬ o.k = 5 by omega), if_neg (show ¬ o.k = 6 by omega), if_neg (show ¬ o.k = 7 by omega), if_neg (show ¬ o.k = 8 by omega), if_pos h]
theorem opM_10 (m : SM) {o : SOp} (h : o.k = 10) : opM m o = (wipeS m o) := by
  unfold opM
  rw [if_neg (show ¬ o.k = 1 by omega), if_neg (show ¬ o.k = 2 by omega), if_neg (show ¬ o.k = 3 by omega), if_neg (show ¬ o.k = 4 by omega), if_neg (show ¬ o.k = 5 by omega), if_neg (show ¬ o.k = 6 by omega), if_neg (show ¬ o.k = 7 by omega), if_neg (show ¬ o.k = 8 by omega), if_neg (show ¬ o.k = 9 by omega), if_pos h]
theorem opM_11 (m : SM) {o : SOp} (h : o.k = 11) : opM m o = (freeS m o) := by
  unfold opM
  rw [if_neg (show ¬ o.k = 1 by omega), if_neg (show ¬ o.k = 2 by omega), if_neg (show ¬ o.k = 3 by omega), if_neg (show ¬ o.k = 4 by omega), if_neg (show ¬ o.k = 5 by omega), if_neg (show ¬ o.k = 6 by omega), if_neg (show ¬ o.k = 7 by omega), if_neg (show ¬ o.k = 8 by omega), if_neg (show ¬ o.k = 9 by omega), if_neg (show ¬ o.k = 10 by omega), if_pos h]
theorem opM_12 (m : SM) {o : SOp} (h : o.k = 12) : opM m o = (.go { m.put o.d (m.get o.a) with told := m.told ++ [m.get o.a] }) := by
  unfold opM
  rw [if_neg (show ¬ o.k = 1 by omega), if_neg (show ¬ o.k = 2 by omega), if_neg (show ¬ o.k = 3 by omega), if_neg (show ¬ o.k = 4 by omega), if_neg (show ¬ o.k = 5 by omega), if_neg (show ¬ o.k = 6 by omega), if_neg (show ¬ o.k = 7 by omega), if_neg (show ¬ o.k = 8 by omega), if_neg (show ¬ o.k = 9 by omega), if_neg (show ¬ o.k = 10 by omega), if_neg (show ¬ o.k = 11 by omega), if_pos h]
theorem opM_13 (m : SM) {o : SOp} (h : ¬ (1 ≤ o.k ∧ o.k ≤ 12)) : opM m o = .go m := by
  unfold opM
  rw [if_neg (show ¬ o.k = 1 by omega), if_neg (show ¬ o.k = 2 by omega), if_neg (show ¬ o.k = 3 by omega), if_neg (show ¬ o.k = 4 by omega), if_neg (show ¬ o.k = 5 by omega), if_neg (show ¬ o.k = 6 by omega), if_neg (show ¬ o.k = 7 by omega), if_neg (show ¬ o.k = 8 by omega), if_neg (show ¬ o.k = 9 by omega), if_neg (show ¬ o.k = 10 by omega), if_neg (show ¬ o.k = 11 by omega), if_neg (show ¬ o.k = 12 by omega)]
/-- What holds of each kind of step holds of a step. -/
theorem opM_ind {P : Res → Prop} (m : SM) (o : SOp)
    (h1 : o.k = 1 → P (.go (m.put o.d o.imm)))
    (h2 : o.k = 2 → P (.go (m.put o.d (m.get o.a))))
    (h3 : o.k = 3 → P (.go (m.put o.d (aluP o.fn (m.get o.a) (m.get o.b)))))
    (h4 : o.k = 4 → P (loadS m o))
    (h5 : o.k = 5 → P (storeS m o))
    (h6 : o.k = 6 → P (if m.get o.b ≤ m.get o.a then trapS m 1 else .go m))
    (h7 : o.k = 7 → P (if m.get o.b < m.get o.a then trapS m 1 else .go m))
    (h8 : o.k = 8 → P (if m.get o.a = 0 then trapS m 2 else .go m))
    (h9 : o.k = 9 → P (allocS m o))
    (h10 : o.k = 10 → P (wipeS m o))
    (h11 : o.k = 11 → P (freeS m o))
    (h12 : o.k = 12 → P (.go { m.put o.d (m.get o.a) with told := m.told ++ [m.get o.a] }))
    (hz : ¬ (1 ≤ o.k ∧ o.k ≤ 12) → P (.go m)) : P (opM m o) := by
  by_cases e1 : o.k = 1
  · rw [opM_1 m e1]; exact h1 e1
  by_cases e2 : o.k = 2
  · rw [opM_2 m e2]; exact h2 e2
  by_cases e3 : o.k = 3
  · rw [opM_3 m e3]; exact h3 e3
  by_cases e4 : o.k = 4
  · rw [opM_4 m e4]; exact h4 e4
  by_cases e5 : o.k = 5
  · rw [opM_5 m e5]; exact h5 e5
  by_cases e6 : o.k = 6
  · rw [opM_6 m e6]; exact h6 e6
  by_cases e7 : o.k = 7
  · rw [opM_7 m e7]; exact h7 e7
  by_cases e8 : o.k = 8
  · rw [opM_8 m e8]; exact h8 e8
  by_cases e9 : o.k = 9
  · rw [opM_9 m e9]; exact h9 e9
  by_cases e10 : o.k = 10
  · rw [opM_10 m e10]; exact h10 e10
  by_cases e11 : o.k = 11
  · rw [opM_11 m e11]; exact h11 e11
  by_cases e12 : o.k = 12
  · rw [opM_12 m e12]; exact h12 e12
  · rw [opM_13 m (by omega)]; exact hz (by omega)
def Res.bind (r : Res) (f : SM → Res) : Res := match r with | .go m => f m | .over e m => .over e m
def stepS (m : SM) (o : SOp) : Res := (payS m (costS m o)).bind fun m => opM m o
def opsS : List SOp → SM → Res
  | [], m => .go m
  | o :: l, m => (stepS m o).bind (opsS l)
/-- A block's end, paid: which block is the next one, or how the run ends. -/
def endM (b : SBlock) (m : SM) : Int ⊕ (Int × SM) :=
  if b.e = 1 then .inl b.go
  else if b.e = 2 then .inl (if m.get b.a = 0 then b.els else b.go)
  else if b.e = 4 then .inr (0, { m with en := 4, trap := b.go })
  else .inr (0, { m with en := 3, ret := if 0 ≤ b.a then m.get b.a else m.ret })
def blockZ : SBlock := ⟨[], 0, 0, 0, 0⟩
/-- Till the run is over; at most so many blocks. -/
def goesS (p : SIr) : Nat → Int → SM → Int × SM
  | 0, _, m => (0, m)
  | n + 1, at', m =>
    match (opsS (p.blk.getD at'.toNat blockZ).ops m).bind fun m => payS m 1 with
    | .over e m => (e, m)
    | .go m => match endM (p.blk.getD at'.toNat blockZ) m with
      | .inl a2 => goesS p n a2 m
      | .inr r => r
def fitsS (p : SIr) (i : SIn) : Bool :=
  decide (i.nums.length = (p.par.filter fun h => !h.buf).length) && decide (i.bufs.length = (p.par.filter fun h => h.buf).length) && i.bufs.all fun b => decide (b.size ≤ 4096)
def bytesI (b : ByteArray) : List Int := b.data.toList.map fun c => (c.toNat : Int)
/-- What is handed in, laid. -/
def layIn : List SHanded → List Int → List ByteArray → SM → SM
  | [], _, _, m => m
  | h :: l, ns, bs, m =>
    if h.buf = true then
      layIn l ns bs.tail { m with handed := m.handed ++ [⟨bufBase + (m.handed.length : Int) * 65536, bytesI (bs.headD ⟨#[]⟩), h.sec, !h.mu⟩],
                                   v := (m.v.set h.d.toNat (bufBase + (m.handed.length : Int) * 65536)).set h.len.toNat ((bs.headD ⟨#[]⟩).size : Int) }
    else layIn l ns.tail bs { m with v := m.v.set h.d.toNat (ns.headD 0) }
structure SOut where
  en : Int
  trap : Int
  ret : Int
  bufs : List ByteArray
  told : List Int
  steps : Int
def outZ : SOut := ⟨0, 0, 0, [], [], 0⟩
def bytesB (l : List Int) : ByteArray := ⟨(l.map fun c => UInt8.ofNat c.toNat).toArray⟩
def outS (m : SM) : SOut := ⟨m.en, m.trap, m.ret, m.handed.map fun x => bytesB x.b, m.told, m.steps⟩
def mZ (p : SIr) (arena fuel : Int) : SM := ⟨List.replicate p.sec.length 0, [], [], [], 0, arena, fuel, 0, 0, 0, 0, []⟩
def mayRun (p : SIr) (i : SIn) (arena fuel : Int) : Bool := checkS p && fitsS p i && decide (0 ≤ arena) && decide (arena ≤ 65536) && decide (0 ≤ fuel) && decide (fuel ≤ 4194304)
def beginS (p : SIr) (i : SIn) (arena fuel : Int) : SM := layIn p.par i.nums i.bufs (mZ p arena fuel)
def endS' (r : Int × SM) : SOut × Int := if r.1 = 0 then (outS r.2, 0) else (outZ, r.1)
/-- What comes of a run. -/
def runS (p : SIr) (i : SIn) (arena fuel : Int) : SOut × Int :=
  if mayRun p i arena fuel = true then endS' (goesS p (fuel.toNat + 2) 0 (beginS p i arena fuel)) else (outZ, 2)

theorem eights_nn (n : Int) : 0 ≤ eights n := by unfold eights; omega
theorem costS_pos (m : SM) (o : SOp) : 1 ≤ costS m o := by
  have h1 := eights_nn (m.get o.a)
  have h2 := eights_nn (m.get o.b)
  unfold costS
  split
  · split <;> omega
  · split <;> omega
end Go.Proofs.YtoabiignjkcdmaaGreat

namespace Go.Proofs.YtoabiignjkcdmaaGreat
open Go.RowKit Go.Maps Go.MapKept
set_option linter.unusedVariables false
set_option linter.unusedSimpArgs false

/-- Block n is the object o. -/
def Ob (w : World) (n : Nat) (o : Obj) : Prop := w.heap[n]? = some o
theorem Ob.lt {w : World} {n : Nat} {o : Obj} (h : Ob w n o) : n < w.heap.size := (Array.getElem?_eq_some_iff.1 h).1
theorem Ob.mono {w w' : World} {n : Nat} {o : Obj} (h : Ob w n o) (hb : Below w.heap.size w w') : Ob w' n o := (hb.block n h.lt).trans h
theorem Ob.new (w : World) (o : Obj) : Ob (w.alloc o) w.heap.size o := heap_alloc_new w _
theorem Ob.newAt {w : World} {n : Nat} (o : Obj) (hn : n = w.heap.size) : Ob (w.alloc o) n o := by subst hn; exact heap_alloc_new w _
theorem Ob.alloc {w : World} {n : Nat} {o : Obj} (h : Ob w n o) (o' : Obj) : Ob (w.alloc o') n o := (Below.heap_alloc w o' n h.lt).trans h
theorem Ob.grown {w w' : World} {n : Nat} {o : Obj} (h : Ob w n o) {row : Option Nat} (hg : w.grownBy w' row) (hr : some n ≠ row) : Ob w' n o := (hg.block n h.lt hr).trans h
theorem Ob.drewN {w : World} {n : Nat} {o : Obj} (h : Ob w n o) (k : Nat) : Ob (w.drewN k) n o := h

/-- w, block r being o. -/
def setOb (w : World) (r : Nat) (o : Obj) : World := { w with heap := w.heap.setIfInBounds r o }
theorem setOb_ob {w : World} {r : Nat} {o o' : Obj} (h : Ob w r o) : Ob (setOb w r o') r o' := (heap_set h).1
theorem setOb_grown {w : World} {r : Nat} (o : Obj) : w.grownBy (setOb w r o) (some r) :=
  ⟨rfl, rfl, rfl, by simp [setOb], fun k _ hk => by
    have : r ≠ k := fun e => hk (by rw [e])
    simp [setOb, this]⟩
theorem run_getObj_ob {P : Program} {w : World} {r : Nat} {o : Obj} (h : Ob w r o) (ho : ∀ c t f, o ≠ .cells c t f) : (getObj r).run P w = .ok o w := by
  unfold Ob at h
  unfold getObj
  simp only [Sem.run, h]
  try (cases o <;> first | rfl | exact absurd rfl (ho _ _ _))
theorem run_setObj_ob {P : Program} {w : World} {r : Nat} {o o' : Obj} (h : Ob w r o) (ho : ∀ c t f, o ≠ .cells c t f) : (setObj r o').run P w = .ok () (setOb w r o') := by
  unfold Ob at h
  unfold setObj
  simp only [Sem.run, h]
  cases o <;> first | rfl | exact absurd rfl (ho _ _ _)

section
variable {P : Program} {ops : Array Oper} {Q : Exit → Act → World → Prop} {rest : List Oper} {a : Act} {w : World} {o : Oper}

end

end Go.Proofs.YtoabiignjkcdmaaGreat
