/-
  Lemmas (texts RefCa), each proved without a condition beyond its own hypotheses.
-/
import Derived.Test.YtoabiignjkcdmaaGreatFd1
import Derived.Test.YtoabiignjkcdmaaGreatFd2
import Derived.Test.YtoabiignjkcdmaaGreatFd20
namespace Go.Proofs.YtoabiignjkcdmaaGreat
open Go.RowKit
set_option linter.unusedVariables false
set_option linter.unusedSimpArgs false

set_option maxHeartbeats 400000 in
theorem refVar_c {S : Option Addr} {n c : Nat} {p2 p3 : Value} (v : Int) (is : Bool) (w : World) :
    Calls Tryz.prog 52 #[.agg #[.slice S n c, p2, p3], .int .i64 v, .bool is] w fun e w' => e = .returned (.bool (varB n v is)) ∧ Below w.heap.size w w' := by
  go_enter Tryz.func52, Tryz.ntmps52
  go_wp2
  all_goals
    go_ret
    refine ⟨?_, (Below.refl _ _).alloc (Nat.le_refl _) _⟩
    simp [varB, *]
    try omega

/-- Is a number a kind of steps? -/
def kindB (k : Int) : Bool := decide (1 ≤ k) && decide (k ≤ 13)
theorem has_end {tm : Array Value} {q : Nat} {x : Bool} {cs : Array Value} {w : World} {R : Ending → World → Prop} (h2 : tm.getD 2 undef = .pointer (some ⟨q, 0, none⟩)) (h3 : tm.getD 3 undef = .bool x) (hb : Bk w q cs 99) (hs : cs.size = 5)
    (hR : R (.returned (.tuple #[.agg cs, .bool x])) w) : bodyPost Tryz.prog Tryz.f53 R Exit.ret { tmps := tm, defers := [] } w := by
  refine bodyPost_ret (v := .tuple #[.agg cs, .bool x]) ?_ rfl hR
  have hp' : tm[2]?.getD undef = .pointer (some ⟨q, 0, none⟩) := by simpa using h2
  have hq' : tm[3]?.getD undef = .bool x := by simpa using h3
  have hi : (Tryz.prog.info? 99).map (·.size) = some cs.size := by rw [hs]; kernel_rfl
  simp [results, Tryz.results53, hp', hq', asAddr, run_loadVar_row w q 99 99 cs (0, 0) _ hb Tryz.underlying99 rfl hi]
def HasPost (k : Int) (w : World) (e : Ending) (w' : World) : Prop := e = .returned (.tuple #[.agg #[.bool (kf k 0), .bool (kf k 1), .bool (kf k 2), .bool (kf k 3), .bool (kf k 4)], .bool (kindB k)]) ∧ Below w.heap.size w w'
set_option maxRecDepth 100000 in
set_option maxHeartbeats 2000000 in
theorem has_lit (k : Int) (hk : k = 1 ∨ k = 2 ∨ k = 3 ∨ k = 4 ∨ k = 5 ∨ k = 6 ∨ k = 7 ∨ k = 8 ∨ k = 9 ∨ k = 10 ∨ k = 11 ∨ k = 12 ∨ k = 13) (w : World) : Calls Tryz.prog 53 #[.int .u8 k] w (HasPost k w) := by
  rcases hk with rfl | rfl | rfl | rfl | rfl | rfl | rfl | rfl | rfl | rfl | rfl | rfl | rfl
  all_goals
    go_enter Tryz.func53, Tryz.ntmps53
    go_wp2
    exact has_end rfl rfl (Bk.new w _ _) rfl ⟨rfl, (Below.refl _ _).alloc (Nat.le_refl _) _⟩
set_option maxRecDepth 100000 in
set_option maxHeartbeats 2000000 in
theorem has_out (k : Int) (hk : k < 1 ∨ 13 < k) (w : World) : Calls Tryz.prog 53 #[.int .u8 k] w fun e w' => e = .returned (.tuple #[.agg #[.bool false, .bool false, .bool false, .bool false, .bool false], .bool false]) ∧ Below w.heap.size w w' := by
  have t1 : (k == 1) = false := by simp; omega
  have t2 : (k == 2) = false := by simp; omega
  have t3 : (k == 3) = false := by simp; omega
  have t4 : (k == 4) = false := by simp; omega
  have t5 : (k == 5) = false := by simp; omega
  have t6 : (k == 6) = false := by simp; omega
  have t7 : (k == 7) = false := by simp; omega
  have t8 : (k == 8) = false := by simp; omega
  have t9 : (k == 9) = false := by simp; omega
  have t10 : (k == 10) = false := by simp; omega
  have t11 : (k == 11) = false := by simp; omega
  have t12 : (k == 12) = false := by simp; omega
  have t13 : (k == 13) = false := by simp; omega
  clear hk
  go_enter Tryz.func53, Tryz.ntmps53
  go_wp2
  exact has_end rfl rfl (Bk.new w _ _) rfl ⟨rfl, (Below.refl _ _).alloc (Nat.le_refl _) _⟩
/-- Has a step its fields, and nothing else? -/
def formB (n : Nat) (k fn d a b imm : Int) : Bool := kindB k && !opV n k d a b imm && (if k = 3 then decide (1 ≤ fn) && decide (fn ≤ 14) else fn == 0 || fn == 1 && kf k 0)
set_option maxRecDepth 100000 in
set_option maxHeartbeats 2000000 in
theorem form_out (p : SIr) (k fn d a b imm : Int) (S P B : Option Addr) (c1 c2 c3 : Nat) (w : World) (hk : k < 1 ∨ 13 < k) :
    Calls Tryz.prog 28 #[.agg #[.slice S p.sec.length c1, .slice P p.par.length c2, .slice B p.blk.length c3], .agg #[.int .u8 k, .int .u8 fn, .int .i64 d, .int .i64 a, .int .i64 b, .int .u64 imm]] w
      fun e w' => e = .returned (.bool false) ∧ Below w.heap.size w w' := by
  have W3 : Below w.heap.size w ((w.alloc (.cells #[.slice S p.sec.length c1, .slice P p.par.length c2, .slice B p.blk.length c3] 26)).alloc (.cells #[.int .u8 k, .int .u8 fn, .int .i64 d, .int .i64 a, .int .i64 b, .int .u64 imm] 54)) := ((Below.refl _ _).alloc (Nat.le_refl _) _).alloc (by simp) _
  have HK := Lib.hid hk
  clear hk
  go_enter Tryz.func28, Tryz.ntmps28
  go_wp2_with (go_at_call 53; go_must (refine (has_out _ HK.out _).mono ?_); rintro e w1 ⟨rfl, hb1⟩)
  go_ret
  exact ⟨rfl, (bt W3 hb1).alloc (bt W3 hb1).size _⟩
set_option maxRecDepth 100000 in
set_option maxHeartbeats 4000000 in
theorem form_in (p : SIr) (k fn d a b imm : Int) (S P B : Option Addr) (c1 c2 c3 : Nat) (w : World) (h1 : 1 ≤ k) (h2 : k ≤ 13) :
    Calls Tryz.prog 28 #[.agg #[.slice S p.sec.length c1, .slice P p.par.length c2, .slice B p.blk.length c3], .agg #[.int .u8 k, .int .u8 fn, .int .i64 d, .int .i64 a, .int .i64 b, .int .u64 imm]] w
      fun e w' => e = .returned (.bool (formB p.sec.length k fn d a b imm)) ∧ Below w.heap.size w w' := by
  have W1 : Bk ((w.alloc (.cells #[.slice S p.sec.length c1, .slice P p.par.length c2, .slice B p.blk.length c3] 26)).alloc (.cells #[.int .u8 k, .int .u8 fn, .int .i64 d, .int .i64 a, .int .i64 b, .int .u64 imm] 54)) w.heap.size #[.slice S p.sec.length c1, .slice P p.par.length c2, .slice B p.blk.length c3] 26 := (Bk.new _ _ _).alloc _
  have W2 : Bk ((w.alloc (.cells #[.slice S p.sec.length c1, .slice P p.par.length c2, .slice B p.blk.length c3] 26)).alloc (.cells #[.int .u8 k, .int .u8 fn, .int .i64 d, .int .i64 a, .int .i64 b, .int .u64 imm] 54)) (w.heap.size + 1) #[.int .u8 k, .int .u8 fn, .int .i64 d, .int .i64 a, .int .i64 b, .int .u64 imm] 54 := Bk.newAt _ _ (by simp)
  have W3 : Below w.heap.size w ((w.alloc (.cells #[.slice S p.sec.length c1, .slice P p.par.length c2, .slice B p.blk.length c3] 26)).alloc (.cells #[.int .u8 k, .int .u8 fn, .int .i64 d, .int .i64 a, .int .i64 b, .int .u64 imm] 54)) := ((Below.refl _ _).alloc (Nat.le_refl _) _).alloc (by simp) _
  have HL : Hid (∀ w, Calls Tryz.prog 53 #[.int .u8 k] w (HasPost k w)) := Lib.hid (fun w => has_lit k (by omega) w)
  have hkb : kindB k = true := by simp [kindB, h1, h2]
  unfold HasPost at HL
  rw [hkb] at HL
  have HKB := Lib.hid hkb
  have hE : ∃ r, formB p.sec.length k fn d a b imm = r := ⟨_, rfl⟩
  obtain ⟨r, hE⟩ := hE
  rw [hE]
  unfold formB at hE
  rw [hkb, Bool.true_and] at hE
  unfold opV at hE
  clear hkb HKB
  generalize kf k 0 = f0 at *
  generalize kf k 1 = f1 at *
  generalize kf k 2 = f2 at *
  generalize kf k 3 = f3 at *
  generalize kf k 4 = f4 at *
  have HE := Lib.hid hE
  clear hE h1 h2
  go_enter Tryz.func28, Tryz.ntmps28
  go_upto_region 2 with (go_at_call 53; go_must (refine (HL.out _).mono ?_); rintro e w1 ⟨rfl, hb1⟩; have X1 := W1.mono hb1; have X2 := W2.mono hb1; have X3 := bt W3 hb1)
  go_cut [51] (fun s wd => s = .bool (!varB p.sec.length d f1 || !varB p.sec.length a f2 || !varB p.sec.length b f3 || (!f4 && imm != 0)) ∧ Bk wd (w.heap.size + 1) #[.int .u8 k, .int .u8 fn, .int .i64 d, .int .i64 a, .int .i64 b, .int .u64 imm] 54 ∧ Bk wd w1.heap.size #[.bool f0, .bool f1, .bool f2, .bool f3, .bool f4] 99 ∧ Below w.heap.size w wd)
  case first =>
    have B1 := X1.alloc (.cells #[.bool f0, .bool f1, .bool f2, .bool f3, .bool f4] 99)
    have B2 := X2.alloc (.cells #[.bool f0, .bool f1, .bool f2, .bool f3, .bool f4] 99)
    have B3 := Bk.new w1 #[.bool f0, .bool f1, .bool f2, .bool f3, .bool f4] 99
    have B4 := X3.alloc X3.size (.cells #[.bool f0, .bool f1, .bool f2, .bool f3, .bool f4] 99)
    clear W1 W2 W3 X1 X2 X3 hb1
    have C1 := B1.cell; have C2 := B2.cell; have C3 := B3.cell
    obtain ⟨z, hz⟩ : ∃ z, (imm != 0) = z := ⟨_, rfl⟩
    go_wp2_with (go_at_call 52; refine (refVar_c _ _ _).mono ?_; rintro e w1 ⟨rfl, hb⟩; replace B1 := B1.mono hb; replace B2 := B2.mono hb; replace B3 := B3.mono hb; replace C1 := B1.cell; replace C2 := B2.cell; replace C3 := B3.cell; replace B4 := bt B4 hb)
    all_goals
      go_meet
      case rel => exact ⟨by simp [*], B2, B3, B4⟩
  case rest =>
    obtain ⟨rfl, B2, B3, B4⟩ := hcut
    clear W1 W2 W3 X1 X2 X3 hb1
    have C2 := B2.cell; have C3 := B3.cell
    obtain ⟨v, hv⟩ : ∃ v, (!varB p.sec.length d f1 || !varB p.sec.length a f2 || !varB p.sec.length b f3 || (!f4 && imm != 0)) = v := ⟨_, rfl⟩
    rw [hv] at HE ⊢
    clear hv
    cases v with
    | true =>
      go_wp2_with fail
      go_ret
      exact ⟨ret_bool (by simpa using HE.out), B4⟩
    | false =>
      have HE2 := HE.out
      simp only [Bool.not_false, Bool.true_and] at HE2
      by_cases hk : k = 3
      · rw [if_pos hk] at HE2
        subst hk
        have HE3 := Lib.hid HE2
        clear HE HE2
        go_wp2_with fail
        all_goals
          go_ret
          refine ⟨ret_bool ?_, B4⟩
          rw [← HE3.out]
          simp [*]
          try omega
      · have hk2 : (k == 3) = false := by simpa using hk
        rw [if_neg hk] at HE2
        have HE3 := Lib.hid HE2
        clear HE HE2 hk
        go_wp2_with fail
        all_goals
          go_ret
          refine ⟨ret_bool ?_, B4⟩
          rw [← HE3.out]
          simp [*]
          try omega
end Go.Proofs.YtoabiignjkcdmaaGreat

namespace Go.Proofs.YtoabiignjkcdmaaGreat
open Go.RowKit
set_option linter.unusedVariables false
set_option linter.unusedSimpArgs false

set_option maxRecDepth 100000 in
set_option maxHeartbeats 2000000 in
theorem refEnd_c1 (p : SIr) (a go els : Int) (S P B O : Option Addr) (c1 c2 c3 n c : Nat) (w : World) (hs : kBool.Row w S p.sec) (ops : List SOp) :
    Calls Tryz.prog 27 #[.agg #[.slice S p.sec.length c1, .slice P p.par.length c2, .slice B p.blk.length c3], .agg #[.slice O n c, .int .u8 1, .int .i64 a, .int .i64 go, .int .i64 els]] w
      fun e' w' => e' = .returned (.bool (endS p ⟨ops, 1, a, go, els⟩)) ∧ Below w.heap.size w w' := by
  have hbW : Below w.heap.size w ((w.alloc (.cells #[.slice S p.sec.length c1, .slice P p.par.length c2, .slice B p.blk.length c3] 26)).alloc (.cells #[.slice O n c, .int .u8 1, .int .i64 a, .int .i64 go, .int .i64 els] 38)) := ((Below.refl _ _).alloc (Nat.le_refl _) _).alloc (by simp) _
  go_enter Tryz.func27, Tryz.ntmps27
  go_wp2
  all_goals
    go_ret
    refine ⟨ret_bool ?_, ((Below.refl _ _).alloc (Nat.le_refl _) _).alloc (by simp) _⟩
    simp [endS, blkB, *]
    try (intros; omega)

set_option maxRecDepth 100000 in
set_option maxHeartbeats 2000000 in
theorem refEnd_c2t (p : SIr) (a go els : Int) (S P B O : Option Addr) (c1 c2 c3 n c : Nat) (w : World) (hs : kBool.Row w S p.sec) (ops : List SOp) (hv : varB p.sec.length a true = true) :
    Calls Tryz.prog 27 #[.agg #[.slice S p.sec.length c1, .slice P p.par.length c2, .slice B p.blk.length c3], .agg #[.slice O n c, .int .u8 2, .int .i64 a, .int .i64 go, .int .i64 els]] w
      fun e' w' => e' = .returned (.bool (endS p ⟨ops, 2, a, go, els⟩)) ∧ Below w.heap.size w w' := by
  have hbW : Below w.heap.size w ((w.alloc (.cells #[.slice S p.sec.length c1, .slice P p.par.length c2, .slice B p.blk.length c3] 26)).alloc (.cells #[.slice O n c, .int .u8 2, .int .i64 a, .int .i64 go, .int .i64 els] 38)) := ((Below.refl _ _).alloc (Nat.le_refl _) _).alloc (by simp) _
  have hv2 := varB_in hv
  obtain ⟨sb, so, rfl, hc⟩ := kBool_at hs a.toNat (by omega)
  have hsec : p.sec[a.toNat]'(by omega) = secS p a := by simp [secS, show a.toNat < p.sec.length by omega]
  rw [hsec] at hc
  clear hs hsec
  go_enter Tryz.func27, Tryz.ntmps27
  go_wp2_with (first | (go_at_call 52; refine (refVar_c _ _ _).mono ?_; rintro e w1 ⟨rfl, hb⟩; have B1 := (Bk.alloc (Bk.new w #[.slice (some ⟨sb, so, none⟩) p.sec.length c1, .slice P p.par.length c2, .slice B p.blk.length c3] 26) (.cells #[.slice O n c, .int .u8 2, .int .i64 a, .int .i64 go, .int .i64 els] 38)).mono hb; have B2 := (Bk.newAt (w := w.alloc (.cells #[.slice (some ⟨sb, so, none⟩) p.sec.length c1, .slice P p.par.length c2, .slice B p.blk.length c3] 26)) (n := w.heap.size + 1) #[.slice O n c, .int .u8 2, .int .i64 a, .int .i64 go, .int .i64 els] 38 (by simp)).mono hb; have C1 := B1.cell; have C2 := B2.cell; have hB := bt' hbW hbW.size hb; have hc1 := cm (cm hc hbW) hb))
  all_goals
    go_ret
    refine ⟨ret_bool ?_, hB⟩
    simp [endS, blkB, *]
    try (intros; omega)

set_option maxRecDepth 100000 in
set_option maxHeartbeats 2000000 in
theorem refEnd_c2f (p : SIr) (a go els : Int) (S P B O : Option Addr) (c1 c2 c3 n c : Nat) (w : World) (hs : kBool.Row w S p.sec) (ops : List SOp) (hv : varB p.sec.length a true = false) :
    Calls Tryz.prog 27 #[.agg #[.slice S p.sec.length c1, .slice P p.par.length c2, .slice B p.blk.length c3], .agg #[.slice O n c, .int .u8 2, .int .i64 a, .int .i64 go, .int .i64 els]] w
      fun e' w' => e' = .returned (.bool (endS p ⟨ops, 2, a, go, els⟩)) ∧ Below w.heap.size w w' := by
  have hbW : Below w.heap.size w ((w.alloc (.cells #[.slice S p.sec.length c1, .slice P p.par.length c2, .slice B p.blk.length c3] 26)).alloc (.cells #[.slice O n c, .int .u8 2, .int .i64 a, .int .i64 go, .int .i64 els] 38)) := ((Below.refl _ _).alloc (Nat.le_refl _) _).alloc (by simp) _
  clear hs
  go_enter Tryz.func27, Tryz.ntmps27
  go_wp2_with (go_at_call 52; refine (refVar_c _ _ _).mono ?_; rintro e w1 ⟨rfl, hb⟩; have B1 := (Bk.alloc (Bk.new w #[.slice S p.sec.length c1, .slice P p.par.length c2, .slice B p.blk.length c3] 26) (.cells #[.slice O n c, .int .u8 2, .int .i64 a, .int .i64 go, .int .i64 els] 38)).mono hb; have B2 := (Bk.newAt (w := w.alloc (.cells #[.slice S p.sec.length c1, .slice P p.par.length c2, .slice B p.blk.length c3] 26)) (n := w.heap.size + 1) #[.slice O n c, .int .u8 2, .int .i64 a, .int .i64 go, .int .i64 els] 38 (by simp)).mono hb; have C1 := B1.cell; have C2 := B2.cell; have hB := bt' hbW hbW.size hb)
  all_goals
    go_ret
    refine ⟨ret_bool ?_, hB⟩
    simp [endS, blkB, *]

set_option maxRecDepth 100000 in
set_option maxHeartbeats 2000000 in
theorem refEnd_c3 (p : SIr) (a go els : Int) (S P B O : Option Addr) (c1 c2 c3 n c : Nat) (w : World) (hs : kBool.Row w S p.sec) (ops : List SOp) :
    Calls Tryz.prog 27 #[.agg #[.slice S p.sec.length c1, .slice P p.par.length c2, .slice B p.blk.length c3], .agg #[.slice O n c, .int .u8 3, .int .i64 a, .int .i64 go, .int .i64 els]] w
      fun e' w' => e' = .returned (.bool (endS p ⟨ops, 3, a, go, els⟩)) ∧ Below w.heap.size w w' := by
  have hbW : Below w.heap.size w ((w.alloc (.cells #[.slice S p.sec.length c1, .slice P p.par.length c2, .slice B p.blk.length c3] 26)).alloc (.cells #[.slice O n c, .int .u8 3, .int .i64 a, .int .i64 go, .int .i64 els] 38)) := ((Below.refl _ _).alloc (Nat.le_refl _) _).alloc (by simp) _
  clear hs
  cases h1 : (a == -1)
  · go_enter Tryz.func27, Tryz.ntmps27
    go_wp2_with (go_at_call 52; refine (refVar_c _ _ _).mono ?_; rintro e w1 ⟨rfl, hb⟩; have B1 := (Bk.alloc (Bk.new w #[.slice S p.sec.length c1, .slice P p.par.length c2, .slice B p.blk.length c3] 26) (.cells #[.slice O n c, .int .u8 3, .int .i64 a, .int .i64 go, .int .i64 els] 38)).mono hb; have B2 := (Bk.newAt (w := w.alloc (.cells #[.slice S p.sec.length c1, .slice P p.par.length c2, .slice B p.blk.length c3] 26)) (n := w.heap.size + 1) #[.slice O n c, .int .u8 3, .int .i64 a, .int .i64 go, .int .i64 els] 38 (by simp)).mono hb; have C1 := B1.cell; have C2 := B2.cell; have hB := bt' hbW hbW.size hb)
    all_goals
      go_ret
      refine ⟨ret_bool ?_, hB⟩
      simp [endS, blkB, *]
  · go_enter Tryz.func27, Tryz.ntmps27
    go_wp2
    all_goals
      go_ret
      refine ⟨ret_bool ?_, ((Below.refl _ _).alloc (Nat.le_refl _) _).alloc (by simp) _⟩
      simp [endS, blkB, *]
      try (intros; omega)

set_option maxRecDepth 100000 in
set_option maxHeartbeats 2000000 in
theorem refEnd_c4 (p : SIr) (a go els : Int) (S P B O : Option Addr) (c1 c2 c3 n c : Nat) (w : World) (hs : kBool.Row w S p.sec) (ops : List SOp) :
    Calls Tryz.prog 27 #[.agg #[.slice S p.sec.length c1, .slice P p.par.length c2, .slice B p.blk.length c3], .agg #[.slice O n c, .int .u8 4, .int .i64 a, .int .i64 go, .int .i64 els]] w
      fun e' w' => e' = .returned (.bool (endS p ⟨ops, 4, a, go, els⟩)) ∧ Below w.heap.size w w' := by
  have hbW : Below w.heap.size w ((w.alloc (.cells #[.slice S p.sec.length c1, .slice P p.par.length c2, .slice B p.blk.length c3] 26)).alloc (.cells #[.slice O n c, .int .u8 4, .int .i64 a, .int .i64 go, .int .i64 els] 38)) := ((Below.refl _ _).alloc (Nat.le_refl _) _).alloc (by simp) _
  clear hs
  go_enter Tryz.func27, Tryz.ntmps27
  go_wp2
  all_goals
    go_ret
    refine ⟨ret_bool ?_, ((Below.refl _ _).alloc (Nat.le_refl _) _).alloc (by simp) _⟩
    simp [endS, blkB, *]
    try (intros; omega)

set_option maxRecDepth 100000 in
set_option maxHeartbeats 2000000 in
theorem refEnd_c5 (p : SIr) (a go els : Int) (S P B O : Option Addr) (c1 c2 c3 n c : Nat) (w : World) (hs : kBool.Row w S p.sec) (e : Int) (ops : List SOp) (e1 : (e == 1) = false) (e2 : (e == 2) = false) (e3 : (e == 3) = false) (e4 : (e == 4) = false) :
    Calls Tryz.prog 27 #[.agg #[.slice S p.sec.length c1, .slice P p.par.length c2, .slice B p.blk.length c3], .agg #[.slice O n c, .int .u8 e, .int .i64 a, .int .i64 go, .int .i64 els]] w
      fun e' w' => e' = .returned (.bool (endS p ⟨ops, e, a, go, els⟩)) ∧ Below w.heap.size w w' := by
  have hbW : Below w.heap.size w ((w.alloc (.cells #[.slice S p.sec.length c1, .slice P p.par.length c2, .slice B p.blk.length c3] 26)).alloc (.cells #[.slice O n c, .int .u8 e, .int .i64 a, .int .i64 go, .int .i64 els] 38)) := ((Below.refl _ _).alloc (Nat.le_refl _) _).alloc (by simp) _
  clear hs
  go_enter Tryz.func27, Tryz.ntmps27
  go_wp2
  all_goals
    go_ret
    refine ⟨ret_bool ?_, hbW⟩
    simp only [beq_eq_false_iff_ne] at e1 e2 e3 e4
    simp [endS, *]

/-- ir.end, whatever the block. -/
theorem refEnd_c (p : SIr) (x : SBlock) (S P B O : Option Addr) (c1 c2 c3 n c : Nat) (w : World) (hs : kBool.Row w S p.sec) :
    Calls Tryz.prog 27 #[.agg #[.slice S p.sec.length c1, .slice P p.par.length c2, .slice B p.blk.length c3], .agg #[.slice O n c, .int .u8 x.e, .int .i64 x.a, .int .i64 x.go, .int .i64 x.els]] w
      fun e' w' => e' = .returned (.bool (endS p x)) ∧ Below w.heap.size w w' := by
  obtain ⟨ops, e, a, go, els⟩ := x
  by_cases e1 : e = 1
  · subst e1; exact refEnd_c1 p a go els S P B O c1 c2 c3 n c w hs ops
  by_cases e2 : e = 2
  · subst e2
    cases hv : varB p.sec.length a true with
    | true => exact refEnd_c2t p a go els S P B O c1 c2 c3 n c w hs ops hv
    | false => exact refEnd_c2f p a go els S P B O c1 c2 c3 n c w hs ops hv
  by_cases e3 : e = 3
  · subst e3; exact refEnd_c3 p a go els S P B O c1 c2 c3 n c w hs ops
  by_cases e4 : e = 4
  · subst e4; exact refEnd_c4 p a go els S P B O c1 c2 c3 n c w hs ops
  exact refEnd_c5 p a go els S P B O c1 c2 c3 n c w hs e ops (by simp [e1]) (by simp [e2]) (by simp [e3]) (by simp [e4])

end Go.Proofs.YtoabiignjkcdmaaGreat

namespace Go.Proofs.YtoabiignjkcdmaaGreat
open Go.RowKit
set_option linter.unusedVariables false
set_option linter.unusedSimpArgs false

def divB (fn : Int) : Bool := fn == 13 || fn == 14
set_option maxHeartbeats 400000 in
theorem divides_c (fn : Int) (w : World) : Calls Tryz.prog 54 #[.int .u8 fn] w fun e w' => e = .returned (.bool (divB fn)) ∧ w = w' := by
  go_enter Tryz.func54, Tryz.ntmps54
  go_wp2
  all_goals
    go_ret
    refine ⟨?_, rfl⟩
    simp [divB, *]

/-- Do a step's secrets keep apart? -/
def apB (k fn : Int) (a b d : Bool) : Bool :=
  if k = 2 then d || !a
  else if k = 3 then !(divB fn && (a || b)) && (d || !a && !b)
  else if k = 4 then !a && (d || fn == 0)
  else if k = 5 then !a && (!b || fn == 1)
  else if k = 6 ∨ k = 7 ∨ k = 10 then !a && !b
  else if k = 9 then !a && !d
  else if k = 8 ∨ k = 11 then !a
  else true

theorem secS_cell {w : World} {p : SIr} {sb so : Nat} (hs : kBool.Row w (some ⟨sb, so, none⟩) p.sec) (v : Int) (h : 0 ≤ v ∧ v < (p.sec.length : Int)) : w.cell? ⟨sb, so + v.toNat, none⟩ = some (.bool (secS p v)) := by
  have h5 : v.toNat < p.sec.length := by omega
  obtain ⟨sb', so', e, hc⟩ := kBool_at hs v.toNat h5
  cases e
  rw [hc]
  simp [secS, h5]
theorem secS_some {w : World} {p : SIr} {S : Option Addr} (hs : kBool.Row w S p.sec) (v : Int) (h : 0 ≤ v ∧ v < (p.sec.length : Int)) : ∃ sb so, S = some ⟨sb, so, none⟩ := by
  have h5 : v.toNat < p.sec.length := by omega
  obtain ⟨sb', so', e, hc⟩ := kBool_at hs v.toNat h5
  exact ⟨_, _, e⟩

def Ap (p : SIr) (k fn d a b imm : Int) (S P B : Option Addr) (c1 c2 c3 : Nat) (w : World) : Prop :=
    Calls Tryz.prog 29 #[.agg #[.slice S p.sec.length c1, .slice P p.par.length c2, .slice B p.blk.length c3], .agg #[.int .u8 k, .int .u8 fn, .int .i64 d, .int .i64 a, .int .i64 b, .int .u64 imm]] w
      fun e w' => e = .returned (.bool (apB k fn (secS p a) (secS p b) (secS p d))) ∧ Below w.heap.size w w'

set_option maxRecDepth 100000 in
set_option maxHeartbeats 2000000 in
theorem apart_c2 (p : SIr) (fn d a b imm : Int) (S P B : Option Addr) (c1 c2 c3 : Nat) (w : World) (hs : kBool.Row w S p.sec) (hd : 0 ≤ d ∧ d < (p.sec.length : Int)) (ha : 0 ≤ a ∧ a < (p.sec.length : Int)) : Ap p 2 fn d a b imm S P B c1 c2 c3 w := by
  obtain ⟨sb, so, rfl⟩ := secS_some hs d hd
  have gd := secS_cell hs d hd
  have ga := secS_cell hs a ha
  have hbW : Below w.heap.size w ((w.alloc (.cells #[.slice (some ⟨sb, so, none⟩) p.sec.length c1, .slice P p.par.length c2, .slice B p.blk.length c3] 26)).alloc (.cells #[.int .u8 2, .int .u8 fn, .int .i64 d, .int .i64 a, .int .i64 b, .int .u64 imm] 54)) := ((Below.refl _ _).alloc (Nat.le_refl _) _).alloc (by simp) _
  replace gd := cm gd hbW
  replace ga := cm ga hbW
  unfold Ap
  generalize secS p a = sa at *
  generalize secS p d = sd at *
  generalize secS p b = sB at *
  clear hs
  go_enter Tryz.func29, Tryz.ntmps29
  go_wp2
  all_goals
    go_ret
    refine ⟨ret_bool ?_, hbW⟩
    simp [apB, *]
set_option maxRecDepth 100000 in
set_option maxHeartbeats 2000000 in
theorem apart_c3 (p : SIr) (fn d a b imm : Int) (S P B : Option Addr) (c1 c2 c3 : Nat) (w : World) (hs : kBool.Row w S p.sec) (hd : 0 ≤ d ∧ d < (p.sec.length : Int)) (ha : 0 ≤ a ∧ a < (p.sec.length : Int)) (hb : 0 ≤ b ∧ b < (p.sec.length : Int)) : Ap p 3 fn d a b imm S P B c1 c2 c3 w := by
  obtain ⟨sb, so, rfl⟩ := secS_some hs d hd
  have gd := secS_cell hs d hd
  have ga := secS_cell hs a ha
  have gb := secS_cell hs b hb
  have hbW : Below w.heap.size w ((w.alloc (.cells #[.slice (some ⟨sb, so, none⟩) p.sec.length c1, .slice P p.par.length c2, .slice B p.blk.length c3] 26)).alloc (.cells #[.int .u8 3, .int .u8 fn, .int .i64 d, .int .i64 a, .int .i64 b, .int .u64 imm] 54)) := ((Below.refl _ _).alloc (Nat.le_refl _) _).alloc (by simp) _
  replace gd := cm gd hbW
  replace ga := cm ga hbW
  replace gb := cm gb hbW
  unfold Ap
  generalize secS p a = sa at *
  generalize secS p d = sd at *
  generalize secS p b = sB at *
  clear hs
  obtain ⟨dv, hdv⟩ : ∃ dv, divB fn = dv := ⟨_, rfl⟩
  have HD : Hid (∀ w, Calls Tryz.prog 54 #[.int .u8 fn] w fun e w' => e = .returned (.bool dv) ∧ w = w') := Lib.hid (fun w => by rw [← hdv]; exact divides_c fn w)
  have HV := Lib.hid hdv
  clear hdv
  go_enter Tryz.func29, Tryz.ntmps29
  go_wp2_with (go_at_call 54; refine (HD.out _).mono ?_; rintro e w1 ⟨rfl, rfl⟩)
  all_goals
    go_ret
    refine ⟨ret_bool ?_, hbW⟩
    have HV2 := HV.out
    simp [apB, *]
set_option maxRecDepth 100000 in
set_option maxHeartbeats 2000000 in
theorem apart_c4 (p : SIr) (fn d a b imm : Int) (S P B : Option Addr) (c1 c2 c3 : Nat) (w : World) (hs : kBool.Row w S p.sec) (hd : 0 ≤ d ∧ d < (p.sec.length : Int)) (ha : 0 ≤ a ∧ a < (p.sec.length : Int)) : Ap p 4 fn d a b imm S P B c1 c2 c3 w := by
  obtain ⟨sb, so, rfl⟩ := secS_some hs d hd
  have gd := secS_cell hs d hd
  have ga := secS_cell hs a ha
  have hbW : Below w.heap.size w ((w.alloc (.cells #[.slice (some ⟨sb, so, none⟩) p.sec.length c1, .slice P p.par.length c2, .slice B p.blk.length c3] 26)).alloc (.cells #[.int .u8 4, .int .u8 fn, .int .i64 d, .int .i64 a, .int .i64 b, .int .u64 imm] 54)) := ((Below.refl _ _).alloc (Nat.le_refl _) _).alloc (by simp) _
  replace gd := cm gd hbW
  replace ga := cm ga hbW
  unfold Ap
  generalize secS p a = sa at *
  generalize secS p d = sd at *
  generalize secS p b = sB at *
  clear hs
  go_enter Tryz.func29, Tryz.ntmps29
  go_wp2
  all_goals
    go_ret
    refine ⟨ret_bool ?_, hbW⟩
    simp [apB, *]
set_option maxRecDepth 100000 in
set_option maxHeartbeats 2000000 in
theorem apart_c5 (p : SIr) (fn d a b imm : Int) (S P B : Option Addr) (c1 c2 c3 : Nat) (w : World) (hs : kBool.Row w S p.sec) (ha : 0 ≤ a ∧ a < (p.sec.length : Int)) (hb : 0 ≤ b ∧ b < (p.sec.length : Int)) : Ap p 5 fn d a b imm S P B c1 c2 c3 w := by
  obtain ⟨sb, so, rfl⟩ := secS_some hs a ha
  have ga := secS_cell hs a ha
  have gb := secS_cell hs b hb
  have hbW : Below w.heap.size w ((w.alloc (.cells #[.slice (some ⟨sb, so, none⟩) p.sec.length c1, .slice P p.par.length c2, .slice B p.blk.length c3] 26)).alloc (.cells #[.int .u8 5, .int .u8 fn, .int .i64 d, .int .i64 a, .int .i64 b, .int .u64 imm] 54)) := ((Below.refl _ _).alloc (Nat.le_refl _) _).alloc (by simp) _
  replace ga := cm ga hbW
  replace gb := cm gb hbW
  unfold Ap
  generalize secS p a = sa at *
  generalize secS p d = sd at *
  generalize secS p b = sB at *
  clear hs
  go_enter Tryz.func29, Tryz.ntmps29
  go_wp2
  all_goals
    go_ret
    refine ⟨ret_bool ?_, hbW⟩
    simp [apB, *]
set_option maxRecDepth 100000 in
set_option maxHeartbeats 2000000 in
theorem apart_c6 (p : SIr) (fn d a b imm : Int) (S P B : Option Addr) (c1 c2 c3 : Nat) (w : World) (hs : kBool.Row w S p.sec) (ha : 0 ≤ a ∧ a < (p.sec.length : Int)) (hb : 0 ≤ b ∧ b < (p.sec.length : Int)) : Ap p 6 fn d a b imm S P B c1 c2 c3 w := by
  obtain ⟨sb, so, rfl⟩ := secS_some hs a ha
  have ga := secS_cell hs a ha
  have gb := secS_cell hs b hb
  have hbW : Below w.heap.size w ((w.alloc (.cells #[.slice (some ⟨sb, so, none⟩) p.sec.length c1, .slice P p.par.length c2, .slice B p.blk.length c3] 26)).alloc (.cells #[.int .u8 6, .int .u8 fn, .int .i64 d, .int .i64 a, .int .i64 b, .int .u64 imm] 54)) := ((Below.refl _ _).alloc (Nat.le_refl _) _).alloc (by simp) _
  replace ga := cm ga hbW
  replace gb := cm gb hbW
  unfold Ap
  generalize secS p a = sa at *
  generalize secS p d = sd at *
  generalize secS p b = sB at *
  clear hs
  go_enter Tryz.func29, Tryz.ntmps29
  go_wp2
  all_goals
    go_ret
    refine ⟨ret_bool ?_, hbW⟩
    simp [apB, *]
set_option maxRecDepth 100000 in
set_option maxHeartbeats 2000000 in
theorem apart_c7 (p : SIr) (fn d a b imm : Int) (S P B : Option Addr) (c1 c2 c3 : Nat) (w : World) (hs : kBool.Row w S p.sec) (ha : 0 ≤ a ∧ a < (p.sec.length : Int)) (hb : 0 ≤ b ∧ b < (p.sec.length : Int)) : Ap p 7 fn d a b imm S P B c1 c2 c3 w := by
  obtain ⟨sb, so, rfl⟩ := secS_some hs a ha
  have ga := secS_cell hs a ha
  have gb := secS_cell hs b hb
  have hbW : Below w.heap.size w ((w.alloc (.cells #[.slice (some ⟨sb, so, none⟩) p.sec.length c1, .slice P p.par.length c2, .slice B p.blk.length c3] 26)).alloc (.cells #[.int .u8 7, .int .u8 fn, .int .i64 d, .int .i64 a, .int .i64 b, .int .u64 imm] 54)) := ((Below.refl _ _).alloc (Nat.le_refl _) _).alloc (by simp) _
  replace ga := cm ga hbW
  replace gb := cm gb hbW
  unfold Ap
  generalize secS p a = sa at *
  generalize secS p d = sd at *
  generalize secS p b = sB at *
  clear hs
  go_enter Tryz.func29, Tryz.ntmps29
  go_wp2
  all_goals
    go_ret
    refine ⟨ret_bool ?_, hbW⟩
    simp [apB, *]
set_option maxRecDepth 100000 in
set_option maxHeartbeats 2000000 in
theorem apart_c10 (p : SIr) (fn d a b imm : Int) (S P B : Option Addr) (c1 c2 c3 : Nat) (w : World) (hs : kBool.Row w S p.sec) (ha : 0 ≤ a ∧ a < (p.sec.length : Int)) (hb : 0 ≤ b ∧ b < (p.sec.length : Int)) : Ap p 10 fn d a b imm S P B c1 c2 c3 w := by
  obtain ⟨sb, so, rfl⟩ := secS_some hs a ha
  have ga := secS_cell hs a ha
  have gb := secS_cell hs b hb
  have hbW : Below w.heap.size w ((w.alloc (.cells #[.slice (some ⟨sb, so, none⟩) p.sec.length c1, .slice P p.par.length c2, .slice B p.blk.length c3] 26)).alloc (.cells #[.int .u8 10, .int .u8 fn, .int .i64 d, .int .i64 a, .int .i64 b, .int .u64 imm] 54)) := ((Below.refl _ _).alloc (Nat.le_refl _) _).alloc (by simp) _
  replace ga := cm ga hbW
  replace gb := cm gb hbW
  unfold Ap
  generalize secS p a = sa at *
  generalize secS p d = sd at *
  generalize secS p b = sB at *
  clear hs
  go_enter Tryz.func29, Tryz.ntmps29
  go_wp2
  all_goals
    go_ret
    refine ⟨ret_bool ?_, hbW⟩
    simp [apB, *]
set_option maxRecDepth 100000 in
set_option maxHeartbeats 2000000 in
theorem apart_c9 (p : SIr) (fn d a b imm : Int) (S P B : Option Addr) (c1 c2 c3 : Nat) (w : World) (hs : kBool.Row w S p.sec) (hd : 0 ≤ d ∧ d < (p.sec.length : Int)) (ha : 0 ≤ a ∧ a < (p.sec.length : Int)) : Ap p 9 fn d a b imm S P B c1 c2 c3 w := by
  obtain ⟨sb, so, rfl⟩ := secS_some hs d hd
  have gd := secS_cell hs d hd
  have ga := secS_cell hs a ha
  have hbW : Below w.heap.size w ((w.alloc (.cells #[.slice (some ⟨sb, so, none⟩) p.sec.length c1, .slice P p.par.length c2, .slice B p.blk.length c3] 26)).alloc (.cells #[.int .u8 9, .int .u8 fn, .int .i64 d, .int .i64 a, .int .i64 b, .int .u64 imm] 54)) := ((Below.refl _ _).alloc (Nat.le_refl _) _).alloc (by simp) _
  replace gd := cm gd hbW
  replace ga := cm ga hbW
  unfold Ap
  generalize secS p a = sa at *
  generalize secS p d = sd at *
  generalize secS p b = sB at *
  clear hs
  go_enter Tryz.func29, Tryz.ntmps29
  go_wp2
  all_goals
    go_ret
    refine ⟨ret_bool ?_, hbW⟩
    simp [apB, *]
set_option maxRecDepth 100000 in
set_option maxHeartbeats 2000000 in
theorem apart_c8 (p : SIr) (fn d a b imm : Int) (S P B : Option Addr) (c1 c2 c3 : Nat) (w : World) (hs : kBool.Row w S p.sec) (ha : 0 ≤ a ∧ a < (p.sec.length : Int)) : Ap p 8 fn d a b imm S P B c1 c2 c3 w := by
  obtain ⟨sb, so, rfl⟩ := secS_some hs a ha
  have ga := secS_cell hs a ha
  have hbW : Below w.heap.size w ((w.alloc (.cells #[.slice (some ⟨sb, so, none⟩) p.sec.length c1, .slice P p.par.length c2, .slice B p.blk.length c3] 26)).alloc (.cells #[.int .u8 8, .int .u8 fn, .int .i64 d, .int .i64 a, .int .i64 b, .int .u64 imm] 54)) := ((Below.refl _ _).alloc (Nat.le_refl _) _).alloc (by simp) _
  replace ga := cm ga hbW
  unfold Ap
  generalize secS p a = sa at *
  generalize secS p d = sd at *
  generalize secS p b = sB at *
  clear hs
  go_enter Tryz.func29, Tryz.ntmps29
  go_wp2
  all_goals
    go_ret
    refine ⟨ret_bool ?_, hbW⟩
    simp [apB, *]
set_option maxRecDepth 100000 in
set_option maxHeartbeats 2000000 in
theorem apart_c11 (p : SIr) (fn d a b imm : Int) (S P B : Option Addr) (c1 c2 c3 : Nat) (w : World) (hs : kBool.Row w S p.sec) (ha : 0 ≤ a ∧ a < (p.sec.length : Int)) : Ap p 11 fn d a b imm S P B c1 c2 c3 w := by
  obtain ⟨sb, so, rfl⟩ := secS_some hs a ha
  have ga := secS_cell hs a ha
  have hbW : Below w.heap.size w ((w.alloc (.cells #[.slice (some ⟨sb, so, none⟩) p.sec.length c1, .slice P p.par.length c2, .slice B p.blk.length c3] 26)).alloc (.cells #[.int .u8 11, .int .u8 fn, .int .i64 d, .int .i64 a, .int .i64 b, .int .u64 imm] 54)) := ((Below.refl _ _).alloc (Nat.le_refl _) _).alloc (by simp) _
  replace ga := cm ga hbW
  unfold Ap
  generalize secS p a = sa at *
  generalize secS p d = sd at *
  generalize secS p b = sB at *
  clear hs
  go_enter Tryz.func29, Tryz.ntmps29
  go_wp2
  all_goals
    go_ret
    refine ⟨ret_bool ?_, hbW⟩
    simp [apB, *]
set_option maxRecDepth 100000 in
set_option maxHeartbeats 2000000 in
theorem apart_c1 (p : SIr) (fn d a b imm : Int) (S P B : Option Addr) (c1 c2 c3 : Nat) (w : World) (hs : kBool.Row w S p.sec)  : Ap p 1 fn d a b imm S P B c1 c2 c3 w := by
  have hbW : Below w.heap.size w ((w.alloc (.cells #[.slice S p.sec.length c1, .slice P p.par.length c2, .slice B p.blk.length c3] 26)).alloc (.cells #[.int .u8 1, .int .u8 fn, .int .i64 d, .int .i64 a, .int .i64 b, .int .u64 imm] 54)) := ((Below.refl _ _).alloc (Nat.le_refl _) _).alloc (by simp) _
  unfold Ap
  generalize secS p a = sa at *
  generalize secS p d = sd at *
  generalize secS p b = sB at *
  clear hs
  go_enter Tryz.func29, Tryz.ntmps29
  go_wp2
  all_goals
    go_ret
    refine ⟨ret_bool ?_, hbW⟩
    simp [apB, *]
set_option maxRecDepth 100000 in
set_option maxHeartbeats 2000000 in
theorem apart_c12 (p : SIr) (fn d a b imm : Int) (S P B : Option Addr) (c1 c2 c3 : Nat) (w : World) (hs : kBool.Row w S p.sec)  : Ap p 12 fn d a b imm S P B c1 c2 c3 w := by
  have hbW : Below w.heap.size w ((w.alloc (.cells #[.slice S p.sec.length c1, .slice P p.par.length c2, .slice B p.blk.length c3] 26)).alloc (.cells #[.int .u8 12, .int .u8 fn, .int .i64 d, .int .i64 a, .int .i64 b, .int .u64 imm] 54)) := ((Below.refl _ _).alloc (Nat.le_refl _) _).alloc (by simp) _
  unfold Ap
  generalize secS p a = sa at *
  generalize secS p d = sd at *
  generalize secS p b = sB at *
  clear hs
  go_enter Tryz.func29, Tryz.ntmps29
  go_wp2
  all_goals
    go_ret
    refine ⟨ret_bool ?_, hbW⟩
    simp [apB, *]
set_option maxRecDepth 100000 in
set_option maxHeartbeats 2000000 in
theorem apart_c13 (p : SIr) (fn d a b imm : Int) (S P B : Option Addr) (c1 c2 c3 : Nat) (w : World) (hs : kBool.Row w S p.sec)  : Ap p 13 fn d a b imm S P B c1 c2 c3 w := by
  have hbW : Below w.heap.size w ((w.alloc (.cells #[.slice S p.sec.length c1, .slice P p.par.length c2, .slice B p.blk.length c3] 26)).alloc (.cells #[.int .u8 13, .int .u8 fn, .int .i64 d, .int .i64 a, .int .i64 b, .int .u64 imm] 54)) := ((Below.refl _ _).alloc (Nat.le_refl _) _).alloc (by simp) _
  unfold Ap
  generalize secS p a = sa at *
  generalize secS p d = sd at *
  generalize secS p b = sB at *
  clear hs
  go_enter Tryz.func29, Tryz.ntmps29
  go_wp2
  all_goals
    go_ret
    refine ⟨ret_bool ?_, hbW⟩
    simp [apB, *]

theorem kf_lit : ∀ k ∈ [(1:Int), 2, 3, 4, 5, 6, 7, 8, 9, 10, 11, 12, 13], ∀ fn ∈ [(0:Int), 1], ∀ a b d : Bool, k ≠ 3 → ((fn == 0 || fn == 1 && kf k 0) && apB k fn a b d) = opT k fn (kf k 2 && a) (kf k 3 && b) (kf k 1 && d) := by decide
theorem opT_big (k fn : Int) (a b d : Bool) (hk : k ≠ 3) (h : 1 < fn) : opT k fn a b d = false := by
  have : opG k fn = true := by simp [opG, hk, h]
  simp [opT, this]
theorem kf3 : ∀ a b d : Bool, ∀ fn ∈ [(1:Int), 2, 3, 4, 5, 6, 7, 8, 9, 10, 11, 12, 13, 14], apB 3 fn a b d = opT 3 fn (kf 3 2 && a) (kf 3 3 && b) (kf 3 1 && d) := by decide
theorem opS_eq (p : SIr) (o : SOp) (hf : 0 ≤ o.fn) : opS p o = (formB p.sec.length o.k o.fn o.d o.a o.b o.imm && apB o.k o.fn (secS p o.a) (secS p o.b) (secS p o.d)) := by
  obtain ⟨k, fn, d, a, b, imm⟩ := o
  simp only at hf ⊢
  unfold opS formB
  by_cases hk : k < 1 ∨ 13 < k
  · have e : kindB k = false := by
      simp only [kindB, Bool.and_eq_false_iff, decide_eq_false_iff_not]; omega
    rw [if_pos hk, e]; rfl
  · have e : kindB k = true := by simp only [kindB, Bool.and_eq_true, decide_eq_true_eq]; omega
    rw [if_neg hk, e]
    cases hv : opV p.sec.length k d a b imm with
    | true => rfl
    | false =>
      simp only [Bool.false_eq_true, if_false, Bool.not_false, Bool.true_and]
      generalize secS p a = sa
      generalize secS p b = sb
      generalize secS p d = sd
      by_cases h3 : k = 3
      · subst h3
        simp only [if_true]
        by_cases h14 : 1 ≤ fn ∧ fn ≤ 14
        · have : (decide (1 ≤ fn) && decide (fn ≤ 14)) = true := by simp [h14]
          rw [this, Bool.true_and]
          refine (kf3 sa sb sd fn ?_).symm
          simp only [List.mem_cons, List.not_mem_nil, or_false]; omega
        · have : (decide (1 ≤ fn) && decide (fn ≤ 14)) = false := by simp only [Bool.and_eq_false_iff, decide_eq_false_iff_not]; omega
          rw [this, Bool.false_and]
          have h2 : (decide (fn < 1) || decide (14 < fn)) = true := by simp only [Bool.or_eq_true, decide_eq_true_eq]; omega
          simp [opT, opE, h2]
      · rw [if_neg h3]
        by_cases h1 : 1 < fn
        · rw [opT_big _ _ _ _ _ h3 h1]
          have e0 : (fn == 0) = false := by simp; omega
          have e1 : (fn == 1) = false := by simp; omega
          simp [e0, e1]
        · refine (kf_lit k ?_ fn ?_ sa sb sd h3).symm
          · simp only [List.mem_cons, List.not_mem_nil, or_false]; omega
          · simp only [List.mem_cons, List.not_mem_nil, or_false]; omega

/-- What a step with its fields keeps to. -/
theorem form_bd {n : Nat} {k fn d a b imm : Int} (h : formB n k fn d a b imm = true) : (1 ≤ k ∧ k ≤ 13) ∧ (kf k 1 = true → 0 ≤ d ∧ d < (n : Int)) ∧ (kf k 2 = true → 0 ≤ a ∧ a < (n : Int)) ∧ (kf k 3 = true → 0 ≤ b ∧ b < (n : Int)) := by
  unfold formB kindB opV at h
  simp only [Bool.and_eq_true, Bool.not_eq_true', Bool.or_eq_false_iff, Bool.not_eq_false', decide_eq_true_eq] at h
  exact ⟨h.1.1, fun e => varB_in (by have := h.1.2.1.1.1; rwa [e] at this), fun e => varB_in (by have := h.1.2.1.1.2; rwa [e] at this), fun e => varB_in (by have := h.1.2.1.2; rwa [e] at this)⟩
/-- apart, whatever the step. -/
theorem apart_c (p : SIr) (o : SOp) (S P B : Option Addr) (c1 c2 c3 : Nat) (w : World) (hs : kBool.Row w S p.sec) (h : formB p.sec.length o.k o.fn o.d o.a o.b o.imm = true) : Ap p o.k o.fn o.d o.a o.b o.imm S P B c1 c2 c3 w := by
  obtain ⟨k, fn, d, a, b, imm⟩ := o
  simp only at h ⊢
  obtain ⟨hk, hd, ha, hb⟩ := form_bd h
  have hk : k = 1 ∨ k = 2 ∨ k = 3 ∨ k = 4 ∨ k = 5 ∨ k = 6 ∨ k = 7 ∨ k = 8 ∨ k = 9 ∨ k = 10 ∨ k = 11 ∨ k = 12 ∨ k = 13 := by omega
  rcases hk with rfl | rfl | rfl | rfl | rfl | rfl | rfl | rfl | rfl | rfl | rfl | rfl | rfl
  · exact apart_c1 p fn d a b imm S P B c1 c2 c3 w hs
  · exact apart_c2 p fn d a b imm S P B c1 c2 c3 w hs (hd rfl) (ha rfl)
  · exact apart_c3 p fn d a b imm S P B c1 c2 c3 w hs (hd rfl) (ha rfl) (hb rfl)
  · exact apart_c4 p fn d a b imm S P B c1 c2 c3 w hs (hd rfl) (ha rfl)
  · exact apart_c5 p fn d a b imm S P B c1 c2 c3 w hs (ha rfl) (hb rfl)
  · exact apart_c6 p fn d a b imm S P B c1 c2 c3 w hs (ha rfl) (hb rfl)
  · exact apart_c7 p fn d a b imm S P B c1 c2 c3 w hs (ha rfl) (hb rfl)
  · exact apart_c8 p fn d a b imm S P B c1 c2 c3 w hs (ha rfl)
  · exact apart_c9 p fn d a b imm S P B c1 c2 c3 w hs (hd rfl) (ha rfl)
  · exact apart_c10 p fn d a b imm S P B c1 c2 c3 w hs (ha rfl) (hb rfl)
  · exact apart_c11 p fn d a b imm S P B c1 c2 c3 w hs (ha rfl)
  · exact apart_c12 p fn d a b imm S P B c1 c2 c3 w hs
  · exact apart_c13 p fn d a b imm S P B c1 c2 c3 w hs
/-- form, whatever the step. -/
theorem form_c (p : SIr) (o : SOp) (S P B : Option Addr) (c1 c2 c3 : Nat) (w : World) :
    Calls Tryz.prog 28 #[.agg #[.slice S p.sec.length c1, .slice P p.par.length c2, .slice B p.blk.length c3], .agg #[.int .u8 o.k, .int .u8 o.fn, .int .i64 o.d, .int .i64 o.a, .int .i64 o.b, .int .u64 o.imm]] w
      fun e w' => e = .returned (.bool (formB p.sec.length o.k o.fn o.d o.a o.b o.imm)) ∧ Below w.heap.size w w' := by
  by_cases hk : o.k < 1 ∨ 13 < o.k
  · have e : formB p.sec.length o.k o.fn o.d o.a o.b o.imm = false := by
      have : kindB o.k = false := by simp only [kindB, Bool.and_eq_false_iff, decide_eq_false_iff_not]; omega
      simp [formB, this]
    rw [e]
    exact form_out p _ _ _ _ _ _ S P B c1 c2 c3 w hk
  · exact form_in p _ _ _ _ _ _ S P B c1 c2 c3 w (by omega) (by omega)
end Go.Proofs.YtoabiignjkcdmaaGreat
