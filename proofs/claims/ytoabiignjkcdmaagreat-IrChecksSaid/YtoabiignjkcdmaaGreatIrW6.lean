/-
  ir.Check walked.
-/
import Derived.Test.YtoabiignjkcdmaaGreatIrW3
import Derived.Test.YtoabiignjkcdmaaGreatIrW4
import Derived.Test.YtoabiignjkcdmaaGreatIrW5
namespace Go.Proofs.YtoabiignjkcdmaaGreat
open Go.RowKit
set_option linter.unusedVariables false
set_option linter.unusedSimpArgs false

theorem sumOps_snoc (l : List SBlock) (b : SBlock) : sumOps (l ++ [b]) = sumOps l + b.ops.length := by simp [sumOps]
theorem sumOps_take (l : List SBlock) (k : Nat) : sumOps (l.take k) ≤ sumOps l := by
  have e : sumOps l = sumOps (l.take k) + sumOps (l.drop k) := by
    conv => lhs; rw [← List.take_append_drop k l]
    simp only [sumOps, List.map_append, List.sum_append]
  omega

set_option maxRecDepth 100000 in
set_option maxHeartbeats 2000000 in
theorem check_c (p : SIr) (S P B : Option Addr) (c1 c2 c3 : Nat) (w : World) (hs : kBool.Row w S p.sec) (hp : kHanded.Row w P p.par) (hb0 : kBlock.Row w B p.blk) (hm : p.par.length ≤ 1000) (hops : ∀ b ∈ p.blk, b.ops.length ≤ 1000000000000000) :
    Calls Tryz.prog 11 #[.agg #[.slice S p.sec.length c1, .slice P p.par.length c2, .slice B p.blk.length c3]] w
      fun e w' => e = .returned (.int .i64 (checkN p)) ∧ Below w.heap.size w w' := by
  have hbW : Below w.heap.size w (w.alloc (.cells #[.slice S p.sec.length c1, .slice P p.par.length c2, .slice B p.blk.length c3] 26)) := (Below.refl _ _).alloc (Nat.le_refl _) _
  go_enter Tryz.func11, Tryz.ntmps11
  by_cases h1 : (4096 : Int) < (p.sec.length : Int)
  case pos =>
    go_wp2_with fail
    go_ret
    refine ⟨ret_int ?_, hbW⟩
    simp only [checkN, checkS, headS, decide_eq_false (show ¬ p.sec.length ≤ 4096 by omega), Bool.false_and, Bool.and_false]
    rfl
  by_cases h2 : (p.blk.length : Int) < 1
  case pos =>
    go_wp2_with fail
    go_ret
    refine ⟨ret_int ?_, hbW⟩
    simp only [checkN, checkS, headS, decide_eq_false (show ¬ 1 ≤ p.blk.length by omega), Bool.false_and, Bool.and_false]
    rfl
  by_cases h3 : (4096 : Int) < (p.blk.length : Int)
  case pos =>
    go_wp2_with fail
    go_ret
    refine ⟨ret_int ?_, hbW⟩
    simp only [checkN, checkS, headS, decide_eq_false (show ¬ p.blk.length ≤ 4096 by omega), Bool.false_and, Bool.and_false]
    rfl
  cases hpar : paramsS p with
  | false =>
    have HP := Lib.hid hpar
    clear hpar
    go_wp2_with (go_at_call 21; go_must (refine (params_c p S P B c1 c2 c3 _ (hs.mono hbW) (hp.mono hbW) hm).mono ?_); rintro e w1 ⟨rfl, hb1⟩; rw [show (p.par.all (handS p) && decide (p.par.length ≤ 8) && decide (metS p.par).Nodup) = false from HP.out])
    go_ret
    refine ⟨ret_int ?_, bt hbW hb1⟩
    simp only [checkN, checkS, headS, HP.out, Bool.false_and, Bool.and_false]
    rfl
  | true =>
    have HP := Lib.hid hpar
    clear hpar
    have hhead : headS p = true := by simp only [headS, HP.out, decide_eq_true (show p.sec.length ≤ 4096 by omega), decide_eq_true (show 1 ≤ p.blk.length by omega), decide_eq_true (show p.blk.length ≤ 4096 by omega), Bool.and_true]
    have HH := Lib.hid hhead
    clear hhead
    go_wp2_with (go_at_call 21; go_must (refine (params_c p S P B c1 c2 c3 _ (hs.mono hbW) (hp.mono hbW) hm).mono ?_); rintro e w1 ⟨rfl, hb1⟩; rw [show (p.par.all (handS p) && decide (p.par.length ≤ 8) && decide (metS p.par).Nodup) = true from HP.out]; have B1 := (Bk.new w #[.slice S p.sec.length c1, .slice P p.par.length c2, .slice B p.blk.length c3] 26).mono hb1; have C1 := B1.cell)
    have hbw1 : Below w.heap.size w w1 := bt hbW hb1
    go_loopw [3, 30] (fun v s wr => ∃ k : Nat, k ≤ p.blk.length ∧ s = .int .i64 k ∧ v = .int .i64 (sumOps (p.blk.take k)) ∧ sumOps (p.blk.take k) ≤ 32768 ∧ (∀ j (h : j < p.blk.length), j < k → blockS p p.blk[j] = true) ∧
        Bk wr w.heap.size #[.slice S p.sec.length c1, .slice P p.par.length c2, .slice B p.blk.length c3] 26 ∧ Below w.heap.size w wr) (fun _ s _ => p.blk.length - (intOf s).toNat)
    case atStart => exact ⟨0, Nat.zero_le _, rfl, rfl, Nat.zero_le _, fun j _ h => absurd h (by omega), B1, hbw1⟩
    case round =>
      obtain ⟨k, hk, rfl, rfl, hsum, hall, hB, hb⟩ := hrel
      have HA := Lib.hid hall; clear hall
      by_cases hlt : k < p.blk.length
      · obtain ⟨bb, bo, O, oc, rfl, g0, g1, g2, g3, g4, gm, hO⟩ := kBlock_at (hb0.mono hb) k hlt
        have C := hB.cell
        have hol := hops _ (List.getElem_mem hlt)
        have hsn : sumOps (p.blk.take (k + 1)) = sumOps (p.blk.take k) + p.blk[k].ops.length := by rw [List.take_succ_eq_append_getElem hlt, sumOps_snoc]
        have hst := sumOps_take p.blk (k + 1)
        have HN := Lib.hid hsn
        have HT := Lib.hid hst
        clear hsn hst
        have HE : ∃ E, endS p p.blk[k] = E := ⟨_, rfl⟩
        obtain ⟨E, hE⟩ := HE
        have HQ : ∃ F, p.blk[k].ops.all (opS p) = F := ⟨_, rfl⟩
        obtain ⟨F, hF⟩ := HQ
        have HE := Lib.hid hE
        have HF := Lib.hid hF
        clear hE hF
        have B2 : Bk (wr.alloc (.cells #[.slice O p.blk[k].ops.length oc, .int .u8 p.blk[k].e, .int .i64 p.blk[k].a, .int .i64 p.blk[k].go, .int .i64 p.blk[k].els] 38)) wr.heap.size #[.slice O p.blk[k].ops.length oc, .int .u8 p.blk[k].e, .int .i64 p.blk[k].a, .int .i64 p.blk[k].go, .int .i64 p.blk[k].els] 38 := Bk.new ..
        have B3 := hB.alloc (.cells #[.slice O p.blk[k].ops.length oc, .int .u8 p.blk[k].e, .int .i64 p.blk[k].a, .int .i64 p.blk[k].go, .int .i64 p.blk[k].els] 38)
        have hbA : Below wr.heap.size wr (wr.alloc (.cells #[.slice O p.blk[k].ops.length oc, .int .u8 p.blk[k].e, .int .i64 p.blk[k].a, .int .i64 p.blk[k].go, .int .i64 p.blk[k].els] 38)) := (Below.refl _ _).alloc (Nat.le_refl _) _
        have C2 := B2.cell
        have C3 := B3.cell
        by_cases hbig : (32768 : Int) < (sumOps (p.blk.take k) : Int) + (p.blk[k].ops.length : Int)
        · go_wp2_with fail
          go_ret
          refine ⟨ret_int ?_, bt hb hbA⟩
          have e1 := HN.out
          have e2 := HT.out
          have : ¬ sumOps p.blk ≤ 32768 := by omega
          simp only [checkN, checkS, decide_eq_false this, Bool.false_and, Bool.and_false]
          rfl
        · cases E with
          | false =>
            go_wp2_with (go_at_call 22; go_must (refine (end_c p p.blk[k] S P _ O c1 c2 c3 _ oc _ ((hs.mono hb).mono hbA)).mono ?_); rintro e w2 ⟨rfl, hb2⟩; rw [HE.out])
            go_ret
            refine ⟨ret_int ?_, bt (bt hb hbA) hb2⟩
            have : p.blk.all (blockS p) = false := by rw [List.all_eq_false]; exact ⟨p.blk[k], List.getElem_mem hlt, by simp [blockS, HE.out]⟩
            simp only [checkN, checkS, this, Bool.and_false]
            rfl
          | true =>
            cases F with
            | false =>
              go_wp2_with (first
                | (go_at_call 22; go_must (refine (end_c p p.blk[k] S P _ O c1 c2 c3 _ oc _ ((hs.mono hb).mono hbA)).mono ?_); rintro e w2 ⟨rfl, hb2⟩; rw [HE.out]; have B4 := B3.mono hb2; have B5 := B2.mono hb2; have C4 := B4.cell; have C5 := B5.cell)
                | (go_at_call 23; go_must (refine (containsOp_c p p.blk[k].ops _ w.heap.size B4 (((hs.mono hb).mono hbA).mono hb2) ((hO.mono hbA).mono hb2) gm).mono ?_); rintro e w3 ⟨rfl, hb3⟩; rw [HF.out]))
              go_ret
              refine ⟨ret_int ?_, bt (bt (bt hb hbA) hb2) hb3⟩
              have : p.blk.all (blockS p) = false := by rw [List.all_eq_false]; exact ⟨p.blk[k], List.getElem_mem hlt, by simp [blockS, HE.out, HF.out]⟩
              simp only [checkN, checkS, this, Bool.and_false]
              rfl
            | true =>
              go_wp2_with (first
                | (go_at_call 22; go_must (refine (end_c p p.blk[k] S P _ O c1 c2 c3 _ oc _ ((hs.mono hb).mono hbA)).mono ?_); rintro e w2 ⟨rfl, hb2⟩; rw [HE.out]; have B4 := B3.mono hb2; have B5 := B2.mono hb2; have C4 := B4.cell; have C5 := B5.cell)
                | (go_at_call 23; go_must (refine (containsOp_c p p.blk[k].ops _ w.heap.size B4 (((hs.mono hb).mono hbA).mono hb2) ((hO.mono hbA).mono hb2) gm).mono ?_); rintro e w3 ⟨rfl, hb3⟩; rw [HF.out]))
              go_roundw
              case rel =>
                refine ⟨k + 1, by omega, by go_num, by rw [HN.out]; congr 1 <;> omega, by have := HN.out; omega, fun j h hj => ?_, B4.mono hb3, bt (bt (bt hb hbA) hb2) hb3⟩
                by_cases e : j = k
                · subst e; simp [blockS, HE.out, HF.out]
                · exact HA.out j h (by omega)
              case measure => simp [intOf]; omega
      · go_wp2_with fail
        go_ret
        refine ⟨ret_int ?_, hb⟩
        have ek : k = p.blk.length := by omega
        subst ek
        rw [List.take_length] at hsum
        have : p.blk.all (blockS p) = true := by
          rw [List.all_eq_true]
          intro x hx
          obtain ⟨i, hi, rfl⟩ := List.getElem_of_mem hx
          exact HA.out i hi hi
        simp only [checkN, checkS, HH.out, this, decide_eq_true hsum, Bool.and_true]
        rfl

end Go.Proofs.YtoabiignjkcdmaaGreat
