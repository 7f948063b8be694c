/-
  Lemmas (texts IrW6 RunJ), each proved without a condition beyond its own hypotheses.
-/
import Derived.Test.YtoabiignjkcdmaaGreatFd2
import Derived.Test.YtoabiignjkcdmaaGreatFd18
import Derived.Test.YtoabiignjkcdmaaGreatFd22
import Derived.Test.YtoabiignjkcdmaaGreatFd20
namespace Go.Proofs.YtoabiignjkcdmaaGreat
open Go.RowKit
set_option linter.unusedVariables false
set_option linter.unusedSimpArgs false

theorem sumOps_snoc (l : List SBlock) (b : SBlock) : sumOps (l ++ [b]) = sumOps l + b.ops.length := by simp [sumOps]
theorem sumOps_take (l : List SBlock) (k : Nat) : sumOps (l.take k) ≤ sumOps l := by
  have e : sumOps l = sumOps (l.take k) + sumOps (l.drop k) := by
    conv => lhs; rw [← List.take_append_drop k l]
    simp only [sumOps, List.map_append, List.sum_append]
  omega

set_option maxRecDepth 100000 in
set_option maxHeartbeats 2000000 in
theorem check_c (p : SIr) (S P B : Option Addr) (c1 c2 c3 : Nat) (w : World) (hs : kBool.Row w S p.sec) (hp : kHanded.Row w P p.par) (hb0 : kBlock.Row w B p.blk) (hm : p.par.length ≤ 1000) (hops : ∀ b ∈ p.blk, b.ops.length ≤ 1000000000000000) :
    Calls Tryz.prog 11 #[.agg #[.slice S p.sec.length c1, .slice P p.par.length c2, .slice B p.blk.length c3]] w
      fun e w' => e = .returned (.int .i64 (checkN p)) ∧ Below w.heap.size w w' := by
  have hbW : Below w.heap.size w (w.alloc (.cells #[.slice S p.sec.length c1, .slice P p.par.length c2, .slice B p.blk.length c3] 26)) := (Below.refl _ _).alloc (Nat.le_refl _) _
  go_enter Tryz.func11, Tryz.ntmps11
  by_cases h1 : (4096 : Int) < (p.sec.length : Int)
  case pos =>
    go_wp2_with fail
    go_ret
    refine ⟨ret_int ?_, hbW⟩
    simp only [checkN, checkS, headS, decide_eq_false (show ¬ p.sec.length ≤ 4096 by omega), Bool.false_and, Bool.and_false]
    rfl
  by_cases h2 : (p.blk.length : Int) < 1
  case pos =>
    go_wp2_with fail
    go_ret
    refine ⟨ret_int ?_, hbW⟩
    simp only [checkN, checkS, headS, decide_eq_false (show ¬ 1 ≤ p.blk.length by omega), Bool.false_and, Bool.and_false]
    rfl
  by_cases h3 : (4096 : Int) < (p.blk.length : Int)
  case pos =>
    go_wp2_with fail
    go_ret
    refine ⟨ret_int ?_, hbW⟩
    simp only [checkN, checkS, headS, decide_eq_false (show ¬ p.blk.length ≤ 4096 by omega), Bool.false_and, Bool.and_false]
    rfl
  cases hpar : paramsS p with
  | false =>
    have HP := Lib.hid hpar
    clear hpar
    go_wp2_with (go_at_call 21; go_must (refine (params_c p S P B c1 c2 c3 _ (hs.mono hbW) (hp.mono hbW) hm).mono ?_); rintro e w1 ⟨rfl, hb1⟩; rw [show (p.par.all (handS p) && decide (p.par.length ≤ 8) && decide (metS p.par).Nodup) = false from HP.out])
    go_ret
    refine ⟨ret_int ?_, bt hbW hb1⟩
    simp only [checkN, checkS, headS, HP.out, Bool.false_and, Bool.and_false]
    rfl
  | true =>
    have HP := Lib.hid hpar
    clear hpar
    have hhead : headS p = true := by simp only [headS, HP.out, decide_eq_true (show p.sec.length ≤ 4096 by omega), decide_eq_true (show 1 ≤ p.blk.length by omega), decide_eq_true (show p.blk.length ≤ 4096 by omega), Bool.and_true]
    have HH := Lib.hid hhead
    clear hhead
    go_wp2_with (go_at_call 21; go_must (refine (params_c p S P B c1 c2 c3 _ (hs.mono hbW) (hp.mono hbW) hm).mono ?_); rintro e w1 ⟨rfl, hb1⟩; rw [show (p.par.all (handS p) && decide (p.par.length ≤ 8) && decide (metS p.par).Nodup) = true from HP.out]; have B1 := (Bk.new w #[.slice S p.sec.length c1, .slice P p.par.length c2, .slice B p.blk.length c3] 26).mono hb1; have C1 := B1.cell)
    have hbw1 : Below w.heap.size w w1 := bt hbW hb1
    go_loopw [3, 30] (fun v s wr => ∃ k : Nat, k ≤ p.blk.length ∧ s = .int .i64 k ∧ v = .int .i64 (sumOps (p.blk.take k)) ∧ sumOps (p.blk.take k) ≤ 32768 ∧ (∀ j (h : j < p.blk.length), j < k → blockS p p.blk[j] = true) ∧
        Bk wr w.heap.size #[.slice S p.sec.length c1, .slice P p.par.length c2, .slice B p.blk.length c3] 26 ∧ Below w.heap.size w wr) (fun _ s _ => p.blk.length - (intOf s).toNat)
    case atStart => exact ⟨0, Nat.zero_le _, rfl, rfl, Nat.zero_le _, fun j _ h => absurd h (by omega), B1, hbw1⟩
    case round =>
      obtain ⟨k, hk, rfl, rfl, hsum, hall, hB, hb⟩ := hrel
      have HA := Lib.hid hall; clear hall
      by_cases hlt : k < p.blk.length
      · obtain ⟨bb, bo, O, oc, rfl, g0, g1, g2, g3, g4, gm, hO⟩ := kBlock_at (hb0.mono hb) k hlt
        have C := hB.cell
        have hol := hops _ (List.getElem_mem hlt)
        have hsn : sumOps (p.blk.take (k + 1)) = sumOps (p.blk.take k) + p.blk[k].ops.length := by rw [List.take_succ_eq_append_getElem hlt, sumOps_snoc]
        have hst := sumOps_take p.blk (k + 1)
        have HN := Lib.hid hsn
        have HT := Lib.hid hst
        clear hsn hst
        have HE : ∃ E, endS p p.blk[k] = E := ⟨_, rfl⟩
        obtain ⟨E, hE⟩ := HE
        have HQ : ∃ F, p.blk[k].ops.all (opS p) = F := ⟨_, rfl⟩
        obtain ⟨F, hF⟩ := HQ
        have HE := Lib.hid hE
        have HF := Lib.hid hF
        clear hE hF
        have B2 : Bk (wr.alloc (.cells #[.slice O p.blk[k].ops.length oc, .int .u8 p.blk[k].e, .int .i64 p.blk[k].a, .int .i64 p.blk[k].go, .int .i64 p.blk[k].els] 38)) wr.heap.size #[.slice O p.blk[k].ops.length oc, .int .u8 p.blk[k].e, .int .i64 p.blk[k].a, .int .i64 p.blk[k].go, .int .i64 p.blk[k].els] 38 := Bk.new ..
        have B3 := hB.alloc (.cells #[.slice O p.blk[k].ops.length oc, .int .u8 p.blk[k].e, .int .i64 p.blk[k].a, .int .i64 p.blk[k].go, .int .i64 p.blk[k].els] 38)
        have hbA : Below wr.heap.size wr (wr.alloc (.cells #[.slice O p.blk[k].ops.length oc, .int .u8 p.blk[k].e, .int .i64 p.blk[k].a, .int .i64 p.blk[k].go, .int .i64 p.blk[k].els] 38)) := (Below.refl _ _).alloc (Nat.le_refl _) _
        have C2 := B2.cell
        have C3 := B3.cell
        by_cases hbig : (32768 : Int) < (sumOps (p.blk.take k) : Int) + (p.blk[k].ops.length : Int)
        · go_wp2_with fail
          go_ret
          refine ⟨ret_int ?_, bt hb hbA⟩
          have e1 := HN.out
          have e2 := HT.out
          have : ¬ sumOps p.blk ≤ 32768 := by omega
          simp only [checkN, checkS, decide_eq_false this, Bool.false_and, Bool.and_false]
          rfl
        · cases E with
          | false =>
            go_wp2_with (go_at_call 22; go_must (refine (end_c p p.blk[k] S P _ O c1 c2 c3 _ oc _ ((hs.mono hb).mono hbA)).mono ?_); rintro e w2 ⟨rfl, hb2⟩; rw [HE.out])
            go_ret
            refine ⟨ret_int ?_, bt (bt hb hbA) hb2⟩
            have : p.blk.all (blockS p) = false := by rw [List.all_eq_false]; exact ⟨p.blk[k], List.getElem_mem hlt, by simp [blockS, HE.out]⟩
            simp only [checkN, checkS, this, Bool.and_false]
            rfl
          | true =>
            cases F with
            | false =>
              go_wp2_with (first
                | (go_at_call 22; go_must (refine (end_c p p.blk[k] S P _ O c1 c2 c3 _ oc _ ((hs.mono hb).mono hbA)).mono ?_); rintro e w2 ⟨rfl, hb2⟩; rw [HE.out]; have B4 := B3.mono hb2; have B5 := B2.mono hb2; have C4 := B4.cell; have C5 := B5.cell)
                | (go_at_call 23; go_must (refine (containsOp_c p p.blk[k].ops _ w.heap.size B4 (((hs.mono hb).mono hbA).mono hb2) ((hO.mono hbA).mono hb2) gm).mono ?_); rintro e w3 ⟨rfl, hb3⟩; rw [HF.out]))
              go_ret
              refine ⟨ret_int ?_, bt (bt (bt hb hbA) hb2) hb3⟩
              have : p.blk.all (blockS p) = false := by rw [List.all_eq_false]; exact ⟨p.blk[k], List.getElem_mem hlt, by simp [blockS, HE.out, HF.out]⟩
              simp only [checkN, checkS, this, Bool.and_false]
              rfl
            | true =>
              go_wp2_with (first
                | (go_at_call 22; go_must (refine (end_c p p.blk[k] S P _ O c1 c2 c3 _ oc _ ((hs.mono hb).mono hbA)).mono ?_); rintro e w2 ⟨rfl, hb2⟩; rw [HE.out]; have B4 := B3.mono hb2; have B5 := B2.mono hb2; have C4 := B4.cell; have C5 := B5.cell)
                | (go_at_call 23; go_must (refine (containsOp_c p p.blk[k].ops _ w.heap.size B4 (((hs.mono hb).mono hbA).mono hb2) ((hO.mono hbA).mono hb2) gm).mono ?_); rintro e w3 ⟨rfl, hb3⟩; rw [HF.out]))
              go_roundw
              case rel =>
                refine ⟨k + 1, by omega, by go_num, by rw [HN.out]; congr 1 <;> omega, by have := HN.out; omega, fun j h hj => ?_, B4.mono hb3, bt (bt (bt hb hbA) hb2) hb3⟩
                by_cases e : j = k
                · subst e; simp [blockS, HE.out, HF.out]
                · exact HA.out j h (by omega)
              case measure => simp [intOf]; omega
      · go_wp2_with fail
        go_ret
        refine ⟨ret_int ?_, hb⟩
        have ek : k = p.blk.length := by omega
        subst ek
        rw [List.take_length] at hsum
        have : p.blk.all (blockS p) = true := by
          rw [List.all_eq_true]
          intro x hx
          obtain ⟨i, hi, rfl⟩ := List.getElem_of_mem hx
          exact HA.out i hi hi
        simp only [checkN, checkS, HH.out, this, decide_eq_true hsum, Bool.and_true]
        rfl

end Go.Proofs.YtoabiignjkcdmaaGreat

namespace Go.Proofs.YtoabiignjkcdmaaGreat
open Go.RowKit Go.Proofs.YtoabiignjkcdmaaGreatW.PrintLast
set_option linter.unusedVariables false
set_option linter.unusedSimpArgs false

/-- What comes of a run, as a value. -/
def OutAt (o : SOut) (w : World) (v : Value) : Prop := ∃ BS bc TS tc, v = .agg #[.int .u8 o.en, .int .i64 o.trap, .int .u64 o.ret, .slice BS o.bufs.length bc, .slice TS o.told.length tc, .int .i64 o.steps] ∧ kStr.Row w BS o.bufs ∧ kU64.Row w TS o.told ∧ o.bufs.length ≤ 9223372036854775807 ∧ o.told.length ≤ 9223372036854775807
theorem OutAt.mono {o : SOut} {w w' : World} {v : Value} (h : OutAt o w v) (hb : Below w.heap.size w w') : OutAt o w' v := by
  obtain ⟨BS, bc, TS, tc, e, h1, h2, h3⟩ := h
  exact ⟨BS, bc, TS, tc, e, h1.mono hb, h2.mono hb, h3⟩
def RunPost (w : World) (r : SOut × Int) (e : Ending) (w' : World) : Prop := ∃ v, e = .returned (.tuple #[v, .int .i64 r.2]) ∧ OutAt r.1 w' v ∧ Below w.heap.size w w'
/-- What a program and an input that came in keep to. -/
structure RunOk (p : SIr) (inp : SIn) : Prop where
  par : p.par.length ≤ 1000
  ops : ∀ b ∈ p.blk, b.ops.length ≤ 1000000000000000
  opw : ∀ b ∈ p.blk, ∀ o ∈ b.ops, (0 ≤ o.imm ∧ o.imm < 18446744073709551616) ∧ 0 ≤ o.fn ∧ o.fn < 256
  nl : inp.nums.length ≤ 9223372036854775807
  bl : inp.bufs.length ≤ 9223372036854775807
  bz : ∀ b ∈ inp.bufs, b.size ≤ 9223372036854775807
  nr : ∀ x ∈ inp.nums, 0 ≤ x ∧ x < 18446744073709551616
theorem met_apart : ∀ {l : List SHanded} (h : (metS l).Nodup) {x : SHanded} (hx : x ∈ l), x.buf = true → x.len ≠ x.d
  | y :: l, h, x, hx, hb => by
    have e : metS (y :: l) = (if y.buf then [y.d, y.len] else [y.d]) ++ metS l := rfl
    rw [e] at h
    have h2 := List.nodup_append.1 h
    rcases List.mem_cons.1 hx with rfl | hx
    · have h3 := h2.1
      rw [hb] at h3
      simp at h3
      exact fun e => h3 e.symm
    · exact met_apart h2.2.1 hx hb
theorem parOk_of {p : SIr} (hc : checkS p = true) : ∀ h ∈ p.par, ParOk p.sec.length h := by
  unfold checkS headS paramsS at hc
  simp only [Bool.and_eq_true, List.all_eq_true, decide_eq_true_eq] at hc
  intro h hh
  have h1 := hc.1.1.2.1.1 h hh
  have h2 := hc.1.1.2.2
  unfold handS at h1
  simp only [Bool.and_eq_true] at h1
  refine ⟨varB_in h1.1.1.1.1, fun hb => ?_⟩
  have h3 := h1.1.1.1.2
  rw [hb] at h3
  have h4 := varB_in h3
  exact ⟨h4.1, h4.2, met_apart h2 hh hb⟩
theorem endOk_of {p : SIr} {b : SBlock} (h : endS p b = true) : EndOk p.blk.length p.sec.length b := by
  unfold endS at h
  by_cases e1 : b.e = 1
  · rw [if_pos e1] at h
    simp only [Bool.and_eq_true, blkB, decide_eq_true_eq] at h
    exact ⟨.inl e1, fun _ => ⟨h.1.2.1, h.1.2.2⟩, fun e => by omega, fun e => by omega, fun e => by omega⟩
  rw [if_neg e1] at h
  by_cases e2 : b.e = 2
  · rw [if_pos e2] at h
    simp only [Bool.and_eq_true, blkB, decide_eq_true_eq] at h
    exact ⟨.inr (.inl e2), fun _ => ⟨h.1.2.1, h.1.2.2⟩, fun _ => ⟨h.2.1, h.2.2⟩, fun _ => varB_in h.1.1.1, fun e => by omega⟩
  rw [if_neg e2] at h
  by_cases e3 : b.e = 3
  · rw [if_pos e3] at h
    simp only [Bool.and_eq_true, Bool.or_eq_true, beq_iff_eq] at h
    refine ⟨.inr (.inr (.inl e3)), fun e => by omega, fun e => by omega, fun e => by omega, fun _ => ?_⟩
    rcases h.1.1 with h1 | h1
    · exact .inl h1
    · exact .inr (varB_in h1)
  rw [if_neg e3] at h
  by_cases e4 : b.e = 4
  · exact ⟨.inr (.inr (.inr e4)), fun e => by omega, fun e => by omega, fun e => by omega, fun e => by omega⟩
  rw [if_neg e4] at h
  cases h
theorem opsOk_of {p : SIr} {inp : SIn} (hc : checkS p = true) (hok : RunOk p inp) : (∀ b ∈ p.blk, ∀ o ∈ b.ops, OpOk p.sec.length o) ∧ (∀ b ∈ p.blk, EndOk p.blk.length p.sec.length b) ∧ 0 < p.blk.length ∧ p.par.length ≤ 8 ∧ p.sec.length ≤ 4096 := by
  unfold checkS headS paramsS at hc
  simp only [Bool.and_eq_true, List.all_eq_true, decide_eq_true_eq] at hc
  have hb : ∀ b ∈ p.blk, endS p b = true ∧ ∀ o ∈ b.ops, opS p o = true := by
    intro b hb
    have := hc.2 b hb
    unfold blockS at this
    simp only [Bool.and_eq_true, List.all_eq_true] at this
    exact this
  exact ⟨fun b h o ho => opOk_of ((hb b h).2 o ho) (hok.opw b h o ho).1 (hok.opw b h o ho).2, fun b h => endOk_of (hb b h).1, by have := hc.1.1.1.1.2; omega, hc.1.1.2.1.2, hc.1.1.1.1.1⟩
theorem run_end {tm : Array Value} {q : Nat} {x : Int} {cs : Array Value} {w : World} {R : Ending → World → Prop} (h8 : tm.getD 8 undef = .pointer (some ⟨q, 0, none⟩)) (h9 : tm.getD 9 undef = .int .i64 x) (hb : Bk w q cs 48) (hs : cs.size = 6)
    (hR : R (.returned (.tuple #[.agg cs, .int .i64 x])) w) : bodyPost Tryz.prog Tryz.f19 R Exit.ret { tmps := tm, defers := [] } w := by
  refine bodyPost_ret (v := .tuple #[.agg cs, .int .i64 x]) ?_ rfl hR
  have hp' : tm[8]?.getD undef = .pointer (some ⟨q, 0, none⟩) := by simpa using h8
  have hq' : tm[9]?.getD undef = .int .i64 x := by simpa using h9
  have hi : (Tryz.prog.info? 48).map (·.size) = some cs.size := by rw [hs]; kernel_rfl
  simp [results, Tryz.results19, hp', hq', asAddr, run_loadVar_row w q 48 48 cs (0, 0) _ hb Tryz.underlying48 rfl hi]
theorem store6 {w : World} {q : Nat} {z : Array Value} {t : TypeId} (h : Bk w q z t) (hz : z.size = 6) (a b c d e f : Value) : Bk ((((((w.setCell ⟨q, 0, none⟩ a).setCell ⟨q, 1, none⟩ b).setCell ⟨q, 2, none⟩ c).setCell ⟨q, 3, none⟩ d).setCell ⟨q, 4, none⟩ e).setCell ⟨q, 5, none⟩ f) q #[a, b, c, d, e, f] t := by
  have h4 := (((((h.set 0 a).set 1 b).set 2 c).set 3 d).set 4 e).set 5 f
  have e' : ((((((z.setIfInBounds 0 a).setIfInBounds 1 b).setIfInBounds 2 c).setIfInBounds 3 d).setIfInBounds 4 e).setIfInBounds 5 f) = #[a, b, c, d, e, f] := by
    apply Array.ext_getElem?
    intro i
    have hi : i = 0 ∨ i = 1 ∨ i = 2 ∨ i = 3 ∨ i = 4 ∨ i = 5 ∨ 6 ≤ i := by omega
    rcases hi with rfl | rfl | rfl | rfl | rfl | rfl | hi
    · simp [Array.getElem?_setIfInBounds, hz]
    · simp [Array.getElem?_setIfInBounds, hz]
    · simp [Array.getElem?_setIfInBounds, hz]
    · simp [Array.getElem?_setIfInBounds, hz]
    · simp [Array.getElem?_setIfInBounds, hz]
    · simp [Array.getElem?_setIfInBounds, hz]
    · rw [Array.getElem?_eq_none (by simp [hz]; omega), Array.getElem?_eq_none (by simp; omega)]
  rw [e'] at h4
  exact h4
theorem below6 {B : Nat} {w w' : World} (h : Below B w w') {q : Nat} (hq : B ≤ q) (a b c d e f : Value) : Below B w ((((((w'.setCell ⟨q, 0, none⟩ a).setCell ⟨q, 1, none⟩ b).setCell ⟨q, 2, none⟩ c).setCell ⟨q, 3, none⟩ d).setCell ⟨q, 4, none⟩ e).setCell ⟨q, 5, none⟩ f) :=
  (((((h.setCell (p := ⟨q, 0, none⟩) hq a).setCell (p := ⟨q, 1, none⟩) hq b).setCell (p := ⟨q, 2, none⟩) hq c).setCell (p := ⟨q, 3, none⟩) hq d).setCell (p := ⟨q, 4, none⟩) hq e).setCell (p := ⟨q, 5, none⟩) hq f
abbrev zeroOut : Array Value := #[.int .u8 0, .int .i64 0, .int .u64 0, .slice none 0 0, .slice none 0 0, .int .i64 0]
theorem outZ_at (w : World) : OutAt outZ w (.agg zeroOut) := ⟨none, 0, none, 0, rfl, .inl rfl, .inl rfl, by decide, by decide⟩
set_option maxRecDepth 100000 in
set_option maxHeartbeats 8000000 in
theorem run_no (p : SIr) (inp : SIn) (arena fuel : Int) (w : World) (S P B NA BA : Option Addr) (c1 c2 c3 nc bc : Nat) (hS : kBool.Row w S p.sec) (hP : kHanded.Row w P p.par) (hB : kBlock.Row w B p.blk) (hNA : kU64.Row w NA inp.nums) (hBA : kStr.Row w BA inp.bufs) (hok : RunOk p inp)
    (hno : mayRun p inp arena fuel = false) :
    Calls Tryz.prog 19 #[.agg #[.slice S p.sec.length c1, .slice P p.par.length c2, .slice B p.blk.length c3], .agg #[.slice NA inp.nums.length nc, .slice BA inp.bufs.length bc], .int .i64 arena, .int .i64 fuel] w (RunPost w (outZ, 2)) := by
  obtain ⟨w1, hw1⟩ : ∃ w1, w1 = ((w.alloc (.cells #[.slice S p.sec.length c1, .slice P p.par.length c2, .slice B p.blk.length c3] 26)).alloc (.cells #[.slice NA inp.nums.length nc, .slice BA inp.bufs.length bc] 43)).alloc (.cells zeroOut 48) := ⟨_, rfl⟩
  have hb1 : Below w.heap.size w w1 := by rw [hw1]; exact (((Below.refl w.heap.size w).alloc (Nat.le_refl _) _).alloc (by simp) _).alloc (by simp; omega) _
  have BP : Bk w1 w.heap.size #[.slice S p.sec.length c1, .slice P p.par.length c2, .slice B p.blk.length c3] 26 := by rw [hw1]; exact ((Bk.new w _ _).alloc _).alloc _
  have BI : Bk w1 (w.heap.size + 1) #[.slice NA inp.nums.length nc, .slice BA inp.bufs.length bc] 43 := by rw [hw1]; exact (Bk.newAt _ _ (by simp)).alloc _
  have BO : Bk w1 (w.heap.size + 2) zeroOut 48 := by rw [hw1]; exact Bk.newAt _ _ (by simp)
  have HNO := Lib.hid hno
  clear hno
  go_enter Tryz.func19, Tryz.ntmps19
  go_upto_region 1 with (fail)
  rw [← hw1]
  clear hw1
  have CP := BP.cell
  have CI := BI.cell
  have hpar := hok.par
  have HCK := Lib.hid (check_c p S P B c1 c2 c3 w1 (hS.mono hb1) (hP.mono hb1) (hB.mono hb1) hok.par hok.ops)
  cases hck : checkS p with
  | false =>
    have hcn : checkN p = 2 := by unfold checkN; rw [hck]; rfl
    rw [hcn] at HCK
    clear hcn hck
    go_wp2_with (go_at_call 11; refine HCK.out.mono ?_; rintro e w2 ⟨rfl, hb2⟩; have BO2 := BO.mono hb2; have BP2 := BP.mono hb2; have BI2 := BI.mono hb2; have hbw2 := bt hb1 hb2; clear HCK BO CP CI; have CO2 := BO2.cell; have FO2 := BO2.free; have CP2 := BP2.cell; have CI2 := BI2.cell)
    exact run_end rfl rfl (store6 BO2 rfl _ _ _ _ _ _) rfl ⟨_, rfl, outZ_at _, below6 hbw2 (by omega) _ _ _ _ _ _⟩
  | true =>
    have hcn : checkN p = 0 := by unfold checkN; rw [hck]; rfl
    rw [hcn] at HCK
    have HCKB := Lib.hid hck
    clear hcn hck
    cases hft : fitsS p inp with
    | false =>
      have HFT : Hid (∀ w2, Below w.heap.size w w2 → Calls Tryz.prog 39 #[.agg #[.slice S p.sec.length c1, .slice P p.par.length c2, .slice B p.blk.length c3], .agg #[.slice NA inp.nums.length nc, .slice BA inp.bufs.length bc]] w2 fun e w' => e = .returned (.bool false) ∧ Below w2.heap.size w2 w') := Lib.hid (fun w2 h2 => fits_c p inp w2 S P B NA BA c1 c2 c3 nc bc (hP.mono h2) (hBA.mono h2) (by omega) hok.nl hok.bl hok.bz false hft)
      clear hft
      go_wp2_with (first | (go_at_call 11; refine HCK.out.mono ?_; rintro e w2 ⟨rfl, hb2⟩; have BO2 := BO.mono hb2; have BP2 := BP.mono hb2; have BI2 := BI.mono hb2; have hbw2 := bt hb1 hb2; clear HCK BO CP CI; have CO2 := BO2.cell; have FO2 := BO2.free; have CP2 := BP2.cell; have CI2 := BI2.cell) | (go_at_call 39; refine (HFT.out _ hbw2).mono ?_; rintro e w3 ⟨rfl, hb3⟩; have BO3 := BO2.mono hb3; have hbw3 := bt hbw2 hb3; clear BO2 CO2 FO2 CP2 CI2; have CO2 := BO3.cell; have FO2 := BO3.free))
      exact run_end rfl rfl (store6 BO3 rfl _ _ _ _ _ _) rfl ⟨_, rfl, outZ_at _, below6 hbw3 (by omega) _ _ _ _ _ _⟩
    | true =>
      have HFT : Hid (∀ w2, Below w.heap.size w w2 → Calls Tryz.prog 39 #[.agg #[.slice S p.sec.length c1, .slice P p.par.length c2, .slice B p.blk.length c3], .agg #[.slice NA inp.nums.length nc, .slice BA inp.bufs.length bc]] w2 fun e w' => e = .returned (.bool true) ∧ Below w2.heap.size w2 w') := Lib.hid (fun w2 h2 => fits_c p inp w2 S P B NA BA c1 c2 c3 nc bc (hP.mono h2) (hBA.mono h2) (by omega) hok.nl hok.bl hok.bz true hft)
      have hor : arena < 0 ∨ 0 ≤ arena ∧ (65536 < arena ∨ arena ≤ 65536 ∧ (fuel < 0 ∨ 0 ≤ fuel ∧ 4194304 < fuel)) := by
        have := HNO.out
        unfold mayRun at this
        rw [HCKB.out, hft] at this
        simp at this
        omega
      clear hft
      rcases hor with h1 | ⟨h1, h2 | ⟨h2, h3 | ⟨h3, h4⟩⟩⟩
      all_goals
        go_wp2_with (first | (go_at_call 11; refine HCK.out.mono ?_; rintro e w2 ⟨rfl, hb2⟩; have BO2 := BO.mono hb2; have BP2 := BP.mono hb2; have BI2 := BI.mono hb2; have hbw2 := bt hb1 hb2; clear HCK BO CP CI; have CO2 := BO2.cell; have FO2 := BO2.free; have CP2 := BP2.cell; have CI2 := BI2.cell) | (go_at_call 39; refine (HFT.out _ hbw2).mono ?_; rintro e w3 ⟨rfl, hb3⟩; have BO3 := BO2.mono hb3; have hbw3 := bt hbw2 hb3; clear BO2 CO2 FO2 CP2 CI2; have CO2 := BO3.cell; have FO2 := BO3.free))
        exact run_end rfl rfl (store6 BO3 rfl _ _ _ _ _ _) rfl ⟨_, rfl, outZ_at _, below6 hbw3 (by omega) _ _ _ _ _ _⟩
abbrev mCb (m : SM) (vv hv av lv tv bv : Value) : Array Value :=
  #[vv, hv, av, lv, .int .i64 m.taken, .int .i64 m.size, .int .i64 m.fuel, .int .u8 m.en, .int .i64 m.trap, .int .u64 m.ret, bv, tv, .int .i64 m.steps]
theorem own_le' {w : World} {B n s : Nat} {e : TypeId} {v : Value} {xs : List Value} (h : w.ownsRow B e s v n xs) : n ≤ 9223372036854775807 := by
  rcases h.2 with ⟨_, rfl⟩ | ⟨g, cap, cur, _, _, _, h1, h2, _⟩
  · exact Nat.zero_le _
  · unfold maxLen at h2
    omega
theorem infoStr : (Tryz.prog.info? 9).map (fun i => (i.zero, i.size, i.bytes)) = some (some (.string ⟨#[]⟩), 1, 16) := by kernel_rfl
theorem grown6 (w : World) (q : Nat) (a b c d e f : Value) : w.grownBy ((((((w.setCell ⟨q, 0, none⟩ a).setCell ⟨q, 1, none⟩ b).setCell ⟨q, 2, none⟩ c).setCell ⟨q, 3, none⟩ d).setCell ⟨q, 4, none⟩ e).setCell ⟨q, 5, none⟩ f) (some q) :=
  grown_trans (grown_trans (grown_trans (grown_trans (grown_trans (set_grown w q 0 a) (set_grown _ q 1 b)) (set_grown _ q 2 c)) (set_grown _ q 3 d)) (set_grown _ q 4 e)) (set_grown _ q 5 f)
theorem rowStr_of {w : World} {B c : Nat} {A : Option Addr} {l : List ByteArray} (h : w.ownsRow B 9 1 (.slice A l.length c) l.length (l.map Value.string)) : kStr.Row w A l := by
  by_cases h0 : l = []
  · exact .inl h0
  obtain ⟨g, c', e, _, _⟩ := h.form (List.length_pos_iff.2 h0)
  injection e with e1 _ e3
  subst e1 e3
  refine .inr ⟨g, 0, rfl, fun i hi => ⟨[.string l[i]], rfl, fun j hj => ?_⟩⟩
  have hj0 : j = 0 := by simpa using hj
  subst hj0
  have := World.ownsRow.cellAt h i (by simpa using hi)
  simp only [kStr, Kd.flat, Nat.zero_add, Nat.mul_one, Nat.add_zero]
  rw [this]
  simp [hi]
theorem rowU64_of {w : World} {B c : Nat} {A : Option Addr} {l : List Int} (h : w.ownsRow B 46 1 (.slice A l.length c) l.length (l.map (Value.int .u64))) : kU64.Row w A l := by
  by_cases h0 : l = []
  · exact .inl h0
  obtain ⟨g, c', e, _, _⟩ := h.form (List.length_pos_iff.2 h0)
  injection e with e1 _ e3
  subst e1 e3
  refine .inr ⟨g, 0, rfl, fun i hi => ⟨[.int .u64 l[i]], rfl, fun j hj => ?_⟩⟩
  have hj0 : j = 0 := by simpa using hj
  subst hj0
  have := World.ownsRow.cellAt h i (by simpa using hi)
  simp only [kU64, Kd.flat, Nat.zero_add, Nat.mul_one, Nat.add_zero]
  rw [this]
  simp [hi]
theorem mZ_hr {w4 : World} {p : SIr} {arena fuel : Int} {base g mb : Nat} (hg : w4.heap[g]? = some (.cells (madeCells #[.int .u64 0] p.sec.length) 46 (0, 0))) (hbg : base ≤ g) (hsl : p.sec.length ≤ 4096) (hm : Bk w4 mb (mC (mZ p arena fuel) (.slice (some ⟨g, 0, none⟩) p.sec.length p.sec.length) nilS nilS nilS nilS) 81) (hmb : base ≤ mb)
    (a0 : 0 ≤ arena) (a1 : arena ≤ 65536) (f0 : 0 ≤ fuel) (f1 : fuel ≤ 4194304) : HR w4 base mb p.sec.length (mZ p arena fuel) := by
  have hgl : g < w4.heap.size := (Array.getElem?_eq_some_iff.1 hg).1
  have hrow : w4.ownsRow base 46 1 (.slice (some ⟨g, 0, none⟩) p.sec.length p.sec.length) (List.replicate p.sec.length (0 : Int)).length ((List.replicate p.sec.length (0 : Int)).map (Value.int .u64)) := by
    rw [List.length_replicate]
    refine ⟨by simp, .inr ⟨g, p.sec.length, _, rfl, hbg, hg, Nat.le_refl _, by unfold maxLen; omega, by rw [size_madeCells, Nat.mul_one], ?_⟩⟩
    rw [Nat.mul_one, List.take_of_length_le (by rw [Array.length_toList, size_madeCells]; first | omega | simp)]
    apply List.ext_getElem?
    intro i
    rw [Array.getElem?_toList]
    by_cases h : i < p.sec.length
    · simp [madeCells, h, Nat.mod_one]
    · rw [Array.getElem?_eq_none (by rw [size_madeCells]; omega), List.getElem?_eq_none (by simp; omega)]
  refine ⟨⟨_, _, [], ?_, hm⟩, hmb, ?_, rfl, rfl, rfl⟩
  · exact {
      le := by omega
      sz := Nat.le_refl _
      v := hrow
      vB := fun k e => by
        simp only [Value.ownBlock, Option.some.injEq] at e
        omega
      h := ⟨rfl, .inl ⟨rfl, rfl⟩⟩
      hB := fun k e => by cases e
      a := ⟨rfl, .inl ⟨rfl, rfl⟩⟩
      l := ⟨rfl, .inl ⟨rfl, rfl⟩⟩
      t := ⟨rfl, .inl ⟨rfl, rfl⟩⟩
      hl := rfl
      al := rfl
      hb := fun i a b => by simp at b
      ab := fun i a b => by simp at b
      hp := List.Pairwise.nil
      ap := List.Pairwise.nil }
  · exact {
      vl := by simp [mZ]
      vr := fun x hx => by
        have := List.eq_of_mem_replicate hx
        omega
      tk := ⟨Int.le_refl _, a0, a1⟩
      st := ⟨Int.le_refl _, f0, f1⟩
      ob := fun x hx => by simp [mZ] at hx
      al := rfl
      lf := fun x hx => by simp [mZ] at hx
      am := Int.le_refl _
      tm := Int.le_refl _ }
set_option maxRecDepth 100000 in
set_option maxHeartbeats 8000000 in
theorem run_yes (p : SIr) (inp : SIn) (arena fuel : Int) (w : World) (S P B NA BA : Option Addr) (c1 c2 c3 nc bc : Nat) (hS : kBool.Row w S p.sec) (hP : kHanded.Row w P p.par) (hB : kBlock.Row w B p.blk) (hNA : kU64.Row w NA inp.nums) (hBA : kStr.Row w BA inp.bufs) (hok : RunOk p inp)
    (hnc : inp.nums.length ≤ nc ∧ nc ≤ 9223372036854775807) (hyes : mayRun p inp arena fuel = true) :
    Calls Tryz.prog 19 #[.agg #[.slice S p.sec.length c1, .slice P p.par.length c2, .slice B p.blk.length c3], .agg #[.slice NA inp.nums.length nc, .slice BA inp.bufs.length bc], .int .i64 arena, .int .i64 fuel] w (RunPost w (runS p inp arena fuel)) := by
  obtain ⟨w1, hw1⟩ : ∃ w1, w1 = ((w.alloc (.cells #[.slice S p.sec.length c1, .slice P p.par.length c2, .slice B p.blk.length c3] 26)).alloc (.cells #[.slice NA inp.nums.length nc, .slice BA inp.bufs.length bc] 43)).alloc (.cells zeroOut 48) := ⟨_, rfl⟩
  have hb1 : Below w.heap.size w w1 := by rw [hw1]; exact (((Below.refl w.heap.size w).alloc (Nat.le_refl _) _).alloc (by simp) _).alloc (by simp; omega) _
  have BP : Bk w1 w.heap.size #[.slice S p.sec.length c1, .slice P p.par.length c2, .slice B p.blk.length c3] 26 := by rw [hw1]; exact ((Bk.new w _ _).alloc _).alloc _
  have BI : Bk w1 (w.heap.size + 1) #[.slice NA inp.nums.length nc, .slice BA inp.bufs.length bc] 43 := by rw [hw1]; exact (Bk.newAt _ _ (by simp)).alloc _
  have BO : Bk w1 (w.heap.size + 2) zeroOut 48 := by rw [hw1]; exact Bk.newAt _ _ (by simp)
  have hrun : runS p inp arena fuel = endS' (goesS p (fuel.toNat + 2) 0 (beginS p inp arena fuel)) := by unfold runS; rw [if_pos hyes]
  have HRUN := Lib.hid hrun
  have hy := hyes
  unfold mayRun at hy
  simp only [Bool.and_eq_true, decide_eq_true_eq] at hy
  obtain ⟨⟨⟨⟨⟨hck, hft⟩, ha0⟩, ha1⟩, hf0⟩, hf1⟩ := hy
  have hcn : checkN p = 0 := by unfold checkN; rw [hck]; rfl
  obtain ⟨hops, hends, hpb, hp8, hs4⟩ := opsOk_of hck hok
  have hpar := parOk_of hck
  have hfit := hft
  unfold fitsS at hfit
  simp only [Bool.and_eq_true, decide_eq_true_eq] at hfit
  have hpar1000 := hok.par
  have HCK := Lib.hid (check_c p S P B c1 c2 c3 w1 (hS.mono hb1) (hP.mono hb1) (hB.mono hb1) hok.par hok.ops)
  rw [hcn] at HCK
  have HFT : Hid (∀ w2, Below w.heap.size w w2 → Calls Tryz.prog 39 #[.agg #[.slice S p.sec.length c1, .slice P p.par.length c2, .slice B p.blk.length c3], .agg #[.slice NA inp.nums.length nc, .slice BA inp.bufs.length bc]] w2 fun e w' => e = .returned (.bool true) ∧ Below w2.heap.size w2 w') := Lib.hid (fun w2 h2 => fits_c p inp w2 S P B NA BA c1 c2 c3 nc bc (hP.mono h2) (hBA.mono h2) (by omega) hok.nl hok.bl hok.bz true hft)
  have HFIT := Lib.hid hfit
  clear hfit hft hck hcn hyes hrun
  go_enter Tryz.func19, Tryz.ntmps19
  go_upto_region 1 with (fail)
  rw [← hw1]
  clear hw1
  have CP := BP.cell
  have CI := BI.cell
  go_upto_region 3 with (first | (go_at_call 11; refine HCK.out.mono ?_; rintro e w2 ⟨rfl, hb2⟩; have BO2 := BO.mono hb2; have BP2 := BP.mono hb2; have BI2 := BI.mono hb2; have hbw2 := bt hb1 hb2; clear HCK BO BP BI CP CI hb1; have CO2 := BO2.cell; have FO2 := BO2.free; have CP2 := BP2.cell; have CI2 := BI2.cell) | (go_at_call 39; refine (HFT.out _ hbw2).mono ?_; rintro e w3 ⟨rfl, hb3⟩; have BO3 := BO2.mono hb3; have hbw3 := bt hbw2 hb3; clear BO2 CO2 FO2 CP2 CI2; have CO2 := BO3.cell; have FO2 := BO3.free))
  have hfb3 : Fr w.heap.size w w3 := (Fr.refl _ w).of hbw3 (Nat.le_refl _)
  have BP3 := BP2.mono hb3
  have BI3 := BI2.mono hb3
  clear hb2 hb3 hbw2 CO2 FO2 BP2 BI2 HFT
  have CP3 := BP3.cell
  have HMK := run_make_row' (P := Tryz.prog) 40 46 (.int .u64 0) 8 Tryz.underlying40 infoU64 rfl .i64 .i64 p.sec.length (by omega) (by omega)
  go_upto_region 4 with (fail)
  obtain ⟨W4, hW4⟩ : ∃ W4, W4 = (w3.alloc (.cells (madeCells #[.int .u64 0] p.sec.length) 46)).alloc (.cells #[.slice (some ⟨w3.heap.size, 0, none⟩) p.sec.length p.sec.length, .slice none 0 0, .slice none 0 0, .slice none 0 0, .int .i64 0, .int .i64 arena, .int .i64 fuel, .int .u8 0, .int .i64 0, .int .u64 0, .slice none 0 0, .slice none 0 0, .int .i64 0] 81) := ⟨_, rfl⟩
  rw [← hW4]
  have hb34 : Below w3.heap.size w3 W4 := by rw [hW4]; exact ((Below.refl w3.heap.size w3).alloc (Nat.le_refl _) _).alloc (by simp) _
  have hbw4 := bt hbw3 hb34
  have hfb4 : Fr w.heap.size w W4 := hfb3.of hb34 hbw3.size
  have hHR4 : HR W4 w.heap.size (w3.heap.size + 1) p.sec.length (mZ p arena fuel) := mZ_hr (g := w3.heap.size) (by rw [hW4]; exact (Below.heap_alloc _ _ _ (by simp)).trans (heap_alloc_new w3 _)) hbw3.size hs4 (by rw [hW4]; exact Bk.newAt _ _ (by simp)) (Nat.le_trans hbw3.size (Nat.le_succ _)) ha0 ha1 hf0 hf1
  have BP4 := BP3.mono hb34
  have BI4 := BI3.mono hb34
  have BO4 := BO3.mono hb34
  clear hW4 hb34 hfb3 BP3 BI3 BO3 CP3 HMK hbw3
  obtain ⟨mb, hmb⟩ : ∃ mb, mb = w3.heap.size + 1 := ⟨_, rfl⟩
  rw [← hmb] at hHR4 ⊢
  clear hmb
  have CP4 := BP4.cell
  have CI4 := BI4.cell
  have HHAND := Lib.hid (hand_c p inp (mZ p arena fuel) w W4 w.heap.size mb p.sec.length S P B NA BA c1 c2 c3 nc bc hP hNA hBA rfl hbw4 hHR4 rfl hpar hp8 HFIT.out.1.1 HFIT.out.1.2 (fun b hb => by have := List.all_eq_true.1 HFIT.out.2 b hb; simpa using this) hok.nr hnc)
  go_wp2_with (go_at_call 40; go_must (refine HHAND.out.mono ?_); rintro e w5 ⟨rfl, hfr5, hHR5⟩; have BP5 := BP4.fr hfr5 rfl; clear CP4 CI4 BP4; have CP5 := BP5.cell)
  have hMA5 := hHR5.ma
  have hlk := layIn_keeps p.par inp.nums inp.bufs (mZ p arena fuel)
  have HGOES := Lib.hid (goes_c p (fuel.toNat + 2) (beginS p inp arena fuel) w w5 w.heap.size w5.heap.size mb p.sec.length S P B c1 c2 c3 hB rfl (hfb4.trans hfr5).b hMA5 hpb hops hends (by
    have e1 : (beginS p inp arena fuel).fuel = fuel := hlk.1
    have e2 : (beginS p inp arena fuel).steps = 0 := hlk.2.1
    rw [e1, e2]
    omega))
  clear hlk hMA5 HHAND
  have hgs := goes_sec p (fuel.toNat + 2) 0 (beginS p inp arena fuel)
  have hls := layIn_told p.par inp.nums inp.bufs (mZ p arena fuel)
  have hh8 : (goesS p (fuel.toNat + 2) 0 (beginS p inp arena fuel)).2.handed.length ≤ 8 := by
    have e1 := congrArg List.length hgs
    have e2 := congrArg List.length hls
    unfold hsec at e1
    rw [List.length_map, List.length_map] at e1
    rw [List.length_map, List.length_append, List.length_map] at e2
    have e3 : (beginS p inp arena fuel).handed.length = (layIn p.par inp.nums inp.bufs (mZ p arena fuel)).handed.length := rfl
    have e4 : (mZ p arena fuel).handed.length = 0 := rfl
    have e5 : (bufsOf p.par).length ≤ p.par.length := List.length_filter_le _ _
    rw [List.length_map] at e2
    omega
  clear hgs hls
  generalize hr : goesS p (fuel.toNat + 2) 0 (beginS p inp arena fuel) = r at HGOES HRUN hh8
  clear hr
  obtain ⟨re, rm⟩ := r
  have hh8 : rm.handed.length ≤ 8 := hh8
  refine HGOES.out.mono ?_
  rintro e w6 ⟨hfr6, rfl, hMA6⟩
  have hfb6 := (hfb4.trans hfr5).trans hfr6
  have BO6 := (BO4.fr hfr5 rfl).fr hfr6 rfl
  clear HGOES hfb4 hfr5 hfr6 hHR5 hHR4 CP5 BP5 BO4 BI4 hbw4
  have CO6 := BO6.cell
  have FO6 := BO6.free
  by_cases hre : re = 0
  · have hrs : runS p inp arena fuel = (outS rm, 0) := by rw [HRUN.out]; unfold endS'; rw [if_pos hre]
    have HRS := Lib.hid hrs
    have t0 : (re != 0) = false := by rw [hre]; rfl
    have t1 : (re == 0) = true := by rw [hre]; rfl
    clear hre hrs HRUN
    obtain ⟨vv, hv, av, lv, tv, hbs, abs, hR, hM⟩ := hMA6.ex
    obtain ⟨ha, hac, rfl⟩ := own_shape' hR.h
    obtain ⟨ta, tac, rfl⟩ := own_shape' hR.t
    have hwf := hMA6.wf
    have hmb0 := hMA6.mb0
    have hhl : rm.handed.length ≤ 9223372036854775807 := own_le' hR.h
    have c1m : w6.cell? ⟨mb, 1, none⟩ = some (.slice ha rm.handed.length hac) := hM.cell 1
    have hM' : Bk w6 mb (mCb rm vv (.slice ha rm.handed.length hac) av lv (.slice ta rm.told.length tac) (.slice none 0 0)) 81 := hM
    clear hM hMA6 CO6 FO6
    go_wp2_with fail
    go_loopw [64] (fun s wr => ∃ (j : Nat) (bv : Value), s = .int .i64 j ∧ j ≤ rm.handed.length ∧ MRows wr w.heap.size w5.heap.size rm vv (.slice ha rm.handed.length hac) av lv (.slice ta rm.told.length tac) hbs abs ∧ Bk wr mb (mCb rm vv (.slice ha rm.handed.length hac) av lv (.slice ta rm.told.length tac) bv) 81 ∧
      wr.ownsRow w.heap.size 9 1 bv j ((rm.handed.take j).map fun x => Value.string (bytesB x.b)) ∧ Bk wr (w.heap.size + 2) zeroOut 48 ∧ Below w.heap.size w wr) (fun s _ => rm.handed.length - (intOf s).toNat)
    case atStart => exact ⟨0, _, rfl, Nat.zero_le _, hR, hM', ⟨rfl, .inl ⟨rfl, rfl⟩⟩, BO6, hfb6.b⟩
    case round =>
      clear hR hM' BO6 hfb6 c1m
      obtain ⟨j, bv, rfl, hj, hR, hM, hbo, BO, hb⟩ := hrel
      by_cases hlt : j < rm.handed.length
      · have hlt2 : j < hbs.length := by rw [hR.hl]; exact hlt
        obtain ⟨hg, hc', hrow, q0, q1, q2, q3⟩ := obj_at hR.h hR.hl j hlt hlt2
        obtain ⟨rfl, rfl⟩ : ha = some ⟨hg, 0, none⟩ ∧ hac = hc' := by injection hrow with h1 h2 h3; exact ⟨h1, h3⟩
        clear hrow
        obtain ⟨bg, bcap, hbe, hbg0, hbg1, hbc, -⟩ := (hR.hb j hlt hlt2).1.shape
        rw [hbe] at q1
        obtain ⟨x, hx⟩ : ∃ x, x = rm.handed[j] := ⟨_, rfl⟩
        rw [← hx] at q0 q1 q2 q3 hbc
        have hxl : x.b.length ≤ 65536 := by rw [hx]; exact (hwf.ob _ (List.mem_append_left _ (List.getElem_mem hlt))).2.2.1
        have htk : (rm.handed.take (j + 1)).map (fun x => Value.string (bytesB x.b)) = (rm.handed.take j).map (fun x => Value.string (bytesB x.b)) ++ [.string (bytesB x.b)] := by rw [List.take_succ_eq_append_getElem hlt, List.map_append, ← hx]; rfl
        have HTK := Lib.hid htk
        clear htk hx hbe
        obtain ⟨ba, bac, rfl⟩ := own_shape' hbo
        go_upto_region 11 with (fail)
        obtain ⟨Wx, hWx⟩ : ∃ Wx, Wx = wr.alloc (.cells #[.int .u64 x.at', .slice (some ⟨bg, 0, none⟩) x.b.length bcap, .bool x.sec, .bool x.fixed] 85) := ⟨_, rfl⟩
        rw [← hWx]
        have BX : Bk Wx wr.heap.size #[.int .u64 x.at', .slice (some ⟨bg, 0, none⟩) x.b.length bcap, .bool x.sec, .bool x.fixed] 85 := by rw [hWx]; exact Bk.new wr _ _
        have hbx : Below wr.heap.size wr Wx := by rw [hWx]; exact (Below.refl wr.heap.size wr).alloc (Nat.le_refl _) _
        clear hWx
        have hRx := hR.below hbx
        have hMx := hM.mono hbx
        have hbox := own_below hbo hbx
        have BOx := BO.mono hbx
        have hbwx := bt' hb hb.size hbx
        have HCV : (convert 83 9 (.slice (some ⟨bg, 0, none⟩) x.b.length bcap)).run Tryz.prog Wx.drew = .ok (.string (bytesB x.b)) Wx.drew := run_convert_bytes_arg (P := Tryz.prog) Wx.drew 83 5 Tryz.underlying83 Tryz.underlying5 bg 0 x.b.length bcap x.b rfl (fun i hi => by
          rw [Nat.zero_add]
          have := cm (hbc i hi) hbx
          simpa [List.getD_eq_getElem?_getD, hi] using this) 9 Tryz.underlying9
        obtain ⟨xb, hxb⟩ : ∃ xb, xb = wr.heap.size := ⟨_, rfl⟩
        rw [← hxb] at BX ⊢
        have hxb0 : w.heap.size ≤ xb := by rw [hxb]; exact hb.size
        clear hR hM hbo BO hb hbx hxb q0 q1 q2 q3 hbc
        obtain ⟨i0, hi, hz0, hz1, hz2⟩ := info_parts infoStr
        obtain ⟨wb, hwb⟩ : ∃ wb, wb = Wx.drew.alloc (.cells #[.string (bytesB x.b)] 9) := ⟨_, rfl⟩
        have hbb : Below Wx.heap.size Wx wb := by rw [hwb]; exact (Below.refl Wx.heap.size Wx).drew.alloc (Nat.le_refl _) _
        have hNB : Bk wb Wx.heap.size #[.string (bytesB x.b)] 9 := by rw [hwb]; exact Bk.new Wx.drew _ _
        have hRb := hRx.below hbb
        have hMb := hMx.mono hbb
        have hbob := own_below hbox hbb
        have BOb := BOx.mono hbb
        have BXb := BX.mono hbb
        have hbwb := bt' hbwx hbwx.size hbb
        have HPOST : ∀ bv' w3, w3.ownsRow w.heap.size 9 1 bv' (j + 1) ((rm.handed.take j).map (fun x => Value.string (bytesB x.b)) ++ [.string (bytesB x.b)]) → wb.grownBy w3 (Value.slice ba j bac).ownBlock →
            MRows w3 w.heap.size w5.heap.size rm vv (.slice (some ⟨hg, 0, none⟩) rm.handed.length hac) av lv (.slice ta rm.told.length tac) hbs abs ∧ Bk w3 mb (mCb rm vv (.slice (some ⟨hg, 0, none⟩) rm.handed.length hac) av lv (.slice ta rm.told.length tac) (.slice ba j bac)) 81 ∧ Bk w3 xb #[.int .u64 x.at', .slice (some ⟨bg, 0, none⟩) x.b.length bcap, .bool x.sec, .bool x.fixed] 85 ∧ Bk w3 (w.heap.size + 2) zeroOut 48 ∧ Below w.heap.size w w3 := by
          intro bv' w3 ho hg3
          have hnot : ∀ {n : Nat} {cs : Array Value} {t : TypeId}, Bk wb n cs t → 9 ≠ t → (Value.slice ba j bac).ownBlock ≠ some n := fun hk ht => own_not hbob hk ht
          refine ⟨hRb.kept hg3 fun g e => ?_, hMb.grown hg3 (fun e => hnot hMb (by decide) e.symm), BXb.grown hg3 (fun e => hnot BXb (by decide) e.symm), BOb.grown hg3 (fun e => hnot BOb (by decide) e.symm), hbwb.grown hg3 hbwb.size (fun k e => own_from hbob k e)⟩
          obtain ⟨cur, fz, hh⟩ := own_type hbob e
          exact hRb.other hh (by decide) (by decide) (by decide) (by decide)
        have HP := Lib.hid HPOST
        clear HPOST
        have CS : ∀ V, Below Wx.heap.size Wx V → V.cell? ⟨mb, 10, none⟩ = some (Value.slice ba j bac) ∧ V.cell? ⟨xb, 1, none⟩ = some (.slice (some ⟨bg, 0, none⟩) x.b.length bcap) :=
          fun V hV => ⟨cm (hMx.cell 10) hV, cm (BX.cell 1) hV⟩
        have HCS := Lib.hid CS
        clear CS
        refine start_ (n := 15) (S := fun w' => w'.cell? ⟨mb, 10, none⟩ = some (Value.slice ba j bac) ∧ w'.cell? ⟨xb, 1, none⟩ = some (.slice (some ⟨bg, 0, none⟩) x.b.length bcap)) (ds := [14]) (bz 15 0) (by kernel_rfl) rfl rfl (HCS.out _ (Below.refl _ _).drew) (fun hHeld => ?_)
        refine pure_ (i := 0) (N := (some 68)) (v := ?_) (a' := ?_) (bz 15 1) rfl rfl (by kernel_rfl) (fun _ _ _ h => h) (Or.inl ⟨by rfl, ?_⟩) ?_ ?_
        rotate_left
        · intro w'
          go_simp
          with_reducible rfl
        rotate_left
        · simp only [Act.put, sa_, sb_, sc_]
          rfl
        refine pure_ (i := 1) (N := (some 69)) (v := ?_) (a' := ?_) (bz 15 3) rfl rfl (by kernel_rfl) (fun _ _ _ h => h) (Or.inl ⟨by rfl, ?_⟩) ?_ ?_
        rotate_left
        · intro w'
          go_simp
          with_reducible rfl
        rotate_left
        · simp only [Act.put, sa_, sb_, sc_]
          rfl
        refine pure_ (i := 2) (N := (some 70)) (v := ?_) (a' := ?_) (bz 15 7) rfl rfl (by kernel_rfl) (fun _ _ _ h => h) (Or.inl ⟨by rfl, ?_⟩) ?_ ?_
        rotate_left
        · intro w'
          go_simp
          with_reducible rfl
        rotate_left
        · simp only [Act.put, sa_, sb_, sc_]
          rfl
        refine pure_ (i := 3) (N := (some 71)) (v := ?_) (a' := ?_) (bz 15 15) rfl rfl (by kernel_rfl) (fun _ _ _ h => h) (Or.inl ⟨by rfl, ?_⟩) ?_ ?_
        rotate_left
        · intro w'
          go_simp
          with_reducible rfl
        rotate_left
        · simp only [Act.put, sa_, sb_, sc_]
          rfl
        refine pure_ (i := 4) (N := (some 72)) (v := ?_) (a' := ?_) (bz 15 31) rfl rfl (by kernel_rfl) (fun _ _ _ h => h) (Or.inl ⟨by rfl, ?_⟩) ?_ ?_
        rotate_left
        · intro w'
          go_simp
          with_reducible rfl
        rotate_left
        · simp only [Act.put, sa_, sb_, sc_]
          rfl
        refine pure_ (i := 6) (N := (some 74)) (v := ?_) (a' := ?_) (bz 15 95) rfl rfl (by kernel_rfl) (fun _ _ _ h => h) (Or.inl ⟨by rfl, ?_⟩) ?_ ?_
        rotate_left
        · intro w'
          go_simp
          with_reducible rfl
        rotate_left
        · simp only [Act.put, sa_, sb_, sc_]
          rfl
        refine take_ (i := 5) (N := (some 73)) (v := ?_) (a' := ?_) (bz 15 127) rfl rfl (by kernel_rfl) (fun _ _ _ h => h) (Or.inl ⟨by rfl, ?_⟩) hHeld ?_ ?_
        rotate_left
        · rintro w' ⟨s0, s1⟩
          go_simp
          with_reducible rfl
        rotate_left
        · simp only [Act.put, sa_, sb_, sc_]
          rfl
        refine take_ (i := 7) (N := (some 75)) (v := ?_) (a' := ?_) (bz 15 255) rfl rfl (by kernel_rfl) (fun _ _ _ h => h) (Or.inl ⟨by rfl, ?_⟩) hHeld ?_ ?_
        rotate_left
        · rintro w' ⟨s0, s1⟩
          go_simp
          with_reducible rfl
        rotate_left
        · simp only [Act.put, sa_, sb_, sc_]
          rfl
        refine one_ (i := 8) (N := (some 76)) (bz 15 511) rfl rfl (by kernel_rfl) (by decide) (fun K hK => ?_)
        refine value_ (v := .string (bytesB x.b)) (w1 := Wx.drew) (by rfl) rfl ?_ ?_
        · go_simp
        refine hK.out _ _ (HCS.out _ (Below.refl _ _).drew) (fun hHeld => ?_)
        clear hK K
        refine norm_ (a' := ?_) ?_ ?_
        rotate_left
        · show Act.put _ (some 76) _ = _
          simp only [Act.put, sa_, sb_, sc_]
          rfl
        refine one_ (i := 9) (N := (some 77)) (bz 15 1023) rfl rfl (by kernel_rfl) (by decide) (fun K hK => ?_)
        refine value_ (v := .slice (some ⟨Wx.heap.size, 0, none⟩) 1 1) (w1 := wb) (by rfl) rfl ?_ ?_
        · rw [hwb]
          go_simp
        refine hK.out _ _ (HCS.out _ hbb) (fun hHeld => ?_)
        clear hK K
        refine norm_ (a' := ?_) ?_ ?_
        rotate_left
        · show Act.put _ (some 77) _ = _
          simp only [Act.put, sa_, sb_, sc_]
          rfl
        refine one_ (i := 10) (N := (some 78)) (bz 15 2047) rfl rfl (by kernel_rfl) (by decide) (fun K hK => ?_)
        refine step_append_lies _ rfl _ _ 41 (by rfl) w.heap.size 9 i0 (.string ⟨#[]⟩) 1 16 Tryz.underlying41 hi hz0 hz1 hz2 rfl (by decide) (.slice ba j bac) j ((rm.handed.take j).map fun x => Value.string (bytesB x.b)) (by rfl) hbob ⟨Wx.heap.size, 0, none⟩ 1 1 [.string (bytesB x.b)] (by rfl) rfl (fun jj u hu => ?_) (by simp [Value.oneCell']) (by decide) (by unfold maxLen; omega) (by omega) hbwb.size _ rfl ?_
        · exact World.news_of_block hNB jj u hu
        intro ga cap9 w9 ho hgr _ _
        obtain ⟨hR9, hM9, BX9, BO9, hb9⟩ := HP.out _ _ ho hgr
        refine hK.out _ _ ⟨hM9.cell 10, BX9.cell 1⟩ (fun hHeld => ?_)
        clear hK K
        have fM9 := hM9.free
        have cM9 := hM9.cell 10
        refine norm_ (a' := ?_) ?_ ?_
        rotate_left
        · show Act.put _ (some 78) _ = _
          simp only [Act.put, sa_, sb_, sc_]
          rfl
        refine pure_ (i := 11) (N := (some 79)) (v := ?_) (a' := ?_) (bz 15 4095) rfl rfl (by kernel_rfl) (fun _ _ _ h => h) (Or.inl ⟨by rfl, ?_⟩) ?_ ?_
        rotate_left
        · intro w'
          go_simp
          with_reducible rfl
        rotate_left
        · simp only [Act.put, sa_, sb_, sc_]
          rfl
        refine pure_ (i := 12) (N := (some 80)) (v := ?_) (a' := ?_) (bz 15 8191) rfl rfl (by kernel_rfl) (fun _ _ _ h => h) (Or.inl ⟨by rfl, ?_⟩) ?_ ?_
        rotate_left
        · intro w'
          go_simp
          with_reducible rfl
        rotate_left
        · simp only [Act.put, sa_, sb_, sc_]
          rfl
        refine pure_ (i := 13) (N := (some 81)) (v := ?_) (a' := ?_) (bz 15 16383) rfl rfl (by kernel_rfl) (fun _ _ _ h => h) (Or.inl ⟨by rfl, ?_⟩) ?_ ?_
        rotate_left
        · intro w'
          go_simp
          with_reducible rfl
        rotate_left
        · simp only [Act.put, sa_, sb_, sc_]
          rfl
        refine last_ (i := 14) (N := none) (bz 15 32767) rfl rfl (by kernel_rfl) (by decide) (fun K hK => ?_)
        refine skip_ (w1 := ?_) (by rfl) rfl ?_ ?_
        rotate_left
        · go_simp
          rfl
        refine hK.out _ _ ?_
        clear hK K
        refine done_ (by kernel_rfl) ?_
        obtain ⟨bv9, hbv9⟩ : ∃ v : Value, v = .slice (some ⟨ga, 0, none⟩) (j + 1) cap9 := ⟨_, rfl⟩
        rw [← hbv9] at ho ⊢
        obtain ⟨W9, hW9⟩ : ∃ W9, W9 = w9.setCell ⟨mb, 10, none⟩ bv9 := ⟨_, rfl⟩
        have hR10 : MRows W9 w.heap.size w5.heap.size rm vv (.slice (some ⟨hg, 0, none⟩) rm.handed.length hac) av lv (.slice ta rm.told.length tac) hbs abs := by rw [hW9]; exact hR9.mach hM9 10 _
        have hM10 : Bk W9 mb (mCb rm vv (.slice (some ⟨hg, 0, none⟩) rm.handed.length hac) av lv (.slice ta rm.told.length tac) bv9) 81 := by rw [hW9]; exact hM9.set 10 _
        have ho10 : W9.ownsRow w.heap.size 9 1 bv9 (j + 1) ((rm.handed.take (j + 1)).map fun x => Value.string (bytesB x.b)) := by
          rw [HTK.out, hW9]
          exact own_kept ho (set_grown w9 mb 10 _) fun g e => by cases e; exact own_not ho hM9 (by decide)
        have BO10 : Bk W9 (w.heap.size + 2) zeroOut 48 := by rw [hW9]; exact BO9.other (bk_ne BO9 hM9 (by decide)) _
        have hb10 : Below w.heap.size w W9 := by rw [hW9]; exact hb9.setCell (p := ⟨mb, 10, none⟩) hmb0 _
        rw [← hW9]
        clear hbv9 hW9 hR9 hM9 ho BO9 hb9 hgr BX9 fM9 cM9 hHeld HP HCS hRb hMb hbob BOb BXb hbwb hNB hwb hbb hi hz0 hz1 hz2 HCV hRx hMx hbox BOx hbwx BX
        go_wp2_with fail
        go_roundw
        case rel => exact ⟨j + 1, bv9, by go_num, by omega, hR10, hM10, ho10, BO10, hb10⟩
        case measure => simp [intOf]; omega
      · have hjl : j = rm.handed.length := by omega
        obtain ⟨ba, bac, rfl⟩ := own_shape' hbo
        have hbo2 : wr.ownsRow w.heap.size 9 1 (.slice ba (outS rm).bufs.length bac) (outS rm).bufs.length ((outS rm).bufs.map Value.string) := by
          have e1 : (outS rm).bufs.length = j := by rw [hjl]; show (rm.handed.map _).length = _; rw [List.length_map]
          have e2 : (outS rm).bufs.map Value.string = (rm.handed.take j).map fun x => Value.string (bytesB x.b) := by
            rw [hjl, List.take_length]
            show (rm.handed.map fun x => bytesB x.b).map Value.string = _
            rw [List.map_map]
            rfl
          rw [e1, e2]
          exact hbo
        have hbl : (outS rm).bufs.length = j := by rw [hjl]; show (rm.handed.map _).length = _; rw [List.length_map]
        have HBL := Lib.hid hbl
        have HBO2 := Lib.hid hbo2
        clear hbl hbo hbo2 hjl
        have CM := hM.cell
        have CO := BO.cell
        have FO := BO.free
        go_wp2_with fail
        have hg6 := grown6 wr (w.heap.size + 2) (.int .u8 rm.en) (.int .i64 rm.trap) (.int .u64 rm.ret) (.slice ba j bac) (.slice ta rm.told.length tac) (.int .i64 rm.steps)
        have hbo3 := own_kept HBO2.out hg6 (fun g e => by cases e; exact own_not HBO2.out BO (by decide))
        have ht3 := own_kept hR.t hg6 (fun g e => by cases e; exact own_not hR.t BO (by decide))
        refine run_end rfl rfl (store6 BO rfl _ _ _ _ _ _) rfl ⟨_, by rw [HRS.out], ?_, below6 hb (by omega) _ _ _ _ _ _⟩
        rw [HRS.out]
        exact ⟨ba, bac, ta, tac, by rw [HBL.out]; rfl, rowStr_of hbo3, rowU64_of ht3, own_le' HBO2.out, own_le' hR.t⟩
  · have hrs : runS p inp arena fuel = (outZ, re) := by rw [HRUN.out]; unfold endS'; rw [if_neg hre]
    have HRS := Lib.hid hrs
    have t0 : (re != 0) = true := by simpa using hre
    have t1 : (re == 0) = false := by simpa using hre
    clear hre hrs
    go_wp2_with fail
    exact run_end rfl rfl (store6 BO6 rfl _ _ _ _ _ _) rfl ⟨_, by rw [HRS.out], by rw [HRS.out]; exact outZ_at _, below6 hfb6.b (by omega) _ _ _ _ _ _⟩
theorem run_c (p : SIr) (inp : SIn) (arena fuel : Int) (w : World) (S P B NA BA : Option Addr) (c1 c2 c3 nc bc : Nat) (hS : kBool.Row w S p.sec) (hP : kHanded.Row w P p.par) (hB : kBlock.Row w B p.blk) (hNA : kU64.Row w NA inp.nums) (hBA : kStr.Row w BA inp.bufs) (hok : RunOk p inp)
    (hnc : inp.nums.length ≤ nc ∧ nc ≤ 9223372036854775807) :
    Calls Tryz.prog 19 #[.agg #[.slice S p.sec.length c1, .slice P p.par.length c2, .slice B p.blk.length c3], .agg #[.slice NA inp.nums.length nc, .slice BA inp.bufs.length bc], .int .i64 arena, .int .i64 fuel] w (RunPost w (runS p inp arena fuel)) := by
  cases h : mayRun p inp arena fuel with
  | true => exact run_yes p inp arena fuel w S P B NA BA c1 c2 c3 nc bc hS hP hB hNA hBA hok hnc h
  | false =>
    have e : runS p inp arena fuel = (outZ, 2) := runS_no h
    rw [e]
    exact run_no p inp arena fuel w S P B NA BA c1 c2 c3 nc bc hS hP hB hNA hBA hok h
end Go.Proofs.YtoabiignjkcdmaaGreat
