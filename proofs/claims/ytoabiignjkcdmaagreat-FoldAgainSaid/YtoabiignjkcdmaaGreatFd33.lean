/-
  Lemmas (texts RefC5), each proved without a condition beyond its own hypotheses.
-/
import Derived.Test.YtoabiignjkcdmaaGreatFd23
import Derived.Test.YtoabiignjkcdmaaGreatFd32
namespace Go.Proofs.YtoabiignjkcdmaaGreat
open Go.RowKit
set_option linter.unusedVariables false
set_option linter.unusedSimpArgs false

theorem idxBlk (bb bo n c k : Nat) (h : k < n) (w : World) :
    (Instr.indexAt 24 (.slice (some ⟨bb, bo, none⟩) n c) (.int .i64 (k : Int))).run Tryz.prog w = .ok (.pointer (some ⟨bb, bo + k * 5, none⟩)) w := by
  have h0 : (0 : Int) ≤ (k : Int) := by omega
  have h1 : (k : Int) < (n : Int) := by omega
  have h2 : ¬ (k : Int) < 0 := by omega
  simp [go_sem, h0, h1, h2]

theorem evQs_cut3 {P : Program} {ops : Array Oper} {l : List Oper} {hs : List QH} {a : Act} {ks : List Nat} {res : List Value × List QOb} (d1 d2 d3 : Nat) (v1 : Value) (c c' : Bool)
    (h : evQ P ops l hs a = evQ P ops (l.drop 3) hs (((a.put (some d1) v1).put (some d2) (.bool c)).put (some d3) (.bool c))) (hc : c = c')
    (h2 : ((evQ P ops (l.drop 3) hs (((a.put (some d1) v1).put (some d2) (.bool c')).put (some d3) (.bool c'))).map fun x => (ks.map fun k => x.1.tmps.getD k undef, x.2)) = some res) : evQs P ops l hs a ks = some res := by
  subst hc
  unfold evQs
  rw [h]
  exact h2

set_option maxRecDepth 100000 in
set_option maxHeartbeats 2000000 in
theorem may_c (p : SIr) (S P B : Option Addr) (c1 c2 c3 : Nat) (w : World) (hs : kBool.Row w S p.sec) (hp : kHanded.Row w P p.par) (hb0 : kBlock.Row w B p.blk) (hm : p.sec.length ≤ 100000) (hm2 : p.par.length ≤ 1000) (hops : ∀ b ∈ p.blk, b.ops.length ≤ 1000000000000000) (hfn : ∀ b ∈ p.blk, ∀ o ∈ b.ops, 0 ≤ o.fn) :
    Calls Tryz.prog 12 #[.agg #[.slice S p.sec.length c1, .slice P p.par.length c2, .slice B p.blk.length c3]] w
      fun e w' => e = .returned (.bool (checkS p)) ∧ Below w.heap.size w w' := by
  have hbW : Below w.heap.size w (w.alloc (.cells #[.slice S p.sec.length c1, .slice P p.par.length c2, .slice B p.blk.length c3] 26)) := (Below.refl _ _).alloc (Nat.le_refl _) _
  have HHD : Hid (∀ w1, Below w.heap.size w w1 → Calls Tryz.prog 26 #[.agg #[.slice S p.sec.length c1, .slice P p.par.length c2, .slice B p.blk.length c3]] w1 fun e w' => e = .returned (.bool (paramsS p)) ∧ Below w1.heap.size w1 w') := Lib.hid (fun w1 hb => handed_c p S P B c1 c2 c3 w1 (hs.mono hb) (hp.mono hb) hm hm2)
  clear hm hm2
  go_enter Tryz.func12, Tryz.ntmps12
  by_cases h1 : (4096 : Int) < (p.sec.length : Int)
  case pos =>
    go_wp2_with fail
    go_ret
    refine ⟨ret_bool ?_, hbW⟩
    simp only [checkS, headS, decide_eq_false (show ¬ p.sec.length ≤ 4096 by omega), Bool.false_and, Bool.and_false]
  by_cases h2 : (p.blk.length : Int) < 1
  case pos =>
    go_wp2_with fail
    go_ret
    refine ⟨ret_bool ?_, hbW⟩
    simp only [checkS, headS, decide_eq_false (show ¬ 1 ≤ p.blk.length by omega), Bool.false_and, Bool.and_false]
  by_cases h3 : (4096 : Int) < (p.blk.length : Int)
  case pos =>
    go_wp2_with fail
    go_ret
    refine ⟨ret_bool ?_, hbW⟩
    simp only [checkS, headS, decide_eq_false (show ¬ p.blk.length ≤ 4096 by omega), Bool.false_and, Bool.and_false]
  cases hpar : paramsS p with
  | false =>
    rw [hpar] at HHD
    have HP := Lib.hid hpar
    clear hpar
    go_wp2_with (go_at_call 26; go_must (refine (HHD.out _ hbW).mono ?_); rintro e w1 ⟨rfl, hb1⟩)
    go_ret
    refine ⟨ret_bool ?_, bt hbW hb1⟩
    simp only [checkS, headS, HP.out, Bool.false_and, Bool.and_false]
  | true =>
    rw [hpar] at HHD
    have hhead : headS p = true := by simp only [headS, hpar, decide_eq_true (show p.sec.length ≤ 4096 by omega), decide_eq_true (show 1 ≤ p.blk.length by omega), decide_eq_true (show p.blk.length ≤ 4096 by omega), Bool.and_true]
    have HH := Lib.hid hhead
    clear hhead hpar
    go_wp2_with (go_at_call 26; go_must (refine (HHD.out _ hbW).mono ?_); rintro e w1 ⟨rfl, hb1⟩; have B1 := (Bk.new w #[.slice S p.sec.length c1, .slice P p.par.length c2, .slice B p.blk.length c3] 26).mono hb1; have C1 := B1.cell)
    have hbw1 : Below w.heap.size w w1 := bt hbW hb1
    clear HHD
    go_loopw [3, 4] (fun v s wr => ∃ k : Nat, k ≤ p.blk.length ∧ s = .int .i64 k ∧ v = .int .i64 (sumOps (p.blk.take k)) ∧ sumOps (p.blk.take k) ≤ 32768 ∧ (∀ j (h : j < p.blk.length), j < k → blockS p p.blk[j] = true) ∧
        Bk wr w.heap.size #[.slice S p.sec.length c1, .slice P p.par.length c2, .slice B p.blk.length c3] 26 ∧ Below w.heap.size w wr) (fun _ s _ => p.blk.length - (intOf s).toNat)
    case atStart => exact ⟨0, Nat.zero_le _, rfl, rfl, Nat.zero_le _, fun j _ h => absurd h (by omega), B1, hbw1⟩
    case round =>
      obtain ⟨k, hk, rfl, rfl, hsum, hall, hB, hb⟩ := hrel
      have HA := Lib.hid hall; clear hall
      clear B1 C1 hb1 hbw1
      by_cases hlt : k < p.blk.length
      · obtain ⟨bb, bo, O, oc, rfl, g0, g1, g2, g3, g4, gm, hO⟩ := kBlock_at (hb0.mono hb) k hlt
        have C := hB.cell
        have hol := hops _ (List.getElem_mem hlt)
        have hsn : sumOps (p.blk.take (k + 1)) = sumOps (p.blk.take k) + p.blk[k].ops.length := by rw [List.take_succ_eq_append_getElem hlt, sumOps_snoc]
        have hst := sumOps_take p.blk (k + 1)
        have HN := Lib.hid hsn
        have HT := Lib.hid hst
        clear hsn hst
        have hsr := hs.mono hb
        have HFN := Lib.hid (hfn _ (List.getElem_mem hlt))
        obtain ⟨E, hE⟩ : ∃ E, endS p p.blk[k] = E := ⟨_, rfl⟩
        have HE := Lib.hid hE
        clear hE
        obtain ⟨sm, hsm⟩ : ∃ sm, sm = sumOps (p.blk.take k) := ⟨_, rfl⟩
        rw [← hsm] at hsum HN
        rw [← hsm]
        clear hsm
        go_upto_region 8 with (fail)
        go_cut [55] (fun s we => s = .bool (decide (32768 < sm + p.blk[k].ops.length) || !E) ∧ Below wr.heap.size wr we ∧ Bk we w.heap.size #[.slice S p.sec.length c1, .slice P p.par.length c2, .slice (some ⟨bb, bo, none⟩) p.blk.length c3] 26)
        case first =>
          clear HA HH HN HT HFN C hO gm hol hops hfn hp hb0
          have B3 := Below.refl wr.heap.size wr
          by_cases hbig : (32768 : Int) < (sm : Int) + (p.blk[k].ops.length : Int)
          · have e1 : decide (32768 < sm + p.blk[k].ops.length) = true := decide_eq_true (by omega)
            have e2 : decide ((32768 : Int) < (sm : Int) + (p.blk[k].ops.length : Int)) = true := decide_eq_true hbig
            refine wp_evQ' (fun w' => Bk w' w.heap.size #[.slice S p.sec.length c1, .slice P p.par.length c2, .slice (some ⟨bb, bo, none⟩) p.blk.length c3] 26 ∧ Below wr.heap.size wr w') [] [55] [.bool true] 44 12 [] (by kernel_rfl) (by kernel_rfl) (by kernel_rfl) (by kernel_rfl) (by kernel_rfl) (evQs_cut3 44 45 46 (.int .i64 ((sm : Int) + (p.blk[k].ops.length : Int))) (decide ((32768 : Int) < (sm : Int) + (p.blk[k].ops.length : Int))) true (by kernel_rfl) e2 (by kernel_rfl)) ?_ ?_ ?_
            · exact ⟨hB.drew, B3.drew⟩
            · exact trivial
            · rintro w' g ⟨b1, b3⟩ hg
              simp only [List.map, List.cons.injEq, and_true] at hg
              simp only [frameIn, List.take_succ_cons, List.take_zero, List.range'_succ, List.range'_zero, List.map_cons, List.map_nil, List.cons_append, List.nil_append, List.drop_succ_cons, List.drop_zero, List.foldl_nil, hg]
              go_wp2
              go_meet
              case rel => exact ⟨by rw [e1]; rfl, b3, b1⟩
          · have e1 : decide (32768 < sm + p.blk[k].ops.length) = false := decide_eq_false (by omega)
            have e2 : decide ((32768 : Int) < (sm : Int) + (p.blk[k].ops.length : Int)) = false := decide_eq_false hbig
            refine wp_evQ' (fun w' => Bk w' w.heap.size #[.slice S p.sec.length c1, .slice P p.par.length c2, .slice (some ⟨bb, bo, none⟩) p.blk.length c3] 26 ∧ Below wr.heap.size wr w') [.ld w.heap.size 0 [.slice S p.sec.length c1, .slice P p.par.length c2, .slice (some ⟨bb, bo, none⟩) p.blk.length c3], .ld w.heap.size 2 [.slice (some ⟨bb, bo, none⟩) p.blk.length c3], .at 24 (.slice (some ⟨bb, bo, none⟩) p.blk.length c3) (.int .i64 (k : Int)) (.pointer (some ⟨bb, bo + k * 5, none⟩)), .ld bb (bo + k * 5) [.slice O p.blk[k].ops.length oc, .int .u8 p.blk[k].e, .int .i64 p.blk[k].a, .int .i64 p.blk[k].go, .int .i64 p.blk[k].els], .call 27 #[.agg #[.slice S p.sec.length c1, .slice P p.par.length c2, .slice (some ⟨bb, bo, none⟩) p.blk.length c3], .agg #[.slice O p.blk[k].ops.length oc, .int .u8 p.blk[k].e, .int .i64 p.blk[k].a, .int .i64 p.blk[k].go, .int .i64 p.blk[k].els]] (.bool E)] [55] [.bool (!E)] 44 12 [] (by kernel_rfl) (by kernel_rfl) (by kernel_rfl) (by kernel_rfl) (by kernel_rfl) (evQs_cut3 44 45 46 (.int .i64 ((sm : Int) + (p.blk[k].ops.length : Int))) (decide ((32768 : Int) < (sm : Int) + (p.blk[k].ops.length : Int))) false (by kernel_rfl) e2 (by kernel_rfl)) ?_ ?_ ?_
            · exact ⟨hB.drew, B3.drew⟩
            · simp only [hintObs, ldObs, AllHold, List.append, List.cons_append, List.nil_append, QOb.Holds, cond_true, cond_false, Bool.not_true, Bool.not_false, Bool.and_true, Bool.and_false, Bool.true_and, Bool.false_and, Bool.bne_true, Bool.bne_false, Bool.xor_true, Bool.xor_false]
              repeat' (first | exact trivial | apply And.intro)
              all_goals first
                | (rintro w' ⟨b1, b3⟩; with_reducible exact b1.cell _)
                | (rintro w' ⟨b1, b3⟩; exact b1.cell _)
                | (rintro w' ⟨b1, b3⟩; exact idxBlk _ _ _ _ _ hlt _)
                | (rintro w' ⟨b1, b3⟩; exact cm g0 b3)
                | (rintro w' ⟨b1, b3⟩; exact cm g1 b3)
                | (rintro w' ⟨b1, b3⟩; exact cm g2 b3)
                | (rintro w' ⟨b1, b3⟩; exact cm g3 b3)
                | (rintro w' ⟨b1, b3⟩; exact cm g4 b3)
                | (rintro w' ⟨b1, b3⟩; exact (refEnd_c p p.blk[k] S P _ O c1 c2 c3 _ oc _ (hsr.mono b3)).mono fun e w2 ⟨he, hb2⟩ => ⟨he.trans (by rw [HE.out]), b1.mono hb2, bt b3 hb2⟩)
            · rintro w' g ⟨b1, b3⟩ hg
              simp only [List.map, List.cons.injEq, and_true] at hg
              simp only [frameIn, List.take_succ_cons, List.take_zero, List.range'_succ, List.range'_zero, List.map_cons, List.map_nil, List.cons_append, List.nil_append, List.drop_succ_cons, List.drop_zero, List.foldl_nil, hg]
              go_wp2
              go_meet
              case rel => exact ⟨by rw [e1]; rfl, b3, b1⟩
        case rest =>
          obtain ⟨rfl, hb1, K1⟩ := hcut
          have hbw := bt hb hb1
          have hOc := hO.mono hb1
          have gk := cm g0 hb1
          clear hB C g1 g2 g3 g4 hO hsr hb0 hp hops hfn
          clear g0
          have K1c := K1.cell
          cases hT : (decide (32768 < sm + p.blk[k].ops.length) || !E) with
          | true =>
            have hno : checkS p = false := by
              rw [Bool.or_eq_true, decide_eq_true_eq] at hT
              rcases hT with h | h
              · have e1 := HN.out
                have e2 := HT.out
                have : ¬ sumOps p.blk ≤ 32768 := by omega
                simp only [checkS, decide_eq_false this, Bool.false_and, Bool.and_false]
              · have hEf : endS p p.blk[k] = false := by rw [HE.out]; simpa using h
                have : p.blk.all (blockS p) = false := by rw [List.all_eq_false]; exact ⟨p.blk[k], List.getElem_mem hlt, by simp [blockS, hEf]⟩
                simp only [checkS, this, Bool.and_false]
            have HNO := Lib.hid hno
            clear hno hT
            go_wp2_with fail
            go_ret
            exact ⟨ret_bool HNO.out.symm, hbw⟩
          | false =>
            rw [Bool.or_eq_false_iff] at hT
            obtain ⟨hT1, hT2⟩ := hT
            have hT1 := of_decide_eq_false hT1
            obtain rfl : E = true := by simpa using hT2
            have HT1 := Lib.hid hT1
            clear hT1 hT2
            obtain ⟨bk, hbk⟩ : ∃ bk, bk = p.blk[k] := ⟨_, rfl⟩
            rw [← hbk] at hOc gk HN HFN HE HT1 hol gm ⊢
            have HBK := Lib.hid hbk
            clear hbk
            go_wp2_with fail
            have hsc := hs.mono hbw
            have hbx : Below wc.heap.size wc wc := Below.refl _ _
            go_loopw [5] (fun s wx => ∃ j : Nat, j ≤ bk.ops.length ∧ s = .int .i64 j ∧ (∀ q (h : q < bk.ops.length), q < j → opS p bk.ops[q] = true) ∧ Bk wx w.heap.size #[.slice S p.sec.length c1, .slice P p.par.length c2, .slice (some ⟨bb, bo, none⟩) p.blk.length c3] 26 ∧ Below wc.heap.size wc wx) (fun s _ => bk.ops.length - (intOf s).toNat)
            case atStart => exact ⟨0, Nat.zero_le _, rfl, fun q _ h => absurd h (by omega), K1, hbx⟩
            case round =>
              obtain ⟨j, hj, rfl, hal2, hK, hbx2⟩ := hrel
              have HA2 := Lib.hid hal2
              have hbw2 := bt hbw hbx2
              have gk2 := cm gk hbx2
              clear hal2 K1 K1c gk hbx
              have K1c := hK.cell
              by_cases hlt2 : j < bk.ops.length
              · obtain ⟨ob, oo, rfl, q0, q1, q2, q3, q4, q5⟩ := kOp_at (hOc.mono hbx2) j hlt2
                have HF0 := Lib.hid (HFN.out _ (List.getElem_mem hlt2))
                obtain ⟨op, hop⟩ : ∃ op, op = bk.ops[j] := ⟨_, rfl⟩
                rw [← hop] at q0 q1 q2 q3 q4 q5 HF0
                have HOP := Lib.hid hop
                have hsx := hsc.mono hbx2
                clear hop hOc
                obtain ⟨k', fn, d, a, b, imm⟩ := op
                simp only at q0 q1 q2 q3 q4 q5 HF0
                have HEQ := Lib.hid (opS_eq p ⟨k', fn, d, a, b, imm⟩ HF0.out)
                obtain ⟨F, hF⟩ : ∃ F, formB p.sec.length k' fn d a b imm = F := ⟨_, rfl⟩
                obtain ⟨A, hA⟩ : ∃ A, apB k' fn (secS p a) (secS p b) (secS p d) = A := ⟨_, rfl⟩
                have HFC : Hid (∀ w1, Calls Tryz.prog 28 #[.agg #[.slice S p.sec.length c1, .slice P p.par.length c2, .slice (some ⟨bb, bo, none⟩) p.blk.length c3], .agg #[.int .u8 k', .int .u8 fn, .int .i64 d, .int .i64 a, .int .i64 b, .int .u64 imm]] w1 fun e w' => e = .returned (.bool F) ∧ Below w1.heap.size w1 w') := Lib.hid (fun w1 => by rw [← hF]; exact form_c p ⟨k', fn, d, a, b, imm⟩ S P _ c1 c2 c3 w1)
                have HAC : Hid (F = true → ∀ w1, kBool.Row w1 S p.sec → Calls Tryz.prog 29 #[.agg #[.slice S p.sec.length c1, .slice P p.par.length c2, .slice (some ⟨bb, bo, none⟩) p.blk.length c3], .agg #[.int .u8 k', .int .u8 fn, .int .i64 d, .int .i64 a, .int .i64 b, .int .u64 imm]] w1 fun e w' => e = .returned (.bool A) ∧ Below w1.heap.size w1 w') := Lib.hid (fun hf w1 hr => by rw [← hA]; exact apart_c p ⟨k', fn, d, a, b, imm⟩ S P _ c1 c2 c3 w1 hr (hF.trans hf))
                have hbA : Below wr.heap.size wr (wr.alloc (.cells #[.int .u8 k', .int .u8 fn, .int .i64 d, .int .i64 a, .int .i64 b, .int .u64 imm] 54)) := (Below.refl _ _).alloc (Nat.le_refl _) _
                have X1 := hK.alloc (.cells #[.int .u8 k', .int .u8 fn, .int .i64 d, .int .i64 a, .int .i64 b, .int .u64 imm] 54)
                have X2 := Bk.new wr #[.int .u8 k', .int .u8 fn, .int .i64 d, .int .i64 a, .int .i64 b, .int .u64 imm] 54
                have X1c := X1.cell
                have X2c := X2.cell
                have hbwA := bt hbw2 hbA
                have hbxA := bt hbx2 hbA
                have hsA := hsx.mono hbA
                have hno : (F && A) = false → checkS p = false := by
                  intro h
                  have : opS p bk.ops[j] = false := by rw [← HOP.out, HEQ.out]; simp only [hF, hA]; exact h
                  have h2 : bk.ops.all (opS p) = false := by rw [List.all_eq_false]; exact ⟨_, List.getElem_mem hlt2, by simp [this]⟩
                  have h3 : p.blk.all (blockS p) = false := by rw [List.all_eq_false]; exact ⟨p.blk[k], List.getElem_mem hlt, by rw [← HBK.out]; simp [blockS, h2]⟩
                  simp only [checkS, h3, Bool.and_false]
                have HNO := Lib.hid hno
                have HFA := Lib.hid (And.intro hF hA)
                clear hno hF hA
                cases F with
                | false =>
                  go_wp2_with (go_at_call 28; go_must (refine (HFC.out _).mono ?_); rintro e w2 ⟨rfl, hb2⟩)
                  go_ret
                  exact ⟨ret_bool (HNO.out rfl).symm, bt hbwA hb2⟩
                | true =>
                  cases A with
                  | false =>
                    go_wp2_with (first
                      | (go_at_call 28; go_must (refine (HFC.out _).mono ?_); rintro e w2 ⟨rfl, hb2⟩; have X3 := X1.mono hb2; have X4 := X2.mono hb2; have C3 := X3.cell; have C4 := X4.cell)
                      | (go_at_call 29; go_must (refine (HAC.out (by first | trivial | rfl) _ (hsA.mono hb2)).mono ?_); rintro e w3 ⟨rfl, hb3⟩))
                    go_ret
                    exact ⟨ret_bool (HNO.out rfl).symm, bt (bt hbwA hb2) hb3⟩
                  | true =>
                    go_wp2_with (first
                      | (go_at_call 28; go_must (refine (HFC.out _).mono ?_); rintro e w2 ⟨rfl, hb2⟩; have X3 := X1.mono hb2; have X4 := X2.mono hb2; have C3 := X3.cell; have C4 := X4.cell)
                      | (go_at_call 29; go_must (refine (HAC.out (by first | trivial | rfl) _ (hsA.mono hb2)).mono ?_); rintro e w3 ⟨rfl, hb3⟩))
                    go_roundw
                    case rel =>
                      refine ⟨j + 1, by omega, by go_num, fun q h hq => ?_, X3.mono hb3, bt (bt hbxA hb2) hb3⟩
                      by_cases e : q = j
                      · subst e; rw [← HOP.out, HEQ.out]; simp only [HFA.out.1, HFA.out.2, Bool.and_self]
                      · exact HA2.out q h (by omega)
                    case measure => simp [intOf]; omega
              · have hbl : blockS p p.blk[k] = true := by
                  rw [← HBK.out]
                  unfold blockS
                  rw [HE.out, Bool.true_and, List.all_eq_true]
                  intro x hx
                  obtain ⟨i, hi, rfl⟩ := List.getElem_of_mem hx
                  exact HA2.out i hi (by omega)
                have HBL := Lib.hid hbl
                clear hbl
                go_wp2_with fail
                go_roundw
                case rel =>
                  refine ⟨k + 1, by omega, by go_num, ?_, ?_, fun q h hq => ?_, hK, hbw2⟩
                  · rw [HN.out]; congr 1 <;> omega
                  · have := HN.out; have := HT1.out; omega
                  · by_cases e : q = k
                    · subst e; exact HBL.out
                    · exact HA.out q h (by omega)
                case measure => simp [intOf]; omega
      · have C := hB.cell
        go_wp2_with fail
        go_ret
        refine ⟨ret_bool ?_, hb⟩
        have ek : k = p.blk.length := by omega
        subst ek
        rw [List.take_length] at hsum
        have : p.blk.all (blockS p) = true := by
          rw [List.all_eq_true]
          intro x hx
          obtain ⟨i, hi, rfl⟩ := List.getElem_of_mem hx
          exact HA.out i hi hi
        simp only [checkS, HH.out, this, decide_eq_true hsum, Bool.and_true]
end Go.Proofs.YtoabiignjkcdmaaGreat
