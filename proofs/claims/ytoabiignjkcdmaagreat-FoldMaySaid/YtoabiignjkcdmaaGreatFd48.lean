/-
  Lemmas (texts FoldL3), each proved without a condition beyond its own hypotheses.
-/
import Derived.Test.YtoabiignjkcdmaaGreatFd44
import Derived.Test.YtoabiignjkcdmaaGreatFd47
import Derived.Test.YtoabiignjkcdmaaGreatFd34
import Derived.Test.YtoabiignjkcdmaaGreatFd33
import Derived.Test.YtoabiignjkcdmaaGreatFd5
namespace Go.Proofs.YtoabiignjkcdmaaGreat
open Go.RowKit YtoabiignjkcdmaaGreatW.PrintLast
set_option linter.unusedVariables false
set_option linter.unusedSimpArgs false

theorem foldS_get {p : SIr} (ins : Int → Want) (k : Nat) (h : k < p.blk.length) (h' : k < (foldS p ins).blk.length) : (foldS p ins).blk[k] = cutB ins (forwardS p.blk[k]) := by
  simp [foldS, cutS, forwardP]
theorem fold_kept {p : SIr} (ins : Int → Want) (k : Nat) (h : k < p.blk.length) (h' : k < (foldS p ins).blk.length) :
    wks p.blk[k].ops = wks (foldS p ins).blk[k].ops ∧ p.blk[k].e = (foldS p ins).blk[k].e ∧ p.blk[k].go = (foldS p ins).blk[k].go ∧ p.blk[k].els = (foldS p ins).blk[k].els := by
  rw [foldS_get ins k h h']
  exact ⟨(fold_wks ins _).symm, rfl, rfl, rfl⟩
def KeptAll (p q : SIr) : Prop := ∀ k (h : k < p.blk.length) (h' : k < q.blk.length), wks p.blk[k].ops = wks q.blk[k].ops ∧ p.blk[k].e = q.blk[k].e ∧ p.blk[k].go = q.blk[k].go ∧ p.blk[k].els = q.blk[k].els
theorem keptAll_fold (p : SIr) (ins : Int → Want) : KeptAll p (foldS p ins) := fun k h h' => fold_kept ins k h h'
theorem Small.fold {p : SIr} (h : Small p) (ins : Int → Want) : Small (foldS p ins) :=
  ⟨h.sec, h.par, by rw [foldS_len]; exact h.blk, Nat.le_trans (sum_fold ins p.blk) h.ops⟩
set_option maxRecDepth 100000 in
set_option maxHeartbeats 16000000 in
theorem foldMay_c (p : SIr) (w : World) (S P B : Option Addr) (c1 c2 c3 : Nat) (hS : kBool.Row w S p.sec) (hP : kHanded.Row w P p.par) (hB : kBlock.Row w B p.blk)
    (hm : p.sec.length ≤ 9223372036854775807 ∧ p.par.length ≤ 9223372036854775807 ∧ p.blk.length ≤ 9223372036854775807) (hops : ∀ b ∈ p.blk, b.ops.length ≤ 1000000000000000) (himm : ∀ b ∈ p.blk, ∀ o ∈ b.ops, ImmOk o) :
    Calls Tryz.prog 4 #[.agg (irV p S P B c1 c2 c3)] w fun e w' => e = .returned (.bool true) ∧ Below w.heap.size w w' := by
  obtain ⟨W1, hW1⟩ : ∃ W1, W1 = w.alloc (.cells (irV p S P B c1 c2 c3) 26) := ⟨_, rfl⟩
  have hb1 : Below w.heap.size w W1 := by rw [hW1]; exact (Below.refl w.heap.size w).alloc (Nat.le_refl _) _
  have BP : Bk W1 w.heap.size (irV p S P B c1 c2 c3) 26 := by rw [hW1]; exact Bk.new w _ _
  have HLG := Lib.hid (large_c p W1 S P B c1 c2 c3 (hB.mono hb1) hm hops)
  have HROW := Lib.hid (⟨hS, hP, hB⟩ : kBool.Row w S p.sec ∧ kHanded.Row w P p.par ∧ kBlock.Row w B p.blk)
  clear hS hP hB
  go_enter Tryz.func4, Tryz.ntmps4
  go_upto_region 1 with (fail)
  rw [← hW1]
  clear hW1
  have CP := BP.cell
  go_wp2_with fail
  refine HLG.out.mono ?_
  rintro e w2 ⟨r, rfl, hr, hb2⟩
  have hbw := bt hb1 hb2
  cases r with
  | true =>
    clear hr CP
    go_wp2_with fail
    refine (alive23_c _).mono ?_
    rintro e w3 ⟨rfl, hb3⟩
    go_wp2_with fail
    go_ret
    exact ⟨rfl, bt hbw hb3⟩
  | false =>
    have hsm := hr rfl
    obtain ⟨hS, hP, hB⟩ := HROW.out
    have BP2 := BP.mono hb2
    have HCP := Lib.hid (copy_c p w2 S P B c1 c2 c3 (hS.mono hbw) (hP.mono hbw) (hB.mono hbw) hsm)
    have HSM := Lib.hid hsm
    have hfok : FoldOk p := foldOk_of (by have := hsm.sec; omega) (by have := hsm.par; omega) (fun b hb => by have := hsm.each b hb; omega) (by have := hsm.blk; omega) himm
    have HFO := Lib.hid hfok
    have HIM := Lib.hid himm
    have HOPS := Lib.hid hops
    have HSZ : Hid (∀ b ∈ p.blk, b.ops.length ≤ 100000) := Lib.hid fun b hb => by have := hsm.each b hb; omega
    clear hr CP BP hb2 HLG hsm hS hP hB hfok himm hops hm
    have CP := BP2.cell
    go_upto_region 4 with (go_at_call 10; go_must (refine HCP.out.mono ?_); rintro e w3 ⟨sv, pv, bv, ovs, rfl, hcp, hb3⟩; obtain ⟨S', P', B', c1', c2', c3', rfl, rfl, rfl, hS', hP', hB'⟩ := copied_rows hcp (fun b hb => by have := HOPS.out b hb; unfold maxLen; omega))
    clear HCP hcp
    obtain ⟨W3, hW3⟩ : ∃ W3, W3 = w3.alloc (.cells (irV p S' P' B' c1' c2' c3') 26) := ⟨_, rfl⟩
    rw [← hW3]
    have hbx : Below w3.heap.size w3 W3 := by rw [hW3]; exact (Below.refl _ _).alloc (Nat.le_refl _) _
    have BO4 : Bk W3 w3.heap.size (irV p S' P' B' c1' c2' c3') 26 := by rw [hW3]; exact Bk.new w3 _ _
    have HOWN := Lib.hid (⟨hS'.mono hbx, hP'.mono hbx, hB'.mono hbx⟩ : kBool.Row W3 S' p.sec ∧ kHanded.Row W3 P' p.par ∧ kBlock.Row W3 B' p.blk)
    have hb4 := bt hbw (bt hb3 hbx)
    have BP4 := BP2.mono (bt hb3 hbx)
    have HF := Lib.hid (fold_of_c p S' P' B' c1' c2' c3' W3 HOWN.out.1 HOWN.out.2.1 HOWN.out.2.2 HFO.out)
    obtain ⟨ob, hob⟩ : ∃ ob, ob = w3.heap.size := ⟨_, rfl⟩
    rw [← hob] at BO4 ⊢
    clear hW3 hbx hb3 hbw BP2 CP hS' hP' hB' hob
    have CP := BP4.cell
    have CO := BO4.cell
    have HMAY : Hid (∀ w4, Below w.heap.size w w4 → Calls Tryz.prog 12 #[.agg (irV p S P B c1 c2 c3)] w4 fun e w' => e = .returned (.bool (checkS p)) ∧ Below w4.heap.size w4 w') := Lib.hid (fun w4 h => may_c p S P B c1 c2 c3 w4 (HROW.out.1.mono h) (HROW.out.2.1.mono h) (HROW.out.2.2.mono h) (by have := HSM.out.sec; omega) (by have := HSM.out.par; omega) HOPS.out (fun b hb o ho => (HIM.out b hb o ho).2.1))
    have HSAME : Hid (∀ w4, Below W3.heap.size W3 w4 → Calls Tryz.prog 13 #[.agg (irV p S' P' B' c1' c2' c3'), .agg (irV p S P B c1 c2 c3)] w4 fun e w' => e = .returned (.bool true) ∧ Below w4.heap.size w4 w') := Lib.hid (fun w4 h => same18_c p w4 S' P' B' S P B c1' c2' c3' c1 c2 c3 (HOWN.out.1.mono h) (HOWN.out.2.1.mono h) (HOWN.out.2.2.mono h) (HROW.out.1.mono (bt hb4 h)) (HROW.out.2.1.mono (bt hb4 h)) (HROW.out.2.2.mono (bt hb4 h)) HSM.out)
    cases hck : checkS p with
    | false =>
      have HC := Lib.hid hck
      rw [hck] at HMAY
      have hbf := hb4
      clear hck HFO HIM HOPS HSM HOWN HROW
      go_upto_region 5 with (go_at_call 15; go_must (refine HF.out.mono ?_); rintro e w5 ⟨hz, -⟩; obtain ⟨rfl, hb5⟩ := hz HC.out; unfold zeroIr)
      clear hz
      obtain ⟨W5, hW5⟩ : ∃ W5, W5 = w5.alloc (.cells #[.slice none 0 0, .slice none 0 0, .slice none 0 0] 26) := ⟨_, rfl⟩
      rw [← hW5]
      have hbx : Below w5.heap.size w5 W5 := by rw [hW5]; exact (Below.refl _ _).alloc (Nat.le_refl _) _
      have BQ6 : Bk W5 w5.heap.size #[.slice none 0 0, .slice none 0 0, .slice none 0 0] 26 := by rw [hW5]; exact Bk.new w5 _ _
      have hbd := bt hb5 hbx
      have hb6 := bt hb4 hbd
      have BP6 := BP4.mono hbd
      have BO6 := BO4.mono hbd
      obtain ⟨qb, hqb⟩ : ∃ qb, qb = w5.heap.size := ⟨_, rfl⟩
      rw [← hqb] at BQ6 ⊢
      clear hW5 hbx hb5 BP4 BO4 CP CO HF HC hqb
      have CP := BP6.cell
      have CO := BO6.cell
      have CQ := BQ6.cell
      have HZ : Hid (∀ w4, Calls Tryz.prog 13 #[.agg #[.slice none 0 0, .slice none 0 0, .slice none 0 0], .agg #[.slice none 0 0, .slice none 0 0, .slice none 0 0]] w4 fun e w' => e = .returned (.bool true) ∧ Below w4.heap.size w4 w') := Lib.hid (fun w4 => same18_c ⟨[], [], []⟩ w4 none none none none none none 0 0 0 0 0 0 (.inl rfl) (.inl rfl) (.inl rfl) (.inl rfl) (.inl rfl) (.inl rfl) ⟨by decide, by decide, by decide, by decide⟩)
      go_upto_region 7 with (go_at_call 13; go_must (refine (HSAME.out _ hbd).mono ?_); rintro e w7 ⟨rfl, hb7⟩; clear HSAME; have BP7 := BP6.mono hb7; have BQ7 := BQ6.mono hb7; have hb8 := bt hb6 hb7; clear CP CO CQ; have CP := BP7.cell; have CQ := BQ7.cell)
      go_wp2_with (first
        | (go_at_call 12; go_must (refine (HMAY.out _ hb8).mono ?_); rintro e w9 ⟨rfl, hb9⟩; have BQ9 := BQ7.mono hb9; have hb10 := bt hb8 hb9; clear CP CQ; have CQ := BQ9.cell)
        | (go_at_call 13; go_must (refine (HZ.out _).mono ?_); rintro e w11 ⟨rfl, hb11⟩; have hb12 := bt hb10 hb11)
        | (go_at_call 14; go_must (refine (alive23_c _).mono ?_); rintro e w13 ⟨rfl, hb13⟩))
      go_ret
      exact ⟨rfl, bt hb12 hb13⟩
    | true =>
      have HC := Lib.hid hck
      rw [hck] at HMAY
      clear hck
      go_upto_region 5 with (go_at_call 15; go_must (refine HF.out.mono ?_); rintro e w5 ⟨-, hp⟩; obtain ⟨ins, sv, pv, bv, vs, hfix, rfl, hcp, hb5⟩ := hp HC.out; obtain ⟨sa, pa, ba, sc, pc, bk, rfl, rfl, rfl, hq1, hq2, hq3⟩ := copied_rows hcp (fun b hb => by have := fold_opslen ins HOPS.out b hb; unfold maxLen; omega))
      have HQC := Lib.hid (checkS_fold ins HC.out)
      have HQI := Lib.hid (fold_imm ins HIM.out)
      have HQS := Lib.hid (HSM.out.fold ins)
      have HQL := Lib.hid (foldS_len p ins)
      have HKEPT := Lib.hid (keptAll_fold p ins)
      have HBARE := Lib.hid (fold_blk_bare p ins)
      have HKIN := Lib.hid (kinds_of (checkS_fold ins HC.out))
      have HSEC : Hid ((foldS p ins).sec = p.sec) := Lib.hid rfl
      have HPAR : Hid ((foldS p ins).par = p.par) := Lib.hid rfl
      obtain ⟨q, hq⟩ : ∃ q, foldS p ins = q := ⟨_, rfl⟩
      rw [hq] at HQC HQI HQS HQL HBARE HKIN HSEC HPAR HKEPT hq1 hq2 hq3 ⊢
      clear hq hcp hfix HC HF HFO
      obtain ⟨W5, hW5⟩ : ∃ W5, W5 = w5.alloc (.cells (irV q sa pa ba sc pc bk) 26) := ⟨_, rfl⟩
      rw [← hW5]
      have hbx : Below w5.heap.size w5 W5 := by rw [hW5]; exact (Below.refl _ _).alloc (Nat.le_refl _) _
      have BQ6 : Bk W5 w5.heap.size (irV q sa pa ba sc pc bk) 26 := by rw [hW5]; exact Bk.new w5 _ _
      have HQR := Lib.hid (⟨hq1.mono hbx, hq2.mono hbx, hq3.mono hbx⟩ : kBool.Row W5 sa q.sec ∧ kHanded.Row W5 pa q.par ∧ kBlock.Row W5 ba q.blk)
      have hbd := bt hb5 hbx
      have hb6 := bt hb4 hbd
      have BP6 := BP4.mono hbd
      have BO6 := BO4.mono hbd
      obtain ⟨qb, hqb⟩ : ∃ qb, qb = w5.heap.size := ⟨_, rfl⟩
      rw [← hqb] at BQ6 ⊢
      clear hW5 hbx hb5 BP4 BO4 CP CO hq1 hq2 hq3 hqb
      have CP := BP6.cell
      have CO := BO6.cell
      have CQ := BQ6.cell
      have HMAYQ : Hid (∀ w4, Below W5.heap.size W5 w4 → Calls Tryz.prog 12 #[.agg (irV q sa pa ba sc pc bk)] w4 fun e w' => e = .returned (.bool true) ∧ Below w4.heap.size w4 w') := Lib.hid (fun w4 h => by
        have := may_c q sa pa ba sc pc bk w4 (HQR.out.1.mono h) (HQR.out.2.1.mono h) (HQR.out.2.2.mono h) (by have := HQS.out.sec; omega) (by have := HQS.out.par; omega) (fun b hb => by have := HQS.out.each b hb; omega) (fun b hb o ho => (HQI.out b hb o ho).2.1)
        rw [HQC.out] at this
        exact this)
      have HCKQ : Hid (∀ w4, Below W5.heap.size W5 w4 → Calls Tryz.prog 11 #[.agg (irV q sa pa ba sc pc bk)] w4 fun e w' => e = .returned (.int .i64 0) ∧ Below w4.heap.size w4 w') := Lib.hid (fun w4 h => by
        have := check_c q sa pa ba sc pc bk w4 (HQR.out.1.mono h) (HQR.out.2.1.mono h) (HQR.out.2.2.mono h) (by have := HQS.out.par; omega) (fun b hb => by have := HQS.out.each b hb; omega)
        rw [show checkN q = 0 by unfold checkN; rw [HQC.out]; rfl] at this
        exact this)
      have hql : (q.blk.length : Int) = (p.blk.length : Int) := by rw [HQL.out]
      have hbr := Below.refl W5.heap.size W5
      go_upto_region 11 with (first
        | (go_at_call 13; have _q := HSAME; clear _q; go_must (refine (HSAME.out _ hbd).mono ?_); rintro e w7 ⟨rfl, hb7⟩; clear HSAME; have BP7 := BP6.mono hb7; have BQ7 := BQ6.mono hb7; have hb8 := bt hb6 hb7; have hbr8 := bt hbr hb7; clear CP CO CQ; have CP := BP7.cell; have CQ := BQ7.cell)
        | (go_at_call 12; have _q := HMAY; clear _q; go_must (refine (HMAY.out _ hb8).mono ?_); clear HMAY; rintro e w9 ⟨rfl, hb9⟩; have BP9 := BP7.mono hb9; have BQ9 := BQ7.mono hb9; have hb10 := bt hb8 hb9; have hbr10 := bt hbr8 hb9; clear CP CQ; have CP := BP9.cell; have CQ := BQ9.cell)
        | (go_at_call 12; have _q := HMAYQ; clear _q; go_must (refine (HMAYQ.out _ hbr10).mono ?_); clear HMAYQ; rintro e w11 ⟨rfl, hb11⟩; have BP11 := BP9.mono hb11; have BQ11 := BQ9.mono hb11; have hb12 := bt hb10 hb11; have hbr12 := bt hbr10 hb11; clear CP CQ; have CP := BP11.cell; have CQ := BQ11.cell)
        | (go_at_call 11; go_must (refine (HCKQ.out _ hbr12).mono ?_); clear HCKQ; rintro e w13 ⟨rfl, hb13⟩; have BP13 := BP11.mono hb13; have BQ13 := BQ11.mono hb13; have hb14 := bt hb12 hb13; have hbr14 := bt hbr12 hb13; clear CP CQ; have CP := BP13.cell; have CQ := BQ13.cell))
      clear BP6 BP7 BP9 BP11 BQ6 BQ7 BQ9 BQ11 hb6 hb8 hb10 hb12 hbr8 hbr10 hbr12 hb7 hb9 hb11 hb13 hbr hb4
      have HCP2 := Lib.hid (copy_c p w13 S P B c1 c2 c3 (HROW.out.1.mono hb14) (HROW.out.2.1.mono hb14) (HROW.out.2.2.mono hb14) HSM.out)
      go_upto_region 12 with (go_at_call 10; go_must (refine HCP2.out.mono ?_); rintro e w15 ⟨sv, pv, bv, ovs, rfl, hcp, hb15⟩; obtain ⟨S2, P2, B2, c12, c22, c32, rfl, rfl, rfl, hS2, hP2, -⟩ := copied_rows hcp (fun b hb => by have := HOPS.out b hb; unfold maxLen; omega))
      clear HCP2 hcp
      obtain ⟨W15, hW15⟩ : ∃ W15, W15 = w15.alloc (.cells (irV p S2 P2 B2 c12 c22 c32) 26) := ⟨_, rfl⟩
      rw [← hW15]
      have hbx : Below w15.heap.size w15 W15 := by rw [hW15]; exact (Below.refl _ _).alloc (Nat.le_refl _) _
      have BB15 : Bk W15 w15.heap.size (irV p S2 P2 B2 c12 c22 c32) 26 := by rw [hW15]; exact Bk.new w15 _ _
      have HB0 : Hid (w.heap.size ≤ w15.heap.size ∧ W5.heap.size ≤ w15.heap.size ∧ w13.heap.size ≤ w15.heap.size) := Lib.hid ⟨(bt hb14 hb15).size, (bt hbr14 hb15).size, hb15.size⟩
      have BP15 := BP13.mono (bt hb15 hbx)
      have BQ15 := BQ13.mono (bt hb15 hbx)
      have hb16 := bt hb14 (bt hb15 hbx)
      have hbr16 := bt hbr14 (bt hb15 hbx)
      have hne1 : w.heap.size ≠ w15.heap.size := by have := BP13.lt; have := hb15.size; omega
      have hne2 : qb ≠ w15.heap.size := by have := BQ13.lt; have := hb15.size; omega
      obtain ⟨bb, hbb⟩ : ∃ bb, bb = w15.heap.size := ⟨_, rfl⟩
      have HX : Hid (Below w15.heap.size w15 W15 ∧ w15.heap.size ≤ bb) := Lib.hid ⟨hbx, by omega⟩
      rw [← hbb] at BB15 HB0 hne1 hne2 ⊢
      clear hW15 hbx hb15 hb14 hbr14 BP13 BQ13 CP CQ hbb
      have CP := BP15.cell
      have CQ := BQ15.cell
      have CB := BB15.cell
      have FB := BB15.free
      go_upto_region 13 with (fail)
      obtain ⟨W17, hW17⟩ : ∃ W17, W17 = W15.setCell ⟨bb, 2, none⟩ (.slice ba q.blk.length bk) := ⟨_, rfl⟩
      rw [← hW17]
      have BB17 : Bk W17 bb (irV q S2 P2 ba c12 c22 bk) 26 := by rw [hW17]; unfold irV; rw [HSEC.out, HPAR.out]; exact BB15.set 2 _
      have BP17 : Bk W17 w.heap.size (irV p S P B c1 c2 c3) 26 := by rw [hW17]; exact BP15.other hne1 _
      have BQ17 : Bk W17 qb (irV q sa pa ba sc pc bk) 26 := by rw [hW17]; exact BQ15.other hne2 _
      have hb17 : Below w.heap.size w W17 := by rw [hW17]; exact hb16.setCell (p := ⟨bb, 2, none⟩) HB0.out.1 _
      have hbr17 : Below W5.heap.size W5 W17 := by rw [hW17]; exact hbr16.setCell (p := ⟨bb, 2, none⟩) HB0.out.2.1 _
      have hbc17 : Below w15.heap.size w15 W17 := by rw [hW17]; exact HX.out.1.setCell (p := ⟨bb, 2, none⟩) HX.out.2 _
      have HSAM : Hid (Calls Tryz.prog 13 #[.agg (irV q S2 P2 ba c12 c22 bk), .agg (irV q sa pa ba sc pc bk)] W17 fun e w' => e = .returned (.bool true) ∧ Below W17.heap.size W17 w') := Lib.hid (same18_c q W17 S2 P2 ba sa pa ba c12 c22 bk sc pc bk (by rw [HSEC.out]; exact hS2.mono hbc17) (by rw [HPAR.out]; exact hP2.mono hbc17) (HQR.out.2.2.mono hbr17) (HQR.out.1.mono hbr17) (HQR.out.2.1.mono hbr17) (HQR.out.2.2.mono hbr17) HQS.out)
      clear hW17 BB15 BP15 BQ15 CP CQ CB FB hb16 hbr16 hbc17 HX HB0 hS2 hP2 hne1 hne2
      have CP := BP17.cell
      have CQ := BQ17.cell
      have CB := BB17.cell
      have HRP3 := Lib.hid (HROW.out.2.2.mono hb17)
      have HRQ3 := Lib.hid (HQR.out.2.2.mono hbr17)
      go_upto_region 15 with (go_at_call 13; go_must (refine HSAM.out.mono ?_); rintro e w19 ⟨rfl, hb19⟩; have BP19 := BP17.mono hb19; have BQ19 := BQ17.mono hb19; have hb20 := bt hb17 hb19; have HRP4 := Lib.hid (HRP3.out.mono hb19); have HRQ4 := Lib.hid (HRQ3.out.mono hb19); clear CP CQ CB)
      clear BP17 BQ17 BB17 hb17 hbr17 hb19 HSAM HRP3 HRQ3 HROW HQR HSM HSEC HPAR HQI HQC HIM HOPS hbd hql
      go_wp2_with fail
      go_loopw [7] (fun s wr => ∃ k : Nat, k ≤ p.blk.length ∧ s = .int .i64 k ∧ Below w19.heap.size w19 wr) (fun s _ => p.blk.length - (intOf s).toNat)
      case atStart => exact ⟨0, Nat.zero_le _, rfl, Below.refl _ _⟩
      case round =>
        obtain ⟨k, hk, rfl, hbw⟩ := hrel
        have BPr := BP19.mono hbw
        have BQr := BQ19.mono hbw
        have hb21 := bt hb20 hbw
        have CP := BPr.cell
        have CQ := BQr.cell
        by_cases hlt : k < p.blk.length
        · have hlq : k < q.blk.length := by rw [HQL.out]; exact hlt
          have hql : (q.blk.length : Int) = (p.blk.length : Int) := by rw [HQL.out]
          obtain ⟨b1, o1, O1, oc1, rfl, g0, g1, g2, g3, g4, gm, hO1⟩ := kBlock_at (HRP4.out.mono hbw) k hlt
          obtain ⟨b2, o2, O2, oc2, rfl, f0, f1, f2, f3, f4, fm, hO2⟩ := kBlock_at (HRQ4.out.mono hbw) k hlq
          obtain ⟨k1, k2, k3, k4⟩ := HKEPT.out k hlt hlq
          have hsz1 : p.blk[k].ops.length ≤ 100000 := HSZ.out _ (List.getElem_mem hlt)
          have hsz2 : q.blk[k].ops.length ≤ 100000 := by have := HQS.out.each _ (List.getElem_mem hlq); omega
          have HKC : Hid (∀ w4, Below wr.heap.size wr w4 → Calls Tryz.prog 16 #[.agg (blkC5 (.slice O1 p.blk[k].ops.length oc1) p.blk[k].e p.blk[k].a p.blk[k].go p.blk[k].els), .agg (blkC5 (.slice O2 q.blk[k].ops.length oc2) q.blk[k].e q.blk[k].a q.blk[k].go q.blk[k].els)] w4 fun e w' => e = .returned (.bool true) ∧ Below w4.heap.size w4 w') := Lib.hid fun w4 h => kept_c p.blk[k] q.blk[k] O1 O2 oc1 oc2 w4 (hO1.mono h) (hO2.mono h) hsz1 hsz2 k1 k2 k3 k4
          have HBC : Hid (∀ w4, Below wr.heap.size wr w4 → Calls Tryz.prog 17 #[.agg (blkC5 (.slice O2 q.blk[k].ops.length oc2) q.blk[k].e q.blk[k].a q.blk[k].go q.blk[k].els)] w4 fun e w' => e = .returned (.bool true) ∧ Below w4.heap.size w4 w') := Lib.hid fun w4 h => by
            have := bare_c q.blk[k] O2 oc2 w4 (hO2.mono h) hsz2 (HKIN.out _ (List.getElem_mem hlq))
            rw [HBARE.out _ (List.getElem_mem hlq)] at this
            exact this
          have hlti : (k : Int) < (q.blk.length : Int) := by omega
          have hkb : k ≤ 1000 := by have := HQS.out.blk; omega
          clear k1 k2 k3 k4 hsz1 hsz2 hO1 hO2 hql gm fm HKEPT HBARE HKIN HSZ HQL HQS
          have HSX : Hid (∀ V, Below wr.heap.size wr V → V.cell? ⟨w.heap.size, 2, none⟩ = some (.slice (some ⟨b1, o1, none⟩) p.blk.length c3) ∧ V.cell? ⟨qb, 2, none⟩ = some (.slice (some ⟨b2, o2, none⟩) q.blk.length bk) ∧ V.cell? ⟨b1, o1 + k * 5, none⟩ = some (.slice O1 p.blk[k].ops.length oc1) ∧ V.cell? ⟨b1, o1 + k * 5 + 1, none⟩ = some (.int .u8 p.blk[k].e) ∧ V.cell? ⟨b1, o1 + k * 5 + 2, none⟩ = some (.int .i64 p.blk[k].a) ∧ V.cell? ⟨b1, o1 + k * 5 + 3, none⟩ = some (.int .i64 p.blk[k].go) ∧ V.cell? ⟨b1, o1 + k * 5 + 4, none⟩ = some (.int .i64 p.blk[k].els) ∧ V.cell? ⟨b2, o2 + k * 5, none⟩ = some (.slice O2 q.blk[k].ops.length oc2) ∧ V.cell? ⟨b2, o2 + k * 5 + 1, none⟩ = some (.int .u8 q.blk[k].e) ∧ V.cell? ⟨b2, o2 + k * 5 + 2, none⟩ = some (.int .i64 q.blk[k].a) ∧ V.cell? ⟨b2, o2 + k * 5 + 3, none⟩ = some (.int .i64 q.blk[k].go) ∧ V.cell? ⟨b2, o2 + k * 5 + 4, none⟩ = some (.int .i64 q.blk[k].els)) := Lib.hid fun V hV => ⟨(BPr.mono hV).cell 2, (BQr.mono hV).cell 2, cm g0 hV, cm g1 hV, cm g2 hV, cm g3 hV, cm g4 hV, cm f0 hV, cm f1 hV, cm f2 hV, cm f3 hV, cm f4 hV⟩
          go_upto_region 18 with (fail)
          clear g0 g1 g2 g3 g4 f0 f1 f2 f3 f4 CP CQ
          refine start_ (n := 21) (S := fun w' => w'.cell? ⟨w.heap.size, 2, none⟩ = some (.slice (some ⟨b1, o1, none⟩) p.blk.length c3) ∧ w'.cell? ⟨qb, 2, none⟩ = some (.slice (some ⟨b2, o2, none⟩) q.blk.length bk) ∧ w'.cell? ⟨b1, o1 + k * 5, none⟩ = some (.slice O1 p.blk[k].ops.length oc1) ∧ w'.cell? ⟨b1, o1 + k * 5 + 1, none⟩ = some (.int .u8 p.blk[k].e) ∧ w'.cell? ⟨b1, o1 + k * 5 + 2, none⟩ = some (.int .i64 p.blk[k].a) ∧ w'.cell? ⟨b1, o1 + k * 5 + 3, none⟩ = some (.int .i64 p.blk[k].go) ∧ w'.cell? ⟨b1, o1 + k * 5 + 4, none⟩ = some (.int .i64 p.blk[k].els) ∧ w'.cell? ⟨b2, o2 + k * 5, none⟩ = some (.slice O2 q.blk[k].ops.length oc2) ∧ w'.cell? ⟨b2, o2 + k * 5 + 1, none⟩ = some (.int .u8 q.blk[k].e) ∧ w'.cell? ⟨b2, o2 + k * 5 + 2, none⟩ = some (.int .i64 q.blk[k].a) ∧ w'.cell? ⟨b2, o2 + k * 5 + 3, none⟩ = some (.int .i64 q.blk[k].go) ∧ w'.cell? ⟨b2, o2 + k * 5 + 4, none⟩ = some (.int .i64 q.blk[k].els)) (ds := []) (bz 21 0) (by kernel_rfl) rfl rfl (HSX.out _ (Below.refl _ _).drew) (fun hHeld => ?_)
          have hB0 : Below wr.heap.size wr wr.drew := (Below.refl _ _).drew
          refine pure_ (i := 0) (N := (some 72)) (v := ?_) (a' := ?_) (bz 21 1) rfl rfl (by kernel_rfl) (fun _ _ _ h => h) (Or.inl ⟨by rfl, ?_⟩) ?_ ?_
          rotate_left
          · intro w'
            go_simp
            with_reducible rfl
          rotate_left
          · simp only [Act.put, sa_, sb_, sc_]
            rfl
          refine pure_ (i := 2) (N := (some 74)) (v := ?_) (a' := ?_) (bz 21 5) rfl rfl (by kernel_rfl) (fun _ _ _ h => h) (Or.inl ⟨by rfl, ?_⟩) ?_ ?_
          rotate_left
          · intro w'
            go_simp
            with_reducible rfl
          rotate_left
          · simp only [Act.put, sa_, sb_, sc_]
            rfl
          refine pure_ (i := 5) (N := (some 77)) (v := ?_) (a' := ?_) (bz 21 37) rfl rfl (by kernel_rfl) (fun _ _ _ h => h) (Or.inl ⟨by rfl, ?_⟩) ?_ ?_
          rotate_left
          · intro w'
            go_simp
            with_reducible rfl
          rotate_left
          · simp only [Act.put, sa_, sb_, sc_]
            rfl
          refine pure_ (i := 7) (N := (some 79)) (v := ?_) (a' := ?_) (bz 21 165) rfl rfl (by kernel_rfl) (fun _ _ _ h => h) (Or.inl ⟨by rfl, ?_⟩) ?_ ?_
          rotate_left
          · intro w'
            go_simp
            with_reducible rfl
          rotate_left
          · simp only [Act.put, sa_, sb_, sc_]
            rfl
          refine take_ (i := 1) (N := (some 73)) (v := ?_) (a' := ?_) (bz 21 167) rfl rfl (by kernel_rfl) (fun _ _ _ h => h) (Or.inl ⟨by rfl, ?_⟩) hHeld ?_ ?_
          rotate_left
          · rintro w' ⟨s0, s1, s2, s3, s4, s5, s6, s7, s8, s9, s10, s11⟩
            go_simp
            with_reducible rfl
          rotate_left
          · simp only [Act.put, sa_, sb_, sc_]
            rfl
          refine pure_ (i := 3) (N := (some 75)) (v := ?_) (a' := ?_) (bz 21 175) rfl rfl (by kernel_rfl) (fun _ _ _ h => h) (Or.inl ⟨by rfl, ?_⟩) ?_ ?_
          rotate_left
          · intro w'
            go_simp
            with_reducible rfl
          rotate_left
          · simp only [Act.put, sa_, sb_, sc_]
            rfl
          refine take_ (i := 4) (N := (some 76)) (v := ?_) (a' := ?_) (bz 21 191) rfl rfl (by kernel_rfl) (fun _ _ _ h => h) (Or.inl ⟨by rfl, ?_⟩) hHeld ?_ ?_
          rotate_left
          · rintro w' ⟨s0, s1, s2, s3, s4, s5, s6, s7, s8, s9, s10, s11⟩
            go_simp
            with_reducible rfl
          rotate_left
          · simp only [Act.put, sa_, sb_, sc_]
            rfl
          refine take_ (i := 6) (N := (some 78)) (v := ?_) (a' := ?_) (bz 21 255) rfl rfl (by kernel_rfl) (fun _ _ _ h => h) (Or.inl ⟨by rfl, ?_⟩) hHeld ?_ ?_
          rotate_left
          · rintro w' ⟨s0, s1, s2, s3, s4, s5, s6, s7, s8, s9, s10, s11⟩
            go_simp
            with_reducible rfl
          rotate_left
          · simp only [Act.put, sa_, sb_, sc_]
            rfl
          refine pure_ (i := 8) (N := (some 80)) (v := ?_) (a' := ?_) (bz 21 511) rfl rfl (by kernel_rfl) (fun _ _ _ h => h) (Or.inl ⟨by rfl, ?_⟩) ?_ ?_
          rotate_left
          · intro w'
            go_simp
            with_reducible rfl
          rotate_left
          · simp only [Act.put, sa_, sb_, sc_]
            rfl
          refine take_ (i := 9) (N := (some 81)) (v := ?_) (a' := ?_) (bz 21 1023) rfl rfl (by kernel_rfl) (fun _ _ _ h => h) (Or.inl ⟨by rfl, ?_⟩) hHeld ?_ ?_
          rotate_left
          · rintro w' ⟨s0, s1, s2, s3, s4, s5, s6, s7, s8, s9, s10, s11⟩
            go_simp
            with_reducible rfl
          rotate_left
          · simp only [Act.put, sa_, sb_, sc_]
            rfl
          refine one_ (i := 10) (N := (some 82)) (bz 21 2047) rfl rfl (by kernel_rfl) (by decide) (fun K hK => ?_)
          refine goes_ Tryz.func16 (by kernel_rfl) rfl #[.agg (blkC5 (.slice O1 p.blk[k].ops.length oc1) p.blk[k].e p.blk[k].a p.blk[k].go p.blk[k].els), .agg (blkC5 (.slice O2 q.blk[k].ops.length oc2) q.blk[k].e q.blk[k].a q.blk[k].go q.blk[k].els)] (by rfl) rfl rfl (by (try simp only [List.map_toArray, List.map_cons, List.map_nil]); first | done | rfl) ?_
          refine (HKC.out _ hB0).mono ?_
          rintro e w22 ⟨rfl, hb22⟩
          have hB1 := bt hB0 hb22
          refine ⟨_, rfl, ?_⟩
          refine hK.out _ _ (HSX.out _ hB1) (fun hHeld => ?_)
          clear hK K
          refine norm_ (a' := ?_) ?_ ?_
          rotate_left
          · show Act.put _ (some 82) _ = _
            simp only [Act.put, sa_, sb_, sc_]
            rfl
          refine pure_ (i := 11) (N := (some 83)) (v := ?_) (a' := ?_) (bz 21 4095) rfl rfl (by kernel_rfl) (fun _ _ _ h => h) (Or.inl ⟨by rfl, ?_⟩) ?_ ?_
          rotate_left
          · intro w'
            go_simp
            with_reducible rfl
          rotate_left
          · simp only [Act.put, sa_, sb_, sc_]
            rfl
          refine pure_ (i := 12) (N := (some 84)) (v := ?_) (a' := ?_) (bz 21 8191) rfl rfl (by kernel_rfl) (fun _ _ _ h => h) (Or.inl ⟨by rfl, ?_⟩) ?_ ?_
          rotate_left
          · intro w'
            go_simp
            with_reducible rfl
          rotate_left
          · simp only [Act.put, sa_, sb_, sc_]
            rfl
          refine pure_ (i := 13) (N := (some 85)) (v := ?_) (a' := ?_) (bz 21 16383) rfl rfl (by kernel_rfl) (fun _ _ _ h => h) (Or.inl ⟨by rfl, ?_⟩) ?_ ?_
          rotate_left
          · intro w'
            go_simp
            with_reducible rfl
          rotate_left
          · simp only [Act.put, sa_, sb_, sc_]
            rfl
          refine pure_ (i := 15) (N := (some 87)) (v := ?_) (a' := ?_) (bz 21 49151) rfl rfl (by kernel_rfl) (fun _ _ _ h => h) (Or.inl ⟨by rfl, ?_⟩) ?_ ?_
          rotate_left
          · intro w'
            go_simp
            with_reducible rfl
          rotate_left
          · simp only [Act.put, sa_, sb_, sc_]
            rfl
          refine take_ (i := 14) (N := (some 86)) (v := ?_) (a' := ?_) (bz 21 65535) rfl rfl (by kernel_rfl) (fun _ _ _ h => h) (Or.inl ⟨by rfl, ?_⟩) hHeld ?_ ?_
          rotate_left
          · rintro w' ⟨s0, s1, s2, s3, s4, s5, s6, s7, s8, s9, s10, s11⟩
            go_simp
            with_reducible rfl
          rotate_left
          · simp only [Act.put, sa_, sb_, sc_]
            rfl
          refine pure_ (i := 16) (N := (some 88)) (v := ?_) (a' := ?_) (bz 21 131071) rfl rfl (by kernel_rfl) (fun _ _ _ h => h) (Or.inl ⟨by rfl, ?_⟩) ?_ ?_
          rotate_left
          · intro w'
            go_simp
            with_reducible rfl
          rotate_left
          · simp only [Act.put, sa_, sb_, sc_]
            rfl
          refine take_ (i := 17) (N := (some 89)) (v := ?_) (a' := ?_) (bz 21 262143) rfl rfl (by kernel_rfl) (fun _ _ _ h => h) (Or.inl ⟨by rfl, ?_⟩) hHeld ?_ ?_
          rotate_left
          · rintro w' ⟨s0, s1, s2, s3, s4, s5, s6, s7, s8, s9, s10, s11⟩
            go_simp
            with_reducible rfl
          rotate_left
          · simp only [Act.put, sa_, sb_, sc_]
            rfl
          refine one_ (i := 18) (N := (some 90)) (bz 21 524287) rfl rfl (by kernel_rfl) (by decide) (fun K hK => ?_)
          refine goes_ Tryz.func17 (by kernel_rfl) rfl #[.agg (blkC5 (.slice O2 q.blk[k].ops.length oc2) q.blk[k].e q.blk[k].a q.blk[k].go q.blk[k].els)] (by rfl) rfl rfl (by (try simp only [List.map_toArray, List.map_cons, List.map_nil]); first | done | rfl) ?_
          refine (HBC.out _ hB1).mono ?_
          rintro e w24 ⟨rfl, hb24⟩
          have hB2 := bt hB1 hb24
          refine ⟨_, rfl, ?_⟩
          refine hK.out _ _ (HSX.out _ hB2) (fun hHeld => ?_)
          clear hK K
          refine norm_ (a' := ?_) ?_ ?_
          rotate_left
          · show Act.put _ (some 90) _ = _
            simp only [Act.put, sa_, sb_, sc_]
            rfl
          refine pure_ (i := 19) (N := (some 91)) (v := ?_) (a' := ?_) (bz 21 1048575) rfl rfl (by kernel_rfl) (fun _ _ _ h => h) (Or.inl ⟨by rfl, ?_⟩) ?_ ?_
          rotate_left
          · intro w'
            go_simp
            with_reducible rfl
          rotate_left
          · simp only [Act.put, sa_, sb_, sc_]
            rfl
          refine pure_ (i := 20) (N := (some 92)) (v := ?_) (a' := ?_) (bz 21 2097151) rfl rfl (by kernel_rfl) (fun _ _ _ h => h) (Or.inl ⟨by rfl, ?_⟩) ?_ ?_
          rotate_left
          · intro w'
            go_simp
            with_reducible rfl
          rotate_left
          · simp only [Act.put, sa_, sb_, sc_]
            rfl
          refine done_ (by kernel_rfl) ?_
          go_wp2_with fail
          go_roundw
          case rel => exact ⟨k + 1, by omega, by go_num, bt hbw hB2⟩
          case measure => simp [intOf]; omega
        · have hkl : k = p.blk.length := by omega
          go_wp2_with fail
          refine (alive23_c _).mono ?_
          rintro e w21 ⟨rfl, hb22⟩
          go_wp2_with fail
          go_ret
          exact ⟨rfl, bt hb21 hb22⟩
end Go.Proofs.YtoabiignjkcdmaaGreat
