/-
  Lemmas (texts FoldL2), each proved without a condition beyond its own hypotheses.
-/
import Derived.Test.YtoabiignjkcdmaaGreatFd44
namespace Go.Proofs.YtoabiignjkcdmaaGreat
open Go.RowKit
set_option linter.unusedVariables false
set_option linter.unusedSimpArgs false

set_option maxRecDepth 100000 in
set_option maxHeartbeats 16000000 in
theorem foldAgain_c (p : SIr) (inp : SIn) (arena fu : Int) (w : World) (S P B NA BA : Option Addr) (c1 c2 c3 nc bc : Nat) (hS : kBool.Row w S p.sec) (hP : kHanded.Row w P p.par) (hB : kBlock.Row w B p.blk) (hNA : kU64.Row w NA inp.nums) (hBA : kStr.Row w BA inp.bufs)
    (hm : p.sec.length ≤ 9223372036854775807 ∧ p.par.length ≤ 9223372036854775807 ∧ p.blk.length ≤ 9223372036854775807) (hok : Small p → RunOk p inp) (hops : ∀ b ∈ p.blk, b.ops.length ≤ 1000000000000000) (hn : inp.nums.length ≤ 9223372036854775807 ∧ inp.bufs.length ≤ 9223372036854775807) (hnc : inp.nums.length ≤ nc ∧ nc ≤ 9223372036854775807) (hf : 0 ≤ fu ∧ fu < 65536) :
    Calls Tryz.prog 6 #[.agg (irV p S P B c1 c2 c3), .agg (inV inp NA BA nc bc), .int .i64 arena, .int .u16 fu] w fun e w' => e = .returned (.bool true) ∧ Below w.heap.size w w' := by
  obtain ⟨W1, hW1⟩ : ∃ W1, W1 = (w.alloc (.cells (irV p S P B c1 c2 c3) 26)).alloc (.cells (inV inp NA BA nc bc) 43) := ⟨_, rfl⟩
  have hb1 : Below w.heap.size w W1 := by rw [hW1]; exact ((Below.refl w.heap.size w).alloc (Nat.le_refl _) _).alloc (by simp) _
  have BP : Bk W1 w.heap.size (irV p S P B c1 c2 c3) 26 := by rw [hW1]; exact (Bk.new w _ _).alloc _
  have BI : Bk W1 (w.heap.size + 1) (inV inp NA BA nc bc) 43 := by rw [hW1]; exact Bk.newAt _ _ (by simp)
  have HH := Lib.hid (heavy_c p inp W1 S P B NA BA c1 c2 c3 nc bc (hB.mono hb1) hm hops hn)
  obtain ⟨n, hnn⟩ : ∃ n, n = fu % 8000 := ⟨_, rfl⟩
  have hn0 : 0 ≤ n ∧ n < 8000 := by omega
  have HRQ : Hid (∀ (q : SIr) (w2 : World) (sa pa ba : Option Addr) (sc pc bk : Nat), Below w.heap.size w w2 → kBool.Row w2 sa q.sec → kHanded.Row w2 pa q.par → kBlock.Row w2 ba q.blk → RunOk q inp → Calls Tryz.prog 19 #[.agg (irV q sa pa ba sc pc bk), .agg (inV inp NA BA nc bc), .int .i64 arena, .int .i64 n] w2 (RunPost w2 (runS q inp arena n))) :=
    Lib.hid fun q w2 sa pa ba sc pc bk h2 h3 h4 h5 h6 => run_c q inp arena n w2 sa pa ba NA BA sc pc bk nc bc h3 h4 h5 (hNA.mono h2) (hBA.mono h2) h6 hnc
  have HROW := Lib.hid (⟨hS, hP, hB⟩ : kBool.Row w S p.sec ∧ kHanded.Row w P p.par ∧ kBlock.Row w B p.blk)
  have hmn : fu % 8000 = n := hnn.symm
  clear hnn hS hP hB hNA hBA
  obtain ⟨hf0, hf1⟩ := hf
  go_enter Tryz.func6, Tryz.ntmps6
  go_upto_region 1 with (fail)
  rw [← hW1]
  clear hW1
  have CP := BP.cell
  have CI := BI.cell
  go_wp2_with fail
  refine HH.out.mono ?_
  rintro e w2 ⟨r, rfl, hr, hb2⟩
  have hbw := bt hb1 hb2
  cases r with
  | true =>
    clear hr CP CI
    go_wp2_with fail
    refine (alive23_c _).mono ?_
    rintro e w3 ⟨rfl, hb3⟩
    go_wp2_with fail
    go_ret
    exact ⟨rfl, bt hbw hb3⟩
  | false =>
    have hsm := (hr rfl).1
    have hrok := hok hsm
    have hfok := foldOk_small hsm hrok
    obtain ⟨hS, hP, hB⟩ := HROW.out
    have BP2 := BP.mono hb2
    have BI2 := BI.mono hb2
    have HF := Lib.hid (fold_of_c p S P B c1 c2 c3 w2 (hS.mono hbw) (hP.mono hbw) (hB.mono hbw) hfok)
    have HOPS := Lib.hid hsm.each
    have HBL := Lib.hid hsm.blk
    have HFO := Lib.hid hfok
    have HOK := Lib.hid hrok
    clear hr CP CI BP BI hb2 HH hsm hS hP hB HROW hrok hfok hok hops hn hnc hm
    have CP := BP2.cell
    have CI := BI2.cell
    cases hck : checkS p with
    | false =>
      have HC := Lib.hid hck
      clear hck HRQ HOK HFO HOPS HBL
      go_upto_region 5 with (go_at_call 15; go_must (refine HF.out.mono ?_); rintro e w3 ⟨hz, -⟩; obtain ⟨rfl, hb3⟩ := hz HC.out; unfold zeroIr)
      clear hz
      obtain ⟨W3, hW3⟩ : ∃ W3, W3 = w3.alloc (.cells #[.slice none 0 0, .slice none 0 0, .slice none 0 0] 26) := ⟨_, rfl⟩
      rw [← hW3]
      have hbx : Below w3.heap.size w3 W3 := by rw [hW3]; exact (Below.refl _ _).alloc (Nat.le_refl _) _
      have hb4 := bt hbw (bt hb3 hbx)
      clear hW3 hbx hb3 hbw BP2 BI2 CP CI HF HC
      go_wp2_with fail
      refine (alive23_c _).mono ?_
      rintro e w7 ⟨rfl, hb7⟩
      go_wp2_with fail
      go_ret
      exact ⟨rfl, bt hb4 hb7⟩
    | true =>
      have HC := Lib.hid hck
      clear hck
      go_upto_region 5 with (go_at_call 15; go_must (refine HF.out.mono ?_); rintro e w3 ⟨-, hp⟩; obtain ⟨ins, sv, pv, bv, vs, hfix, rfl, hcp, hb3⟩ := hp HC.out; obtain ⟨sa, pa, ba, sc, pc, bk, rfl, rfl, rfl, hq1, hq2, hq3⟩ := copied_rows hcp (fun b hb => by have := (HOK.out.fold ins).ops b hb; unfold maxLen; omega))
      have HCQ := Lib.hid (checkS_fold ins HC.out)
      have HQOK := Lib.hid (HOK.out.fold ins)
      have HQFO := Lib.hid (HFO.out.fold ins HOK.out.opw)
      have HQOPS := Lib.hid (fold_opslen ins HOPS.out)
      have HQBL : Hid ((foldS p ins).blk.length ≤ 500) := Lib.hid (by rw [foldS_len]; exact HBL.out)
      obtain ⟨q, hq⟩ : ∃ q, foldS p ins = q := ⟨_, rfl⟩
      rw [hq] at HCQ HQOK HQFO HQOPS HQBL hq1 hq2 hq3 ⊢
      clear hq hcp hfix HC HF HOK HFO HOPS HBL
      obtain ⟨W3, hW3⟩ : ∃ W3, W3 = w3.alloc (.cells (irV q sa pa ba sc pc bk) 26) := ⟨_, rfl⟩
      rw [← hW3]
      have hbx : Below w3.heap.size w3 W3 := by rw [hW3]; exact (Below.refl _ _).alloc (Nat.le_refl _) _
      have BQ4 : Bk W3 w3.heap.size (irV q sa pa ba sc pc bk) 26 := by rw [hW3]; exact Bk.new w3 _ _
      have HQR4 := Lib.hid (⟨hq1.mono hbx, hq2.mono hbx, hq3.mono hbx⟩ : kBool.Row W3 sa q.sec ∧ kHanded.Row W3 pa q.par ∧ kBlock.Row W3 ba q.blk)
      have hb4 := bt hbw (bt hb3 hbx)
      have BI4 := BI2.mono (bt hb3 hbx)
      have HF2 := Lib.hid (fold_of_c q sa pa ba sc pc bk W3 HQR4.out.1 HQR4.out.2.1 HQR4.out.2.2 HQFO.out)
      obtain ⟨qb, hqb⟩ : ∃ qb, qb = w3.heap.size := ⟨_, rfl⟩
      rw [← hqb] at BQ4 ⊢
      clear hW3 hbx hb3 hbw BP2 BI2 CP CI hq1 hq2 hq3 hqb HQFO
      have CQ := BQ4.cell
      go_upto_region 8 with (go_at_call 15; go_must (refine HF2.out.mono ?_); rintro e w5 ⟨-, hp⟩; obtain ⟨ins2, sv, pv, bv, vs, hfix, rfl, hcp, hb5⟩ := hp HCQ.out; obtain ⟨ra, ta, ua, rc, tc, uc, rfl, rfl, rfl, hr1, hr2, hr3⟩ := copied_rows hcp (fun b hb => by have := (HQOK.out.fold ins2).ops b hb; unfold maxLen; omega))
      have HLAW := Lib.hid (fold_runs HCQ.out hfix inp arena n)
      have HROK := Lib.hid (HQOK.out.fold ins2)
      have HROPS := Lib.hid (fold_opslen ins2 HQOPS.out)
      have HRL := Lib.hid (foldS_len q ins2)
      have HSUM : Hid (sumOps (foldS q ins2).blk ≤ sumOps q.blk) := Lib.hid (sum_fold ins2 q.blk)
      obtain ⟨r, hr⟩ : ∃ r, foldS q ins2 = r := ⟨_, rfl⟩
      rw [hr] at HLAW HROK HROPS HRL HSUM hr1 hr2 hr3 ⊢
      clear hr hcp hfix HCQ HF2
      obtain ⟨W5, hW5⟩ : ∃ W5, W5 = w5.alloc (.cells (irV r ra ta ua rc tc uc) 26) := ⟨_, rfl⟩
      rw [← hW5]
      have hbx : Below w5.heap.size w5 W5 := by rw [hW5]; exact (Below.refl _ _).alloc (Nat.le_refl _) _
      have BR6 : Bk W5 w5.heap.size (irV r ra ta ua rc tc uc) 26 := by rw [hW5]; exact Bk.new w5 _ _
      have HRR6 := Lib.hid (⟨hr1.mono hbx, hr2.mono hbx, hr3.mono hbx⟩ : kBool.Row W5 ra r.sec ∧ kHanded.Row W5 ta r.par ∧ kBlock.Row W5 ua r.blk)
      have hb6 := bt hb4 (bt hb5 hbx)
      have BI6 := BI4.mono (bt hb5 hbx)
      have BQ6 := BQ4.mono (bt hb5 hbx)
      obtain ⟨hq1, hq2, hq3⟩ := HQR4.out
      have HQR6 := Lib.hid (⟨hq1.mono (bt hb5 hbx), hq2.mono (bt hb5 hbx), hq3.mono (bt hb5 hbx)⟩ : kBool.Row W5 sa q.sec ∧ kHanded.Row W5 pa q.par ∧ kBlock.Row W5 ba q.blk)
      obtain ⟨rb, hrb⟩ : ∃ rb, rb = w5.heap.size := ⟨_, rfl⟩
      rw [← hrb] at BR6 ⊢
      clear hW5 hbx hb5 hb4 BI4 BQ4 CQ hq1 hq2 hq3 hr1 hr2 hr3 hrb HQR4
      have CQ := BQ6.cell
      have CR := BR6.cell
      have hrl : (r.blk.length : Int) = (q.blk.length : Int) := by rw [HRL.out]
      go_upto_region 11 with (fail)
      clear hrl
      have hql := HQBL.out
      go_wp2_with fail
      go_loop [14, 15, 16] (fun m l s => ∃ k : Nat, k ≤ q.blk.length ∧ s = .int .i64 k ∧ m = .int .i64 (sumOps (q.blk.take k)) ∧ l = .int .i64 (sumOps (r.blk.take k)) ∧ sumOps (q.blk.take k) ≤ k * 3000 ∧ sumOps (r.blk.take k) ≤ k * 3000) (fun _ _ s => q.blk.length - (intOf s).toNat)
      case atStart => exact ⟨0, Nat.zero_le _, rfl, rfl, rfl, Nat.zero_le _, Nat.zero_le _⟩
      case round =>
        obtain ⟨k, hk, rfl, rfl, rfl, hs1, hs2⟩ := hrel
        by_cases hlt : k < q.blk.length
        · have hltr : k < r.blk.length := by rw [HRL.out]; exact hlt
          have hrl : (r.blk.length : Int) = (q.blk.length : Int) := by rw [HRL.out]
          obtain ⟨bb, bo, O, oc, rfl, g0, -, -, -, -, gm, -⟩ := kBlock_at HQR6.out.2.2 k hlt
          obtain ⟨bb2, bo2, O2, oc2, rfl, f0, -, -, -, -, fm, -⟩ := kBlock_at HRR6.out.2.2 k hltr
          have hol := HQOPS.out _ (List.getElem_mem hlt)
          have hor := HROPS.out _ (List.getElem_mem hltr)
          have hsn : sumOps (q.blk.take (k + 1)) = sumOps (q.blk.take k) + q.blk[k].ops.length := by rw [List.take_succ_eq_append_getElem hlt, sumOps_snoc]
          have hsr : sumOps (r.blk.take (k + 1)) = sumOps (r.blk.take k) + r.blk[k].ops.length := by rw [List.take_succ_eq_append_getElem hltr, sumOps_snoc]
          have HN : Hid ((sumOps (q.blk.take k) : Int) + (q.blk[k].ops.length : Int) = (sumOps (q.blk.take (k + 1)) : Int)) := Lib.hid (by rw [hsn]; push_cast; rfl)
          have HM : Hid ((sumOps (r.blk.take k) : Int) + (r.blk[k].ops.length : Int) = (sumOps (r.blk.take (k + 1)) : Int)) := Lib.hid (by rw [hsr]; push_cast; rfl)
          have HS := Lib.hid (show sumOps (q.blk.take (k + 1)) ≤ (k + 1) * 3000 by rw [hsn]; omega)
          have HT := Lib.hid (show sumOps (r.blk.take (k + 1)) ≤ (k + 1) * 3000 by rw [hsr]; omega)
          have hlti : (k : Int) < (r.blk.length : Int) := by omega
          clear hsn hsr hrl
          go_wp2_with fail
          go_round
          case rel => exact ⟨k + 1, by omega, by go_num, by rw [HN.out], by rw [HM.out], HS.out, HT.out⟩
          case measure => simp [intOf]; omega
        · have hkl : k = q.blk.length := by omega
          have htk : q.blk.take k = q.blk := by rw [hkl, List.take_length]
          have htr : r.blk.take k = r.blk := by rw [hkl, ← HRL.out, List.take_length]
          rw [htk] at hs1 ⊢
          rw [htr] at hs2 ⊢
          have hle0 : sumOps r.blk ≤ sumOps q.blk := HSUM.out
          obtain ⟨sq, hsq⟩ : ∃ sq, sumOps q.blk = sq := ⟨_, rfl⟩
          obtain ⟨sr, hsr⟩ : ∃ sr, sumOps r.blk = sr := ⟨_, rfl⟩
          rw [hsq] at hs1 hle0 ⊢
          rw [hsr] at hs2 hle0 ⊢
          have hle1 : (sr : Int) ≤ (sq : Int) := by omega
          have hle2 : ¬ ((sq : Int) < (sr : Int)) := by omega
          clear htk htr hsq hsr HSUM hs1 hs2
          obtain ⟨hq1, hq2, hq3⟩ := HQR6.out
          obtain ⟨hr1, hr2, hr3⟩ := HRR6.out
          have HRP := Lib.hid (HRQ.out q W5 sa pa ba sc pc bk hb6 hq1 hq2 hq3 HQOK.out)
          clear hq1 hq2 hq3 hr1 hr2 hr3
          have CI := BI6.cell
          generalize hr1 : runS q inp arena n = r1 at HLAW HRP
          obtain ⟨o1, x1⟩ := r1
          clear hr1
          go_upto_region 17 with (go_at_call 19; go_must (refine HRP.out.mono ?_); rintro e w7 ⟨v, rfl, ⟨BS1, bc1, TS1, tc1, rfl, hO1⟩, hb7⟩; simp only at hO1 ⊢)
          obtain ⟨W7, hW7⟩ : ∃ W7, W7 = w7.alloc (.cells (outC o1 BS1 TS1 bc1 tc1) 48) := ⟨_, rfl⟩
          rw [← hW7]
          have hbx : Below w7.heap.size w7 W7 := by rw [hW7]; exact (Below.refl _ _).alloc (Nat.le_refl _) _
          have BO8 : Bk W7 w7.heap.size (outC o1 BS1 TS1 bc1 tc1) 48 := by rw [hW7]; exact Bk.new w7 _ _
          have HA8 := Lib.hid (⟨hO1.1.mono hbx, hO1.2.1.mono hbx, hO1.2.2⟩ : kStr.Row W7 BS1 o1.bufs ∧ kU64.Row W7 TS1 o1.told ∧ o1.bufs.length ≤ 9223372036854775807 ∧ o1.told.length ≤ 9223372036854775807)
          have hb8 := bt hb6 (bt hb7 hbx)
          have BI8 := BI6.mono (bt hb7 hbx)
          have BR8 := BR6.mono (bt hb7 hbx)
          obtain ⟨hr1, hr2, hr3⟩ := HRR6.out
          have HRUN := Lib.hid (HRQ.out r W7 ra ta ua rc tc uc hb8 (hr1.mono (bt hb7 hbx)) (hr2.mono (bt hb7 hbx)) (hr3.mono (bt hb7 hbx)) HROK.out)
          have HOB : Hid (w.heap.size ≤ w7.heap.size) := Lib.hid (bt hb6 hb7).size
          obtain ⟨ob, hob⟩ : ∃ ob, ob = w7.heap.size := ⟨_, rfl⟩
          rw [← hob] at BO8 HOB ⊢
          clear hW7 hbx hb6 hb7 hO1 BI6 CI CQ CR HRP HRQ HROK HQOK HQR6 HRR6 hr1 hr2 hr3 BR6 BQ6 hob HQOPS HROPS HRL HQBL hql
          have CI := BI8.cell
          have CR := BR8.cell
          have CO := BO8.cell
          by_cases hx1 : x1 = 0
          · have t0 : (x1 != 0) = false := by rw [hx1]; rfl
            by_cases hen : o1.en = 0
            · have e0 : (o1.en == 0) = true := by rw [hen]; rfl
              clear hx1 hen HRUN HLAW
              go_wp2_with fail
              refine (alive23_c _).mono ?_
              rintro e w10 ⟨rfl, hb10⟩
              go_wp2_with fail
              go_ret
              exact ⟨rfl, bt hb8 hb10⟩
            · have e0 : (o1.en == 0) = false := by simpa using hen
              obtain ⟨s, hrq, hle⟩ := HLAW.out hx1 hen
              have HRE := Lib.hid hrq
              have HLE := Lib.hid hle
              clear hx1 hen hrq hle HLAW
              go_upto_region 20 with (go_at_call 19; go_must (refine HRUN.out.mono ?_); rw [HRE.out]; rintro e w9 ⟨v, rfl, ⟨BS2, bc2, TS2, tc2, rfl, hO2⟩, hb9⟩; simp only at hO2 ⊢)
              obtain ⟨W9, hW9⟩ : ∃ W9, W9 = w9.alloc (.cells (outC { o1 with steps := s } BS2 TS2 bc2 tc2) 48) := ⟨_, rfl⟩
              rw [← hW9]
              have hbx : Below w9.heap.size w9 W9 := by rw [hW9]; exact (Below.refl _ _).alloc (Nat.le_refl _) _
              have BO2 : Bk W9 w9.heap.size (outC { o1 with steps := s } BS2 TS2 bc2 tc2) 48 := by rw [hW9]; exact Bk.new w9 _ _
              have hb10 := bt hb8 (bt hb9 hbx)
              have BO10 := BO8.mono (bt hb9 hbx)
              obtain ⟨h1, h2, h3⟩ := HA8.out
              have HA10 := Lib.hid (⟨h1.mono (bt hb9 hbx), h2.mono (bt hb9 hbx), h3⟩ : kStr.Row W9 BS1 o1.bufs ∧ kU64.Row W9 TS1 o1.told ∧ o1.bufs.length ≤ 9223372036854775807 ∧ o1.told.length ≤ 9223372036854775807)
              have HB10 := Lib.hid (⟨hO2.1.mono hbx, hO2.2.1.mono hbx⟩ : kStr.Row W9 BS2 o1.bufs ∧ kU64.Row W9 TS2 o1.told)
              have hpb1 : ob < w9.heap.size := Nat.lt_of_lt_of_le BO8.lt hb9.size
              have hpb0 : w.heap.size ≤ ob := HOB.out
              obtain ⟨pb, hpb⟩ : ∃ pb, pb = w9.heap.size := ⟨_, rfl⟩
              rw [← hpb] at BO2 hpb1 ⊢
              have hpb2 : w.heap.size ≤ pb := Nat.le_trans hpb0 (Nat.le_of_lt hpb1)
              clear hpb
              clear hW9 hbx hb8 hb9 hO2 CI CR CO HRUN HRE h1 h2 h3 HA8 BO8 BI8 BR8 HOB
              have CO := BO10.cell
              have C2 := BO2.cell
              have FO := BO10.free
              have F2 := BO2.free
              have hle : s ≤ o1.steps := HLE.out
              have hle' : ¬ o1.steps < s := by omega
              go_upto_region 24 with (fail)
              obtain ⟨W11, hW11⟩ : ∃ W11, W11 = (W9.setCell ⟨ob, 5, none⟩ (.int .i64 0)).setCell ⟨pb, 5, none⟩ (.int .i64 0) := ⟨_, rfl⟩
              rw [← hW11]
              have BO11 : Bk W11 ob (outC { o1 with steps := 0 } BS1 TS1 bc1 tc1) 48 := by rw [hW11]; exact (BO10.set 5 _).other (Nat.ne_of_lt hpb1) _
              have BP11 : Bk W11 pb (outC { o1 with steps := 0 } BS2 TS2 bc2 tc2) 48 := by rw [hW11]; exact (BO2.other (Nat.ne_of_gt hpb1) _).set 5 _
              have hb11 : Below w.heap.size w W11 := by rw [hW11]; exact (hb10.setCell (p := ⟨ob, 5, none⟩) hpb0 _).setCell (p := ⟨pb, 5, none⟩) hpb2 _
              have cB : (W9.setCell ⟨ob, 5, none⟩ (.int .i64 0)).cell? ⟨pb, 5, none⟩ = some (.int .i64 s) := (BO2.other (Nat.ne_of_gt hpb1) _).cell 5
              obtain ⟨h1, h2, h3, h4⟩ := HA10.out
              obtain ⟨h5, h6⟩ := HB10.out
              have nS : ∀ (z : Int) (x : ByteArray), [Value.string x] ≠ [Value.int .i64 z] := fun z x e => by simp at e
              have nU : ∀ (z x : Int), [Value.int .u64 x] ≠ [Value.int .i64 z] := fun z x e => by simp at e
              have HSO := Lib.hid (sameOut_c { o1 with steps := 0 } _ _ W11
                ⟨BS1, bc1, TS1, tc1, rfl, by rw [hW11]; exact row1_set (row1_set h1 (CO 5) (nS _) _) cB (nS _) _, by rw [hW11]; exact row1_set (row1_set h2 (CO 5) (nU _) _) cB (nU _) _, h3, h4⟩
                ⟨BS2, bc2, TS2, tc2, rfl, by rw [hW11]; exact row1_set (row1_set h5 (CO 5) (nS _) _) cB (nS _) _, by rw [hW11]; exact row1_set (row1_set h6 (CO 5) (nU _) _) cB (nU _) _, h3, h4⟩)
              clear hW11 CO C2 FO F2 hle hle' h1 h2 h3 h4 h5 h6 cB HA10 HB10 BO10 BO2 hb10 hpb0 hpb1 hpb2 HLE
              have CO := BO11.cell
              have C2 := BP11.cell
              go_wp2_with (first
                | (go_at_call 20; go_must (refine HSO.out.mono ?_); rintro e w12 ⟨rfl, hb12⟩)
                | (go_at_call 14; go_must (refine (alive23_c _).mono ?_); rintro e w13 ⟨rfl, hb13⟩))
              go_ret
              exact ⟨rfl, bt (bt hb11 hb12) hb13⟩
          · have t0 : (x1 != 0) = true := by simpa using hx1
            clear hx1 HRUN HLAW
            go_wp2_with fail
            refine (alive23_c _).mono ?_
            rintro e w10 ⟨rfl, hb10⟩
            go_wp2_with fail
            go_ret
            exact ⟨rfl, bt hb8 hb10⟩
end Go.Proofs.YtoabiignjkcdmaaGreat
