/-
  Lemmas (texts FoldL4), each proved without a condition beyond its own hypotheses.
-/
import Derived.Test.YtoabiignjkcdmaaGreatFd44
import Derived.Test.YtoabiignjkcdmaaGreatFd38
namespace Go.Proofs.YtoabiignjkcdmaaGreat
open Go.RowKit
set_option linter.unusedVariables false
set_option linter.unusedSimpArgs false

theorem own_blk {w : World} {g n B sz : Nat} {e : TypeId} {cs : Array Value} (h : Bk w g cs e) (hB : B ≤ g) (hn : cs.size = n * sz) (hl : n ≤ 1000) : w.ownsRow B e sz (.slice (some ⟨g, 0, none⟩) n n) n cs.toList := by
  refine ⟨by simpa using hn, .inr ⟨g, n, cs, rfl, hB, h, Nat.le_refl _, by unfold maxLen; omega, hn, ?_⟩⟩
  have e : cs.toList.length = cs.size := Array.length_toList
  rw [← hn, ← e, List.take_length]
theorem sumTail_snoc (fn : Int) (l : List Int) (k : Nat) (h : k < l.length) : sumTail fn (l.take (k + 1)) = sumTail fn (l.take k) ++ [constOp 1 l[k], sumAlu fn] := by
  rw [List.take_succ_eq_append_getElem h]
  unfold sumTail
  rw [List.flatMap_append]
  rfl
theorem sum_imm {fn : Int} {l : List Int} (hf : 0 ≤ fn ∧ fn < 256) (hl : ∀ x ∈ l, 0 ≤ x ∧ x < 18446744073709551616) : ∀ b ∈ (sumP fn l).blk, ∀ o ∈ b.ops, ImmOk o := by
  intro b hb o ho
  obtain rfl : b = sumB fn l := by simpa [sumP] using hb
  have ho : o ∈ constOp 0 0 :: sumTail fn l := ho
  rcases List.mem_cons.1 ho with rfl | ho
  · exact immOk_const ⟨by decide, by decide⟩
  · obtain ⟨x, hx, ho⟩ := List.mem_flatMap.1 ho
    rcases List.mem_cons.1 ho with rfl | ho
    · exact immOk_const (hl x hx)
    · rcases List.mem_singleton.1 ho with rfl
      exact ⟨⟨by show (0 : Int) ≤ 0; decide, by show (0 : Int) < 18446744073709551616; decide⟩, hf⟩
theorem sum_len (fn : Int) (l : List Int) (hl : l.length ≤ 50) : ∀ b ∈ (sumP fn l).blk, b.ops.length ≤ 101 := by
  intro b hb
  obtain rfl : b = sumB fn l := by simpa [sumP] using hb
  show (constOp 0 0 :: sumTail fn l).length ≤ 101
  rw [List.length_cons, sumTail_length]
  omega
theorem sum_rok {fn : Int} {l : List Int} (hf : 0 ≤ fn ∧ fn < 256) (hl : ∀ x ∈ l, 0 ≤ x ∧ x < 18446744073709551616) (hn : l.length ≤ 50) : RunOk (sumP fn l) inZ :=
  ⟨by show (0 : Nat) ≤ 1000; decide, fun b hb => by have := sum_len fn l hn b hb; omega, sum_imm hf hl, by decide, by decide, fun b hb => by simp [inZ] at hb, fun b hb => by simp [inZ] at hb⟩
set_option maxRecDepth 100000 in
set_option maxHeartbeats 16000000 in
theorem foldSums_c (fn : Int) (l : List Int) (w : World) (A : Option Addr) (c : Nat) (hA : kU64.Row w A l) (hm : l.length ≤ 9223372036854775807) (hf : 0 ≤ fn ∧ fn < 256) (hl : ∀ x ∈ l, 0 ≤ x ∧ x < 18446744073709551616) :
    Calls Tryz.prog 7 #[.int .u8 fn, .slice A l.length c] w fun e w' => e = .returned (.bool true) ∧ Below w.heap.size w w' := by
  by_cases hbig : l.length ≤ 50 ∧ 1 ≤ fn ∧ fn ≤ 14
  case neg =>
    go_enter Tryz.func7, Tryz.ntmps7
    by_cases t1 : (50 : Int) < (l.length : Int)
    · go_wp2_with fail
      refine (alive23_c _).mono ?_
      rintro e w7 ⟨rfl, hb7⟩
      go_wp2_with fail
      go_ret
      exact ⟨rfl, hb7⟩
    · by_cases t2 : fn < 1
      · go_wp2_with fail
        refine (alive23_c _).mono ?_
        rintro e w7 ⟨rfl, hb7⟩
        go_wp2_with fail
        go_ret
        exact ⟨rfl, hb7⟩
      · have t3 : 14 < fn := by omega
        go_wp2_with fail
        refine (alive23_c _).mono ?_
        rintro e w7 ⟨rfl, hb7⟩
        go_wp2_with fail
        go_ret
        exact ⟨rfl, hb7⟩
  obtain ⟨hl50, h1, h14⟩ := hbig
  have t1 : ¬ (50 : Int) < (l.length : Int) := by omega
  have t2 : ¬ fn < 1 := by omega
  have t3 : ¬ 14 < fn := by omega
  have HLAW := Lib.hid (fold_sums fn l h1 h14 hl50)
  have HROK := Lib.hid (sum_rok hf hl hl50)
  have HCHK := Lib.hid (sum_check fn l h1 h14 hl50)
  have HLEN := Lib.hid (sum_len fn l hl50)
  clear h1 h14 hl hf
  have HMK := run_make_row' (P := Tryz.prog) 22 4 (.bool false) 1 Tryz.underlying22 infoBool rfl .i64 .i64 2 (by omega) (by omega)
  simp only [Int.cast_ofNat_Int] at HMK
  go_enter Tryz.func7, Tryz.ntmps7
  go_upto_region 4 with (fail)
  clear HMK
  obtain ⟨W1, hW1⟩ : ∃ W1, W1 = (w.alloc (.cells (madeCells #[.bool false] 2) 4)).alloc (.cells #[.slice (some ⟨w.heap.size, 0, none⟩) 2 2, .slice none 0 0, .slice none 0 0] 26) := ⟨_, rfl⟩
  refine Eq.mp (congrArg _ hW1) ?_
  have hb1 : Below w.heap.size w W1 := by rw [hW1]; exact ((Below.refl w.heap.size w).alloc (Nat.le_refl _) _).alloc (by simp) _
  have B0 : Bk W1 w.heap.size ([false, false].map Value.bool).toArray 4 := by rw [hW1, show ([false, false].map Value.bool).toArray = madeCells #[.bool false] 2 by kernel_rfl]; exact (Bk.new w _ _).alloc _
  have BP : Bk W1 (w.heap.size + 1) #[.slice (some ⟨w.heap.size, 0, none⟩) 2 2, .slice none 0 0, .slice none 0 0] 26 := by rw [hW1]; exact Bk.newAt _ _ (by simp)
  have hs1 : w.heap.size + 1 < W1.heap.size := BP.lt
  clear hW1
  have HA := Lib.hid hA
  clear hA
  go_wp2_with fail
  go_loopw [6, 7] (fun v s wr => ∃ k : Nat, k ≤ l.length ∧ s = .int .i64 k ∧ Below W1.heap.size W1 wr ∧ wr.ownsRow W1.heap.size 54 6 v (2 * k) ((sumTail fn (l.take k)).flatMap SOp.cells)) (fun _ s _ => l.length - (intOf s).toNat)
  case atStart => exact ⟨0, Nat.zero_le _, rfl, Below.refl _ _, nil_own _ _ _ _⟩
  case round =>
    obtain ⟨k, hk, rfl, hbw, how⟩ := hrel
    by_cases hlt : k < l.length
    · obtain ⟨g, o, rfl, hc⟩ := kU64_at' (HA.out.mono (bt hb1 hbw)) k hlt
      have BN : Bk (wr.alloc (.cells (opsC [constOp 1 l[k], sumAlu fn]).toArray 54)) wr.heap.size (opsC [constOp 1 l[k], sumAlu fn]).toArray 54 := Bk.new wr _ _
      have hbn : Below wr.heap.size wr (wr.alloc (.cells (opsC [constOp 1 l[k], sumAlu fn]).toArray 54)) := (Below.refl _ _).alloc (Nat.le_refl _) _
      have HRN := Lib.hid (rowOs BN)
      have HON := Lib.hid (own_below how hbn)
      have HSN := Lib.hid (bt hbw hbn).size
      have hk50 : k ≤ 50 := by omega
      clear BN
      go_upto_region 7 with (at_builtin; refine wpList_append_flat SOp.cells 6 (fun _ => rfl) (fun x u hu => by simp [SOp.cells] at hu; rcases hu with rfl | rfl | rfl | rfl | rfl | rfl <;> rfl) rfl _ _ 36 54 (.agg #[.int .u8 0, .int .u8 0, .int .i64 0, .int .i64 0, .int .i64 0, .int .u64 0]) 40 rfl Tryz.underlying36 infoOp rfl (by decide) W1.heap.size _ (2 * k) _ rfl HON.out (some ⟨wr.heap.size, 0, none⟩) 2 [constOp 1 l[k], sumAlu fn] rfl HRN.out (by simp; omega) (by simp; omega) HSN.out ?_; intro v2 w2 how2 hg2)
      have hbw2 : Below W1.heap.size W1 w2 := (bt hbw hbn).grown hg2 HSN.out (fun g e => own_from HON.out g e)
      have how3 : w2.ownsRow W1.heap.size 54 6 v2 (2 * (k + 1)) ((sumTail fn (l.take (k + 1))).flatMap SOp.cells) := by
        rw [sumTail_snoc fn l k hlt, List.flatMap_append]
        exact how2
      clear HRN HON HSN how how2 hg2 hbw hbn
      go_wp2_with fail
      go_roundw
      case rel => exact ⟨k + 1, by omega, by go_num, hbw2, how3⟩
      case measure => simp [intOf]; omega
    · have hkl : k = l.length := by omega
      rw [hkl, List.take_length] at how
      rw [← sumTail_length fn l] at how
      obtain ⟨A2, c2, rfl⟩ := own_shape' how
      clear hk hlt
      have hr2 : kOp.Row wr A2 (sumTail fn l) := row_of_flat how rfl
      have hlen2 : (sumTail fn l).length ≤ 100 := by rw [sumTail_length]; omega
      have BN : Bk (wr.alloc (.cells (opsC [constOp 0 0]).toArray 54)) wr.heap.size (opsC [constOp 0 0]).toArray 54 := Bk.new wr _ _
      have hbn : Below wr.heap.size wr (wr.alloc (.cells (opsC [constOp 0 0]).toArray 54)) := (Below.refl _ _).alloc (Nat.le_refl _) _
      have HON := Lib.hid (own_blk (B := wr.heap.size) (n := 1) (sz := 6) BN (Nat.le_refl _) (by rfl) (by decide))
      have HRN := Lib.hid (hr2.mono hbn)
      have HSN := Lib.hid hbn.size
      have BP2 := (BP.mono hbw).mono hbn
      have hbw1 := bt hb1 hbw
      have hplt : w.heap.size + 1 < wr.heap.size := Nat.lt_of_lt_of_le hs1 hbw.size
      have B02 := (B0.mono hbw).mono hbn
      clear BN how hr2
      go_upto_region 9 with (fail)
      go_upto_region 10 with (at_builtin; go_must (refine wpList_append_flat SOp.cells 6 (fun _ => rfl) (fun x u hu => by simp [SOp.cells] at hu; rcases hu with rfl | rfl | rfl | rfl | rfl | rfl <;> rfl) rfl _ _ 36 54 (.agg #[.int .u8 0, .int .u8 0, .int .i64 0, .int .i64 0, .int .i64 0, .int .u64 0]) 40 rfl Tryz.underlying36 infoOp rfl (by decide) wr.heap.size _ 1 _ rfl HON.out A2 c2 (sumTail fn l) rfl HRN.out (by omega) (by omega) HSN.out ?_); intro v2 w2 how2 hg2; go_must (obtain ⟨A3, c3, rfl⟩ := own_shape' how2; have BP3 := BP2.grown hg2 (fun e => own_ge HON.out hplt e.symm)); have CP3 : ∀ ob j, (w2.alloc ob).cell? ⟨w.heap.size + 1, j, none⟩ = _ := fun ob => (BP3.alloc ob).cell; have FP3 : ∀ ob j, (w2.alloc ob).frozen? ⟨w.heap.size + 1, j, none⟩ = _ := fun ob => (BP3.alloc ob).free)
      have hops : (sumB fn l).ops.length = 1 + (sumTail fn l).length := by show (constOp 0 0 :: sumTail fn l).length = _; rw [List.length_cons]; omega
      obtain ⟨W2, hW2⟩ : ∃ W2, W2 = (w2.alloc (.cells #[.slice A3 (1 + (sumTail fn l).length) c3, .int .u8 3, .int .i64 0, .int .i64 0, .int .i64 0] 38)).setCell ⟨w.heap.size + 1, 2, none⟩ (.slice (some ⟨w2.heap.size, 0, none⟩) 1 1) := ⟨_, rfl⟩
      refine Eq.mp (congrArg _ hW2) ?_
      have hba := (Below.refl w2.heap.size w2).alloc (Nat.le_refl _) (.cells #[.slice A3 (1 + (sumTail fn l).length) c3, .int .u8 3, .int .i64 0, .int .i64 0, .int .i64 0] 38)
      have hw2s : wr.heap.size ≤ w2.heap.size := Nat.le_trans hbn.size hg2.size
      have hb0w : Below w.heap.size w w2 := (bt hbw1 hbn).grown hg2 (Nat.le_trans hbw1.size HSN.out) (fun g e => by have := own_from HON.out g e; have := hbw1.size; omega)
      have hb3 : Below w.heap.size w W2 := by rw [hW2]; exact (bt hb0w hba).setCell (p := ⟨w.heap.size + 1, 2, none⟩) (Nat.le_succ _) _
      have hne : w.heap.size ≠ w.heap.size + 1 := by omega
      have hne2 : w2.heap.size ≠ w.heap.size + 1 := by omega
      have B0W : Bk W2 w.heap.size ([false, false].map Value.bool).toArray 4 := by rw [hW2]; exact ((B02.grown hg2 (fun e => own_ge HON.out (by omega) e.symm)).alloc _).other hne _
      have BPW : Bk W2 (w.heap.size + 1) #[.slice (some ⟨w.heap.size, 0, none⟩) 2 2, .slice none 0 0, .slice (some ⟨w2.heap.size, 0, none⟩) 1 1] 26 := by rw [hW2]; exact (BP3.alloc _).set 2 _
      have BBW : Bk W2 w2.heap.size #[.slice A3 (sumB fn l).ops.length c3, .int .u8 (sumB fn l).e, .int .i64 (sumB fn l).a, .int .i64 (sumB fn l).go, .int .i64 (sumB fn l).els] 38 := by rw [hW2, hops]; exact (Bk.new w2 _ _).other hne2 _
      have how3 : w2.ownsRow wr.heap.size 54 6 (.slice A3 (1 + (sumTail fn l).length) c3) (1 + (sumTail fn l).length) ((constOp 0 0 :: sumTail fn l).flatMap SOp.cells) := by
        rw [List.flatMap_cons]
        exact how2
      have how4 : W2.ownsRow wr.heap.size 54 6 (.slice A3 (1 + (sumTail fn l).length) c3) (1 + (sumTail fn l).length) ((constOp 0 0 :: sumTail fn l).flatMap SOp.cells) := by
        rw [hW2]
        refine ownsRow_setCell_other (own_below how3 hba) ?_ _
        exact own_ge how3 hplt
      have hrO : kOp.Row W2 A3 (sumB fn l).ops := row_of_flat how4 hops.symm
      have hrS : kBool.Row W2 (some ⟨w.heap.size, 0, none⟩) (sumP fn l).sec := rowBs B0W
      have hrB : kBlock.Row W2 (some ⟨w2.heap.size, 0, none⟩) (sumP fn l).blk := rowK (b := sumB fn l) hrO (by have := HLEN.out (sumB fn l) (by simp [sumP]); omega) BBW
      have HF := Lib.hid (fold_of_c (sumP fn l) _ none _ 2 0 1 W2 hrS (.inl rfl) hrB (foldOk_of (by show (2 : Nat) ≤ 100000; decide) (by show (0 : Nat) ≤ 1000; decide) (fun b hb => by have := HLEN.out b hb; omega) (by show (1 : Nat) ≤ 100000; decide) (fun b hb o ho => HROK.out.opw b hb o ho)))
      have HRP : Hid (∀ w3, Below W2.heap.size W2 w3 → Calls Tryz.prog 19 #[.agg #[.slice (some ⟨w.heap.size, 0, none⟩) 2 2, .slice none 0 0, .slice (some ⟨w2.heap.size, 0, none⟩) 1 1], .agg #[.slice none 0 0, .slice none 0 0], .int .i64 0, .int .i64 1000] w3 (RunPost w3 (runS (sumP fn l) inZ 0 1000))) := Lib.hid fun w3 h => run_c (sumP fn l) inZ 0 1000 w3 _ none _ none none 2 0 1 0 0 (hrS.mono h) (.inl rfl) (hrB.mono h) (.inl rfl) (.inl rfl) HROK.out ⟨by decide, by decide⟩
      clear hW2 hba hb0w hw2s hne hne2 B0W BBW how2 how3 how4 hrO hrS hrB HON HRN HSN hbw1 hbn hg2 BP2 BP3 CP3 FP3 B02 hops hbw B0 BP hb1 hs1 HA
      have CP := BPW.cell
      go_upto_region 11 with (go_at_call 15; go_must (refine HF.out.mono ?_); rintro e w3 ⟨-, hp⟩; obtain ⟨ins, sv, pv, bv, vs, hfix, rfl, hcp, hb4⟩ := hp HCHK.out; obtain ⟨sa, pa, ba, sc, pc, bk, rfl, rfl, rfl, hq1, hq2, hq3⟩ := copied_rows hcp (fun b hb => by have := (HROK.out.fold ins).ops b hb; unfold maxLen; omega))
      obtain ⟨f1, f2, f3, f4, f5, f6⟩ := HLAW.out ins hfix
      have HQOK := Lib.hid (HROK.out.fold ins)
      have HB1 : Hid (∀ h : 0 < (foldS (sumP fn l) ins).blk.length, (foldS (sumP fn l) ins).blk[0].ops.length ≤ 1) := Lib.hid fun h => by
        have e : (foldS (sumP fn l) ins).blk[0] = cutB ins (forwardS (sumB fn l)) := by simp [foldS, cutS, forwardP, sumP]
        rw [e]
        exact f4
      obtain ⟨q, hq⟩ : ∃ q, foldS (sumP fn l) ins = q := ⟨_, rfl⟩
      rw [hq] at f2 f3 f5 f6 HB1 HQOK hq1 hq2 hq3 ⊢
      clear hq hcp hfix f4 HF HROK HLAW HCHK HLEN
      obtain ⟨W3, hW3⟩ : ∃ W3, W3 = w3.alloc (.cells (irV q sa pa ba sc pc bk) 26) := ⟨_, rfl⟩
      rw [← hW3]
      have hbx : Below w3.heap.size w3 W3 := by rw [hW3]; exact (Below.refl _ _).alloc (Nat.le_refl _) _
      have BQ4 : Bk W3 w3.heap.size (irV q sa pa ba sc pc bk) 26 := by rw [hW3]; exact Bk.new w3 _ _
      have HQR4 := Lib.hid (⟨hq1.mono hbx, hq2.mono hbx, hq3.mono hbx⟩ : kBool.Row W3 sa q.sec ∧ kHanded.Row W3 pa q.par ∧ kBlock.Row W3 ba q.blk)
      have hbd := bt hb4 hbx
      have hb5 := bt hb3 hbd
      have BP5 := BPW.mono hbd
      have HRP5 := Lib.hid (HRP.out _ hbd)
      obtain ⟨qb, hqb⟩ : ∃ qb, qb = w3.heap.size := ⟨_, rfl⟩
      rw [← hqb] at BQ4 ⊢
      generalize hr1 : runS (sumP fn l) inZ 0 1000 = r1 at f1 f5 HRP5
      generalize hr2 : runS q inZ 0 1000 = r2 at f2 f5 f6
      obtain ⟨o1, x1⟩ := r1
      obtain ⟨o2, x2⟩ := r2
      simp only at f1 f2 f5 f6
      subst f1
      subst f2
      have HR2 := Lib.hid hr2
      have hret : o1.ret = o2.ret := f5
      have HRET := Lib.hid hret
      have HF3 := Lib.hid f3
      have HF6 := Lib.hid f6
      clear f3 f6 hr1 hr2 f5 hret hW3 hbx hb4 hq1 hq2 hq3 hqb CP hb3 BPW HRP hbd
      have CP := BP5.cell
      have CQ := BQ4.cell
      go_upto_region 12 with (go_at_call 19; go_must (refine HRP5.out.mono ?_); rintro e w5 ⟨v, rfl, ⟨BS1, bc1, TS1, tc1, rfl, hO1⟩, hb6⟩; simp only at hO1 ⊢)
      obtain ⟨W5, hW5⟩ : ∃ W5, W5 = w5.alloc (.cells (outC o1 BS1 TS1 bc1 tc1) 48) := ⟨_, rfl⟩
      rw [← hW5]
      have hbx : Below w5.heap.size w5 W5 := by rw [hW5]; exact (Below.refl _ _).alloc (Nat.le_refl _) _
      have BO6 : Bk W5 w5.heap.size (outC o1 BS1 TS1 bc1 tc1) 48 := by rw [hW5]; exact Bk.new w5 _ _
      have hb7 := bt hb5 (bt hb6 hbx)
      have BQ6 := BQ4.mono (bt hb6 hbx)
      obtain ⟨hq1, hq2, hq3⟩ := HQR4.out
      have HRQ : Hid (Calls Tryz.prog 19 #[.agg (irV q sa pa ba sc pc bk), .agg #[.slice none 0 0, .slice none 0 0], .int .i64 0, .int .i64 1000] W5 (RunPost W5 (runS q inZ 0 1000))) := Lib.hid (run_c q inZ 0 1000 W5 sa pa ba none none sc pc bk 0 0 (hq1.mono (bt hb6 hbx)) (hq2.mono (bt hb6 hbx)) (hq3.mono (bt hb6 hbx)) (.inl rfl) (.inl rfl) HQOK.out ⟨by decide, by decide⟩)
      have HQ3 := Lib.hid (hq3.mono (bt hb6 hbx))
      obtain ⟨ob, hob⟩ : ∃ ob, ob = w5.heap.size := ⟨_, rfl⟩
      rw [← hob] at BO6 ⊢
      clear hW5 hbx hb5 hb6 hO1 BQ4 BP5 CP CQ hq1 hq2 hq3 hob HQR4 HRP5 HQOK
      have CQ := BQ6.cell
      have CO := BO6.cell
      go_upto_region 13 with (go_at_call 19; go_must (refine HRQ.out.mono ?_); rw [HR2.out]; rintro e w7 ⟨v, rfl, ⟨BS2, bc2, TS2, tc2, rfl, hO2⟩, hb8⟩; simp only at hO2 ⊢)
      obtain ⟨W7, hW7⟩ : ∃ W7, W7 = w7.alloc (.cells (outC o2 BS2 TS2 bc2 tc2) 48) := ⟨_, rfl⟩
      rw [← hW7]
      have hbx : Below w7.heap.size w7 W7 := by rw [hW7]; exact (Below.refl _ _).alloc (Nat.le_refl _) _
      have BO8 : Bk W7 w7.heap.size (outC o2 BS2 TS2 bc2 tc2) 48 := by rw [hW7]; exact Bk.new w7 _ _
      have hb9 := bt hb7 (bt hb8 hbx)
      have BQ8 := BQ6.mono (bt hb8 hbx)
      have BO1 := BO6.mono (bt hb8 hbx)
      have hq3 := HQ3.out.mono (bt hb8 hbx)
      have f3 := HF3.out
      have f6 := HF6.out
      have h0 : 0 < q.blk.length := by omega
      have hle1 := HB1.out h0
      obtain ⟨b1, bo, O, oc, rfl, g0, -⟩ := kBlock_at hq3 0 h0
      obtain ⟨b, hbe⟩ : ∃ b, q.blk[0] = b := ⟨_, rfl⟩
      rw [hbe] at g0 hle1
      simp only [Nat.zero_mul, Nat.add_zero] at g0
      obtain ⟨pb, hpb⟩ : ∃ pb, pb = w7.heap.size := ⟨_, rfl⟩
      rw [← hpb] at BO8 ⊢
      have hst : ¬ (3 : Int) < o2.steps := by omega
      have hst' : o2.steps ≤ 3 := by omega
      have hol : (b.ops.length : Int) ≤ 2 := by omega
      unfold irV at BQ8
      rw [f3] at BQ8
      have hr : o1.ret = o2.ret := HRET.out
      unfold outC at BO1
      rw [hr] at BO1
      clear hW7 hbx hb7 hb8 hO2 BQ6 BO6 CQ CO HRQ HR2 HQ3 hpb hbe hq3 HB1 HRET hr h0 f3 f6 HF3 HF6
      have CQ := BQ8.cell
      have CO := BO8.cell
      have C1 := BO1.cell
      go_wp2_with fail
      refine (alive23_c _).mono ?_
      rintro e w8 ⟨rfl, hb10⟩
      go_wp2_with fail
      go_ret
      exact ⟨rfl, bt hb9 hb10⟩
end Go.Proofs.YtoabiignjkcdmaaGreat
