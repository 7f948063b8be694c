/-
  Lemmas (texts IrW24), each proved without a condition beyond its own hypotheses.
-/
import Derived.Test.YtoabiignjkcdmaaGreatFd13
namespace Go.Proofs.YtoabiignjkcdmaaGreat
open Go.RowKit
set_option linter.unusedVariables false
set_option linter.unusedSimpArgs false

set_option maxRecDepth 100000 in
set_option maxHeartbeats 4000000 in
theorem op_c4 (p : SIr) (fn d a b imm : Int) (S P B : Option Addr) (c1 c2 c3 : Nat) (w : World) (hs : kBool.Row w S p.sec) :
    Calls Tryz.prog 25 #[.agg #[.slice S p.sec.length c1, .slice P p.par.length c2, .slice B p.blk.length c3], .agg #[.int .u8 4, .int .u8 fn, .int .i64 d, .int .i64 a, .int .i64 b, .int .u64 imm]] w
      fun e w' => e = .returned (.bool (opS p ⟨4, fn, d, a, b, imm⟩)) ∧ Below w.heap.size w w' := by
  have kx := kidx 4 (by decide) (by decide)
  have F : kf 4 0 = true ∧ kf 4 1 = true ∧ kf 4 2 = true ∧ kf 4 3 = false ∧ kf 4 4 = false ∧ kf 4 5 = true ∧ kf 4 6 = false ∧ kf 4 7 = false ∧ kf 4 8 = false := by decide
  have HFl := Lib.hid F; clear F
  have W1 : Bk ((w.alloc (.cells #[.slice S p.sec.length c1, .slice P p.par.length c2, .slice B p.blk.length c3] 26)).alloc (.cells #[.int .u8 4, .int .u8 fn, .int .i64 d, .int .i64 a, .int .i64 b, .int .u64 imm] 54)) w.heap.size #[.slice S p.sec.length c1, .slice P p.par.length c2, .slice B p.blk.length c3] 26 := (Bk.new _ _ _).alloc _
  have W2 : Bk ((w.alloc (.cells #[.slice S p.sec.length c1, .slice P p.par.length c2, .slice B p.blk.length c3] 26)).alloc (.cells #[.int .u8 4, .int .u8 fn, .int .i64 d, .int .i64 a, .int .i64 b, .int .u64 imm] 54)) (w.heap.size + 1) #[.int .u8 4, .int .u8 fn, .int .i64 d, .int .i64 a, .int .i64 b, .int .u64 imm] 54 := Bk.newAt _ _ (by simp)
  have W3 : Below w.heap.size w ((w.alloc (.cells #[.slice S p.sec.length c1, .slice P p.par.length c2, .slice B p.blk.length c3] 26)).alloc (.cells #[.int .u8 4, .int .u8 fn, .int .i64 d, .int .i64 a, .int .i64 b, .int .u64 imm] 54)) := ((Below.refl _ _).alloc (Nat.le_refl _) _).alloc (by simp) _
  have HW := Lib.hid (And.intro W1 (And.intro W2 W3)); clear W1 W2 W3
  go_enter Tryz.func25, Tryz.ntmps25
  go_upto_region 3 with (fail)
  go_cut [5] (fun s5 wc => ∃ g, s5 = .pointer (some ⟨g, 0, none⟩) ∧ Bk wc w.heap.size #[.slice S p.sec.length c1, .slice P p.par.length c2, .slice B p.blk.length c3] 26 ∧ Bk wc (w.heap.size + 1) #[.int .u8 4, .int .u8 fn, .int .i64 d, .int .i64 a, .int .i64 b, .int .u64 imm] 54 ∧ Bk wc g #[.bool (kf 4 0), .bool (kf 4 1), .bool (kf 4 2), .bool (kf 4 3), .bool (kf 4 4), .bool (kf 4 5), .bool (kf 4 6), .bool (kf 4 7), .bool (kf 4 8)] 94 ∧ Below w.heap.size w wc)
  case first =>
    go_region_held3 (fun w' => w'.cell? ⟨w.heap.size + 1, 0, none⟩ = some (.int .u8 4)) (first | go_keep | (exact cm (by assumption) hb1)) (first | (go_at_call 50; refine (kinds_c _).mono ?_; rintro e w1 ⟨rfl, hb1⟩; have hc1 := (bcell hb1).1; have hf1 := (bcell hb1).2; have hz1 : w.heap.size + 1 < w1.heap.size := by (have hq := hb1.size; simp at hq; omega)))
    all_goals
      go_wp2
      go_meet
      case rel =>
        obtain ⟨W1, W2, W3⟩ := HW.out
        first
          | with_reducible exact ⟨_, rfl, (Bk.monoD W1 hb1).alloc _, (Bk.monoD W2 hb1).alloc _, Bk.new _ _ _, (btD W3 W3.size hb1).alloc (btD W3 W3.size hb1).size _⟩
          | (have A1 := Bk.monoAD W1 (by with_reducible exact hb1)
             have A2 := Bk.monoAD W2 (by with_reducible exact hb1)
             have A3 := btAD W3 W3.size (by with_reducible exact hb1)
             have A0 : Bk w1 (w.heap.size + 1 + 1) _ _ := Bk.newAD (by with_reducible exact hb1) (by simp)
             refine ⟨_, rfl, ?_, ?_, ?_, ?_⟩
             · repeat (refine Bk.other ?_ (by simp <;> omega) _)
               exact A1
             · repeat (refine Bk.other ?_ (by simp) _)
               exact A2
             · have A9 := (((((((((A0.set 0 (.bool (kf 4 0))).set 1 (.bool (kf 4 1))).set 2 (.bool (kf 4 2))).set 3 (.bool (kf 4 3))).set 4 (.bool (kf 4 4))).set 5 (.bool (kf 4 5))).set 6 (.bool (kf 4 6))).set 7 (.bool (kf 4 7))).set 8 (.bool (kf 4 8)))
               simp only [List.setIfInBounds_toArray, List.set_cons_zero, List.set_cons_succ] at A9
               with_reducible exact A9
             · repeat (refine Below.setCell ?_ (by simp <;> omega) _)
               exact A3)
  case rest =>
    obtain ⟨g, rfl, B1, B2, B3, hB⟩ := hcut
    clear HW kx
    have C1 := B1.cell; have C2 := B2.cell; have C3 := B3.cell
    replace hs := hs.mono hB
    have hBw : Below wc.heap.size wc wc := Below.refl _ _
    go_upto_region 4 with (fail)
    go_cut [56] (fun s wd => s = .bool (opV p.sec.length 4 d a b imm) ∧ Below wc.heap.size wc wd)
    case first =>
      go_wp2_with (go_at_call 44; refine (variable_c _ _ _).mono ?_; rintro e w1 ⟨rfl, hb⟩; replace B1 := B1.mono hb; replace B2 := B2.mono hb; replace B3 := B3.mono hb; replace C1 := B1.cell; replace C2 := B2.cell; replace C3 := B3.cell; replace hBw := bt hBw hb)
      all_goals
        go_meet
        case rel => exact ⟨by simp [opV, *], hBw⟩
    case rest =>
      obtain ⟨rfl, hBd⟩ := hcut
      clear C1 C2 C3 hBw
      replace B1 := B1.mono hBd; replace B2 := B2.mono hBd; replace B3 := B3.mono hBd; replace hs := hs.mono hBd
      have C1 := B1.cell; have C2 := B2.cell; have C3 := B3.cell
      replace hB := bt hB hBd
      cases hV : opV p.sec.length 4 d a b imm with
      | true =>
        go_wp2
        go_ret
        refine ⟨ret_bool ?_, hB⟩
        simp [opS, hV]
      | false =>
        have hv1 : kf 4 1 = true → 0 ≤ d ∧ d < (p.sec.length : Int) := fun h => varB_in (by simp [opV, h] at hV; exact hV.1.1.1)
        have hv2 : kf 4 2 = true → 0 ≤ a ∧ a < (p.sec.length : Int) := fun h => varB_in (by simp [opV, h] at hV; exact hV.1.1.2)
        have hv3 : kf 4 3 = true → 0 ≤ b ∧ b < (p.sec.length : Int) := fun h => varB_in (by simp [opV, h] at hV; exact hV.1.2)
        have HF : Hid (opS p ⟨4, fn, d, a, b, imm⟩ = opT 4 fn (kf 4 2 && secS p a) (kf 4 3 && secS p b) (kf 4 1 && secS p d)) := by
          show opS p ⟨4, fn, d, a, b, imm⟩ = _
          simp [opS, hV]
          try omega
        have hmf : ∀ (fn : Fn) (first cap : Array Value) (w : World), (Instr.makeFunc fn first cap).run Tryz.prog w = .ok (.func fn first cap) w := fun _ _ _ _ => rfl
        have HV := Lib.hid hV; clear hV
        have H1 := Lib.hid hv1; have H2 := Lib.hid hv2; have H3 := Lib.hid hv3; clear hv1 hv2 hv3
        go_upto_region 7 with (fail)
        go_cut [7, 8, 9] (fun s7 s8 s9 we => s7 = .bool (kf 4 2 && secS p a) ∧ s8 = .bool (kf 4 3 && secS p b) ∧ s9 = .bool (kf 4 1 && secS p d) ∧ Below wc.heap.size wc we)
        case first =>
          go_quiet ((go_at_call 51; refine Calls.quiet_of_same ((opSecret_c (sec := p.sec) _ _ _ (by exact C1 0) (hs.drewN _) ?_).mono fun _ _ ⟨h, e⟩ => ⟨h, e.symm⟩); first | exact H2.out | exact H3.out | exact H1.out))
          go_wp2
          go_meet
          case rel => exact ⟨rfl, rfl, rfl, below_drewN (Below.refl _ _) _⟩
        case rest =>
          obtain ⟨rfl, rfl, rfl, hBe⟩ := hcut
          clear C1 C2 C3
          replace B1 := B1.mono hBe; replace B2 := B2.mono hBe; replace B3 := B3.mono hBe
          have C1 := B1.cell; have C2 := B2.cell; have C3 := B3.cell
          replace hB := bt hB hBe
          clear hBe
          generalize (kf 4 2 && secS p a) = A at *
          generalize (kf 4 3 && secS p b) = Bb at *
          generalize (kf 4 1 && secS p d) = D at *
          obtain ⟨f0, f1, f2, f3, f4, f5, f6, f7, f8⟩ := HFl.out
          have f : ((fn == 1) = true ∧ ¬ 1 < fn) ∨ ((fn == 1) = false ∧ 1 < fn) ∨ ((fn == 1) = false ∧ fn < 1) := by
            rcases Int.lt_trichotomy fn 1 with h | h | h
            · exact Or.inr (Or.inr ⟨by simp; omega, h⟩)
            · exact Or.inl ⟨by simp [h], by omega⟩
            · exact Or.inr (Or.inl ⟨by simp; omega, h⟩)
          rcases f with ⟨f, fa⟩ | ⟨f, fa⟩ | ⟨f, fa⟩ <;> cases A <;> cases Bb <;> cases D
          all_goals
            go_wp2
            go_ret
            refine ⟨ret_bool ?_, hB⟩
            rw [HF.out]
            simp [opT, opE, opG, *]
            try omega

end Go.Proofs.YtoabiignjkcdmaaGreat
