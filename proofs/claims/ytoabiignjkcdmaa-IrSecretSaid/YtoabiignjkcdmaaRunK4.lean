/-
  IrFuel, walked.
-/
import Derived.Test.YtoabiignjkcdmaaRunK3
namespace Go.Proofs.Ytoabiignjkcdmaa
open Go.RowKit
set_option linter.unusedVariables false
set_option linter.unusedSimpArgs false

abbrev irV (p : SIr) (S P B : Option Addr) (c1 c2 c3 : Nat) : Array Value := #[.slice S p.sec.length c1, .slice P p.par.length c2, .slice B p.blk.length c3]
abbrev inV (inp : SIn) (NA BA : Option Addr) (nc bc : Nat) : Array Value := #[.slice NA inp.nums.length nc, .slice BA inp.bufs.length bc]
abbrev outC (o : SOut) (BS TS : Option Addr) (bc tc : Nat) : Array Value := #[.int .u8 o.en, .int .i64 o.trap, .int .u64 o.ret, .slice BS o.bufs.length bc, .slice TS o.told.length tc, .int .i64 o.steps]
set_option maxRecDepth 100000 in
set_option maxHeartbeats 16000000 in
theorem irFuel_c (p : SIr) (inp : SIn) (arena fu mo : Int) (w : World) (S P B NA BA : Option Addr) (c1 c2 c3 nc bc : Nat) (hS : kBool.Row w S p.sec) (hP : kHanded.Row w P p.par) (hB : kBlock.Row w B p.blk) (hNA : kU64.Row w NA inp.nums) (hBA : kStr.Row w BA inp.bufs)
    (hm : p.sec.length ≤ 9223372036854775807 ∧ p.par.length ≤ 9223372036854775807 ∧ p.blk.length ≤ 9223372036854775807) (hok : Small p → RunOk p inp) (hops : ∀ b ∈ p.blk, b.ops.length ≤ 1000000000000000) (hn : inp.nums.length ≤ 9223372036854775807 ∧ inp.bufs.length ≤ 9223372036854775807) (hnc : inp.nums.length ≤ nc ∧ nc ≤ 9223372036854775807) (hf : 0 ≤ fu ∧ fu < 65536) (hmo : 0 ≤ mo ∧ mo < 65536) :
    Calls Try.prog 3 #[.agg (irV p S P B c1 c2 c3), .agg (inV inp NA BA nc bc), .int .i64 arena, .int .u16 fu, .int .u16 mo] w fun e w' => e = .returned (.bool true) ∧ Below w.heap.size w w' := by
  obtain ⟨W1, hW1⟩ : ∃ W1, W1 = (w.alloc (.cells (irV p S P B c1 c2 c3) 26)).alloc (.cells (inV inp NA BA nc bc) 30) := ⟨_, rfl⟩
  have hb1 : Below w.heap.size w W1 := by rw [hW1]; exact ((Below.refl w.heap.size w).alloc (Nat.le_refl _) _).alloc (by simp) _
  have BP : Bk W1 w.heap.size (irV p S P B c1 c2 c3) 26 := by rw [hW1]; exact (Bk.new w _ _).alloc _
  have BI : Bk W1 (w.heap.size + 1) (inV inp NA BA nc bc) 30 := by rw [hW1]; exact Bk.newAt _ _ (by simp)
  have HH := Lib.hid (heavy_c p inp W1 S P B NA BA c1 c2 c3 nc bc (hB.mono hb1) hm hops hn)
  have HR : Hid (Small p → ∀ w2, Below w.heap.size w w2 → ∀ f : Int, Calls Try.prog 7 #[.agg (irV p S P B c1 c2 c3), .agg (inV inp NA BA nc bc), .int .i64 arena, .int .i64 f] w2 (RunPost w2 (runS p inp arena f))) :=
    Lib.hid fun hs w2 h2 f => run_c p inp arena f w2 S P B NA BA c1 c2 c3 nc bc (hS.mono h2) (hP.mono h2) (hB.mono h2) (hNA.mono h2) (hBA.mono h2) (hok hs) hnc
  obtain ⟨n, hnn⟩ : ∃ n, n = fu % 8000 := ⟨_, rfl⟩
  obtain ⟨k, hkk⟩ : ∃ k, k = mo % 8000 := ⟨_, rfl⟩
  have hn0 : 0 ≤ n ∧ n < 8000 := by omega
  have hk0 : 0 ≤ k ∧ k < 8000 := by omega
  have HL := Lib.hid (fuel_law p inp arena n k hn0.1 hk0.1 (by omega))
  have hmn : fu % 8000 = n := hnn.symm
  have hmk : mo % 8000 = k := hkk.symm
  clear hnn hkk
  obtain ⟨hf0, hf1⟩ := hf
  obtain ⟨hm0, hm1⟩ := hmo
  go_enter Try.func3, Try.ntmps3
  go_upto_region 1 with (fail)
  rw [← hW1]
  clear hW1
  have CP := BP.cell
  have CI := BI.cell
  go_wp2_with fail
  refine HH.out.mono ?_
  rintro e w2 ⟨r, rfl, hr, hb2⟩
  have hbw := bt hb1 hb2
  cases r with
  | true =>
    clear hr CP CI
    go_wp2_with fail
    refine (alive18_c _).mono ?_
    rintro e w3 ⟨rfl, hb3⟩
    go_wp2_with fail
    go_ret
    exact ⟨rfl, bt hbw hb3⟩
  | false =>
    have hsm := (hr rfl).1
    have HR2 := Lib.hid (HR.out hsm)
    have BP2 := BP.mono hb2
    have BI2 := BI.mono hb2
    clear hr CP CI BP BI hb2 HR HH hsm
    have CP := BP2.cell
    have CI := BI2.cell
    go_wp2_with fail
    refine (HR2.out _ hbw n).mono ?_
    generalize hr1 : runS p inp arena n = r1 at HL
    obtain ⟨o1, x1⟩ := r1
    have HR1 := Lib.hid hr1
    clear hr1
    rintro e w3 ⟨v, rfl, ⟨BS1, bc1, TS1, tc1, rfl, hO1⟩, hb3⟩
    have BP3 := BP2.mono hb3
    have BI3 := BI2.mono hb3
    have hbw3 := bt hbw hb3
    clear CP CI BP2 BI2 hbw hb3
    simp only at HL hO1 ⊢
    go_upto_region 5 with (fail)
    obtain ⟨W3, hW3⟩ : ∃ W3, W3 = w3.alloc (.cells (outC o1 BS1 TS1 bc1 tc1) 36) := ⟨_, rfl⟩
    rw [← hW3]
    have hbx : Below w3.heap.size w3 W3 := by rw [hW3]; exact (Below.refl _ _).alloc (Nat.le_refl _) _
    have BO1 : Bk W3 w3.heap.size (outC o1 BS1 TS1 bc1 tc1) 36 := by rw [hW3]; exact Bk.new w3 _ _
    have hA1 : OutAt o1 W3 (.agg (outC o1 BS1 TS1 bc1 tc1)) := ⟨BS1, bc1, TS1, tc1, rfl, hO1.1.mono hbx, hO1.2.1.mono hbx, hO1.2.2⟩
    have BP4 := BP3.mono hbx
    have BI4 := BI3.mono hbx
    have hbw4 := bt hbw3 hbx
    obtain ⟨ob, hob⟩ : ∃ ob, ob = w3.heap.size := ⟨_, rfl⟩
    rw [← hob] at BO1 ⊢
    clear hW3 hbx BP3 BI3 hbw3 hO1 hob
    have CP := BP4.cell
    have CI := BI4.cell
    go_wp2_with fail
    refine (HR2.out _ hbw4 (n + k)).mono ?_
    generalize hr2 : runS p inp arena (n + k) = r2 at HL
    obtain ⟨o2, x2⟩ := r2
    have HRB := Lib.hid hr2
    clear hr2
    rintro e w5 ⟨v, rfl, ⟨BS2, bc2, TS2, tc2, rfl, hO2⟩, hb5⟩
    have BP5 := BP4.mono hb5
    have BI5 := BI4.mono hb5
    have BO15 := BO1.mono hb5
    have hA15 := hA1.mono hb5
    have hbw5 := bt hbw4 hb5
    clear CP CI BP4 BI4 hbw4 hb5 BO1 hA1
    simp only at HL hO2 ⊢
    go_upto_region 6 with (fail)
    obtain ⟨W5, hW5⟩ : ∃ W5, W5 = w5.alloc (.cells (outC o2 BS2 TS2 bc2 tc2) 36) := ⟨_, rfl⟩
    rw [← hW5]
    have hbx : Below w5.heap.size w5 W5 := by rw [hW5]; exact (Below.refl _ _).alloc (Nat.le_refl _) _
    have BO2 : Bk W5 w5.heap.size (outC o2 BS2 TS2 bc2 tc2) 36 := by rw [hW5]; exact Bk.new w5 _ _
    have hA2 : OutAt o2 W5 (.agg (outC o2 BS2 TS2 bc2 tc2)) := ⟨BS2, bc2, TS2, tc2, rfl, hO2.1.mono hbx, hO2.2.1.mono hbx, hO2.2.2⟩
    have BP6 := BP5.mono hbx
    have BI6 := BI5.mono hbx
    have BO16 := BO15.mono hbx
    have hA16 := hA15.mono hbx
    have hbw6 := bt hbw5 hbx
    obtain ⟨pb, hpb⟩ : ∃ pb, pb = w5.heap.size := ⟨_, rfl⟩
    rw [← hpb] at BO2 ⊢
    clear hW5 hbx BP5 BI5 hbw5 hO2 hpb BO15 hA15
    obtain ⟨HL1, HL2⟩ := HL.out
    have HL1 := Lib.hid HL1
    have HL2 := Lib.hid HL2
    clear HL
    by_cases hx1 : x1 = 0
    · obtain ⟨hs0, hs1, hE, hN⟩ := HL2.out hx1
      have t0 : (x1 != 0) = false := by rw [hx1]; rfl
      have t1 : (x1 == 0) = true := by rw [hx1]; rfl
      clear hx1 HL1 HL2
      have HE := Lib.hid hE
      have HN := Lib.hid hN
      clear hE hN
      have CO := BO16.cell
      have CO2 := BO2.cell
      by_cases hen : o1.en = 0
      · have e0 : (o1.en == 0) = true := by rw [hen]; rfl
        have hor := HE.out hen
        clear hen HE HN
        by_cases hx2 : x2 = 0
        · have t2 : (x2 != 0) = false := by rw [hx2]; rfl
          have hor2 : o2.en = 0 ∨ o1.steps < o2.steps := by
            rcases hor with h | h | h
            · exact absurd hx2 h
            · exact .inl h
            · exact .inr h
          clear hor hx2
          by_cases he2 : o2.en = 0
          · have e2 : (o2.en == 0) = true := by rw [he2]; rfl
            clear hor2 he2
            go_wp2_with fail
            refine (alive18_c _).mono ?_
            rintro e w8 ⟨rfl, hb8⟩
            go_wp2_with fail
            go_ret
            exact ⟨rfl, bt hbw6 hb8⟩
          · have e2 : (o2.en == 0) = false := by simpa using he2
            have hlt : o1.steps < o2.steps := by
              rcases hor2 with h | h
              · exact absurd h he2
              · exact h
            clear hor2 he2
            go_wp2_with fail
            refine (alive18_c _).mono ?_
            rintro e w8 ⟨rfl, hb8⟩
            go_wp2_with fail
            go_ret
            exact ⟨rfl, bt hbw6 hb8⟩
        · have t2 : (x2 != 0) = true := by simpa using hx2
          clear hor hx2
          go_wp2_with fail
          refine (alive18_c _).mono ?_
          rintro e w8 ⟨rfl, hb8⟩
          go_wp2_with fail
          go_ret
          exact ⟨rfl, bt hbw6 hb8⟩
      · have e0 : (o1.en == 0) = false := by simpa using hen
        obtain ⟨hr12, hs2, hr3, hr4, hr5⟩ := HN.out hen
        have hx1' : x1 = 0 := by simpa using t1
        subst hx1'
        injection hr12 with ho hx
        subst ho hx
        have t2 : ((0 : Int) != 0) = false := rfl
        have HR3 := Lib.hid hr3
        have HR4 := Lib.hid hr4
        have HR5 := Lib.hid hr5
        clear hr3 hr4 hr5 hen HE HN t0 t1 t2
        have HSO := Lib.hid (sameOut_c o2 _ _ W5 hA16 hA2)
        go_wp2_with fail
        refine HSO.out.mono ?_
        rintro e w7 ⟨rfl, hb7⟩
        have BP7 := BP6.mono hb7
        have BI7 := BI6.mono hb7
        have BO7 := BO16.mono hb7
        have hA7 := hA16.mono hb7
        have hbw7 := bt hbw6 hb7
        clear CO CO2 BP6 BI6 BO16 hA16 hA2 BO2 hbw6 hb7 HSO
        have CO := BO7.cell
        have CP := BP7.cell
        have CI := BI7.cell
        go_wp2_with fail
        refine (HR2.out _ hbw7 o2.steps).mono ?_
        rw [HR3.out]
        rintro e w9 ⟨v, rfl, ⟨BS3, bc3, TS3, tc3, rfl, hO3⟩, hb9⟩
        have BP9 := BP7.mono hb9
        have BI9 := BI7.mono hb9
        have BO9 := BO7.mono hb9
        have hA9 := hA7.mono hb9
        have hbw9 := bt hbw7 hb9
        clear CO CP CI BP7 BI7 BO7 hA7 hbw7 hb9
        simp only at hO3 ⊢
        go_upto_region 15 with (fail)
        obtain ⟨W9, hW9⟩ : ∃ W9, W9 = w9.alloc (.cells (outC o2 BS3 TS3 bc3 tc3) 36) := ⟨_, rfl⟩
        rw [← hW9]
        have hbx : Below w9.heap.size w9 W9 := by rw [hW9]; exact (Below.refl _ _).alloc (Nat.le_refl _) _
        have BO3 : Bk W9 w9.heap.size (outC o2 BS3 TS3 bc3 tc3) 36 := by rw [hW9]; exact Bk.new w9 _ _
        have hA3 : OutAt o2 W9 (.agg (outC o2 BS3 TS3 bc3 tc3)) := ⟨BS3, bc3, TS3, tc3, rfl, hO3.1.mono hbx, hO3.2.1.mono hbx, hO3.2.2⟩
        have BP10 := BP9.mono hbx
        have BI10 := BI9.mono hbx
        have BO10 := BO9.mono hbx
        have hA10 := hA9.mono hbx
        have hbw10 := bt hbw9 hbx
        obtain ⟨qb, hqb⟩ : ∃ qb, qb = w9.heap.size := ⟨_, rfl⟩
        rw [← hqb] at BO3 ⊢
        clear hW9 hbx BP9 BI9 BO9 hA9 hbw9 hO3 hqb
        have CO := BO10.cell
        have CP := BP10.cell
        have CI := BI10.cell
        go_wp2_with fail
        refine (HR2.out _ hbw10 (o2.steps - 1)).mono ?_
        generalize hr6 : runS p inp arena (o2.steps - 1) = r6 at HR4 HR5
        obtain ⟨o4, x4⟩ := r6
        have e4 : o4.en = 0 := HR5.out
        have f4 : x4 = 0 := HR4.out
        subst f4
        have HE4 := Lib.hid e4
        clear HR4 HR5 hr6 e4
        rintro e w11 ⟨v, rfl, ⟨BS4, bc4, TS4, tc4, rfl, hO4⟩, hb11⟩
        have BO11 := BO10.mono hb11
        have BO13 := BO3.mono hb11
        have hA11 := hA10.mono hb11
        have hA13 := hA3.mono hb11
        have hbw11 := bt hbw10 hb11
        clear CO CP CI BP10 BI10 BO10 hA10 hA3 BO3 hbw10 hb11
        simp only at hO4 ⊢
        go_upto_region 16 with (fail)
        obtain ⟨W11, hW11⟩ : ∃ W11, W11 = w11.alloc (.cells (outC o4 BS4 TS4 bc4 tc4) 36) := ⟨_, rfl⟩
        rw [← hW11]
        have hbx : Below w11.heap.size w11 W11 := by rw [hW11]; exact (Below.refl _ _).alloc (Nat.le_refl _) _
        have BO4 : Bk W11 w11.heap.size (outC o4 BS4 TS4 bc4 tc4) 36 := by rw [hW11]; exact Bk.new w11 _ _
        have BO12 := BO11.mono hbx
        have BO14 := BO13.mono hbx
        have hA12 := hA11.mono hbx
        have hA14 := hA13.mono hbx
        have hbw12 := bt hbw11 hbx
        obtain ⟨rb, hrb⟩ : ∃ rb, rb = w11.heap.size := ⟨_, rfl⟩
        rw [← hrb] at BO4 ⊢
        clear hW11 hbx BO11 BO13 hA11 hA13 hbw11 hO4 hrb
        have CO := BO12.cell
        have CO3 := BO14.cell
        have HSO := Lib.hid (sameOut_c o2 _ _ W11 hA12 hA14)
        go_wp2_with fail
        refine HSO.out.mono ?_
        rintro e w13 ⟨rfl, hb13⟩
        have BO15 := BO4.mono hb13
        have hbw13 := bt hbw12 hb13
        clear CO CO3 BO12 BO14 hA12 hA14 BO4
        have CO4 := BO15.cell
        have c40 : w13.cell? ⟨rb, 0, none⟩ = some (.int .u8 0) := by rw [CO4 0, ← HE4.out]; rfl
        clear CO4
        go_wp2_with fail
        refine (alive18_c _).mono ?_
        rintro e w8 ⟨rfl, hb8⟩
        go_wp2_with fail
        go_ret
        exact ⟨rfl, bt hbw13 hb8⟩
    · have h1 := HL1.out hx1
      have hx2 : x2 = x1 := h1.2
      have ho1 : o1 = outZ := h1.1
      subst hx2
      subst ho1
      have t0 : (x2 != 0) = true := by simpa using hx1
      have t1 : (x2 == 0) = false := by simpa using hx1
      clear h1 hx1 HL1 HL2
      have HSO := Lib.hid (sameOut_c outZ _ _ W5 hA16 ⟨none, 0, none, 0, rfl, .inl rfl, .inl rfl, by decide, by decide⟩)
      have CO := BO16.cell
      go_wp2_with fail
      refine HSO.out.mono ?_
      rintro e w7 ⟨rfl, hb7⟩
      have hbw7 := bt hbw6 hb7
      go_wp2_with fail
      refine (alive18_c _).mono ?_
      rintro e w8 ⟨rfl, hb8⟩
      go_wp2_with fail
      go_ret
      exact ⟨rfl, bt hbw7 hb8⟩
end Go.Proofs.Ytoabiignjkcdmaa
