/-
  IrSecret, walked.
-/
import Derived.Test.YtoabiignjkcdmaaRunK4
import Derived.Test.YtoabiignjkcdmaaRunK5
import Derived.Test.YtoabiignjkcdmaaRunK6
namespace Go.Proofs.Ytoabiignjkcdmaa
open Go.RowKit
set_option linter.unusedVariables false
set_option linter.unusedSimpArgs false

theorem runOk_like {p : SIr} {i j : SIn} (h : RunOk p i) (hl : LikeIn p.par i j) (hr : ∀ x ∈ j.nums, 0 ≤ x ∧ x < 18446744073709551616) (hz : ∀ b ∈ i.bufs, b.size ≤ 140737488355328) : RunOk p j where
  par := h.par
  ops := h.ops
  opw := h.opw
  nl := by rw [← hl.nl]; exact h.nl
  bl := by rw [← hl.bl]; exact h.bl
  bz := fun b hb => by
    obtain ⟨k, hk, rfl⟩ := List.getElem_of_mem hb
    have h1 := hl.z k
    have hk2 : k < i.bufs.length := by rw [hl.bl]; exact hk
    simp only [List.getD_eq_getElem?_getD, List.getElem?_eq_getElem hk, List.getElem?_eq_getElem hk2, Option.getD_some] at h1
    rw [← h1]
    have := hz _ (List.getElem_mem hk2)
    omega
  nr := hr
set_option maxRecDepth 100000 in
set_option maxHeartbeats 16000000 in
theorem irSecret_c (p : SIr) (inp : SIn) (bys : List Int) (arena fu : Int) (w : World) (S P B NA BA Y : Option Addr) (c1 c2 c3 nc bc yc : Nat) (hS : kBool.Row w S p.sec) (hP : kHanded.Row w P p.par) (hB : kBlock.Row w B p.blk) (hNA : kU64.Row w NA inp.nums) (hBA : kStr.Row w BA inp.bufs) (hY : kU8.Row w Y bys)
    (hm : p.sec.length ≤ 9223372036854775807 ∧ p.par.length ≤ 9223372036854775807 ∧ p.blk.length ≤ 9223372036854775807) (hok : Small p → RunOk p inp) (hops : ∀ b ∈ p.blk, b.ops.length ≤ 1000000000000000) (hn : inp.nums.length ≤ 9223372036854775807 ∧ inp.bufs.length ≤ 9223372036854775807) (hnc : inp.nums.length ≤ nc ∧ nc ≤ 9223372036854775807) (hyl : bys.length ≤ 9223372036854775807) (hf : 0 ≤ fu ∧ fu < 65536)
    (hbz : ∀ b ∈ inp.bufs, b.size ≤ 140737488355328) (hfn : ∀ b ∈ p.blk, ∀ o ∈ b.ops, 0 ≤ o.fn) (hnr : ∀ x ∈ inp.nums, 0 ≤ x ∧ x < 18446744073709551616) :
    Calls Try.prog 4 #[.agg (irV p S P B c1 c2 c3), .agg (inV inp NA BA nc bc), .slice Y bys.length yc, .int .i64 arena, .int .u16 fu] w fun e w' => e = .returned (.bool true) ∧ Below w.heap.size w w' := by
  obtain ⟨W1, hW1⟩ : ∃ W1, W1 = (w.alloc (.cells (irV p S P B c1 c2 c3) 26)).alloc (.cells (inV inp NA BA nc bc) 30) := ⟨_, rfl⟩
  have hb1 : Below w.heap.size w W1 := by rw [hW1]; exact ((Below.refl w.heap.size w).alloc (Nat.le_refl _) _).alloc (by simp) _
  have BP : Bk W1 w.heap.size (irV p S P B c1 c2 c3) 26 := by rw [hW1]; exact (Bk.new w _ _).alloc _
  have BI : Bk W1 (w.heap.size + 1) (inV inp NA BA nc bc) 30 := by rw [hW1]; exact Bk.newAt _ _ (by simp)
  have HH := Lib.hid (heavy_c p inp W1 S P B NA BA c1 c2 c3 nc bc (hB.mono hb1) hm hops hn)
  obtain ⟨n, hnn⟩ : ∃ n, n = fu % 8000 := ⟨_, rfl⟩
  have hn0 : 0 ≤ n ∧ n < 8000 := by omega
  have hmn : fu % 8000 = n := hnn.symm
  clear hnn
  obtain ⟨hf0, hf1⟩ := hf
  obtain ⟨m1, m2, m3⟩ := hm
  obtain ⟨n1, n2⟩ := hn
  go_enter Try.func4, Try.ntmps4
  go_upto_region 1 with (fail)
  rw [← hW1]
  clear hW1
  have CP := BP.cell
  have CI := BI.cell
  go_wp2_with fail
  refine HH.out.mono ?_
  rintro e w2 ⟨r, rfl, hr, hb2⟩
  have hbw := bt hb1 hb2
  cases r with
  | true =>
    clear hr CP CI
    go_wp2_with fail
    refine (alive18_c _).mono ?_
    rintro e w8 ⟨rfl, hb8⟩
    go_wp2_with fail
    go_ret
    exact ⟨rfl, bt hbw hb8⟩
  | false =>
    have hsm := (hr rfl).1
    have hin := (hr rfl).2
    have hokp := hok hsm
    have HOK := Lib.hid hokp
    have HSM := Lib.hid hsm
    have HIN := Lib.hid hin
    have BP2 := BP.mono hb2
    have BI2 := BI.mono hb2
    have HCK := Lib.hid (check_c p S P B c1 c2 c3 w2 (hS.mono hbw) (hP.mono hbw) (hB.mono hbw) hokp.par hokp.ops)
    clear hr CP CI BP BI hb2 HH hsm hokp hin
    have CP := BP2.cell
    have CI := BI2.cell
    by_cases hy : 200 < bys.length
    · have ty : (200 : Int) < (bys.length : Int) := by omega
      clear hy
      go_wp2_with fail
      refine (alive18_c _).mono ?_
      rintro e w8 ⟨rfl, hb8⟩
      go_wp2_with fail
      go_ret
      exact ⟨rfl, bt hbw hb8⟩
    · have ty : (bys.length : Int) ≤ 200 := by omega
      have hyl2 : bys.length ≤ 200 := by omega
      clear hy
      cases hck : checkS p with
      | false =>
        have hcn : checkN p = 2 := by unfold checkN; rw [hck]; rfl
        rw [hcn] at HCK
        clear hcn hck
        go_wp2_with fail
        refine HCK.out.mono ?_
        rintro e w3 ⟨rfl, hb3⟩
        have hbw3 := bt hbw hb3
        go_wp2_with fail
        refine (alive18_c _).mono ?_
        rintro e w8 ⟨rfl, hb8⟩
        go_wp2_with fail
        go_ret
        exact ⟨rfl, bt hbw3 hb8⟩
      | true =>
        have hcn : checkN p = 0 := by unfold checkN; rw [hck]; rfl
        rw [hcn] at HCK
        have HCKB := Lib.hid hck
        clear hcn hck
        go_wp2_with fail
        refine HCK.out.mono ?_
        rintro e w3 ⟨rfl, hb3⟩
        have hbw3 := bt hbw hb3
        have BP3 := BP2.mono hb3
        have BI3 := BI2.mono hb3
        clear CP CI BP2 BI2 hbw hb3 HCK
        have CP := BP3.cell
        have CI := BI3.cell
        go_wp2_with fail
        refine (other_c p.par inp bys w3 P NA BA Y c2 nc bc yc (hP.mono hbw3) (hNA.mono hbw3) (hBA.mono hbw3) (hY.mono hbw3) HSM.out.par HIN.out.1 HIN.out.2 hyl2 hbz hnr).mono ?_
        rintro e w4 ⟨j, na, ba, nc', bc', rfl, hlike, hNA2, hBA2, hnc2, hnr2, hb4⟩
        have hbw4 := bt hbw3 hb4
        have BP4 := BP3.mono hb4
        have BI4 := BI3.mono hb4
        clear CP CI BP3 BI3 hbw3 hb4
        have HL := Lib.hid (secret_law p HCKB.out hfn inp j hlike arena n)
        have HLK := Lib.hid hlike
        clear hlike
        go_upto_region 5 with (fail)
        obtain ⟨W4, hW4⟩ : ∃ W4, W4 = w4.alloc (.cells (inW j na ba nc' bc') 30) := ⟨_, rfl⟩
        rw [← hW4]
        have hbx : Below w4.heap.size w4 W4 := by rw [hW4]; exact (Below.refl _ _).alloc (Nat.le_refl _) _
        have BJ : Bk W4 w4.heap.size (inW j na ba nc' bc') 30 := by rw [hW4]; exact Bk.new w4 _ _
        have hNA4 := hNA2.mono hbx
        have hBA4 := hBA2.mono hbx
        have BP5 := BP4.mono hbx
        have BI5 := BI4.mono hbx
        have hbw5 := bt hbw4 hbx
        obtain ⟨jb, hjb⟩ : ∃ jb, jb = w4.heap.size := ⟨_, rfl⟩
        rw [← hjb] at BJ ⊢
        clear hW4 hbx BP4 BI4 hbw4 hjb hNA2 hBA2
        have HR1 := Lib.hid (run_c p inp arena n W4 S P B NA BA c1 c2 c3 nc bc (hS.mono hbw5) (hP.mono hbw5) (hB.mono hbw5) (hNA.mono hbw5) (hBA.mono hbw5) HOK.out hnc)
        have CP := BP5.cell
        have CI := BI5.cell
        go_wp2_with fail
        refine HR1.out.mono ?_
        generalize hr1 : runS p inp arena n = r1 at HL
        obtain ⟨o1, x1⟩ := r1
        clear hr1 HR1
        rintro e w6 ⟨v, rfl, ⟨BS1, bc1, TS1, tc1, rfl, hO1⟩, hb6⟩
        have BP6 := BP5.mono hb6
        have BI6 := BI5.mono hb6
        have BJ6 := BJ.mono hb6
        have hNA6 := hNA4.mono hb6
        have hBA6 := hBA4.mono hb6
        have hbw6 := bt hbw5 hb6
        clear CP CI BP5 BI5 BJ hNA4 hBA4 hbw5 hb6
        simp only at HL hO1 ⊢
        go_upto_region 6 with (fail)
        obtain ⟨W6, hW6⟩ : ∃ W6, W6 = w6.alloc (.cells (outC o1 BS1 TS1 bc1 tc1) 36) := ⟨_, rfl⟩
        rw [← hW6]
        have hbx : Below w6.heap.size w6 W6 := by rw [hW6]; exact (Below.refl _ _).alloc (Nat.le_refl _) _
        have BO1 : Bk W6 w6.heap.size (outC o1 BS1 TS1 bc1 tc1) 36 := by rw [hW6]; exact Bk.new w6 _ _
        have hB1 := hO1.1.mono hbx
        have hT1 := hO1.2.1.mono hbx
        have hlen1 := hO1.2.2
        have BP7 := BP6.mono hbx
        have BI7 := BI6.mono hbx
        have BJ7 := BJ6.mono hbx
        have hNA7 := hNA6.mono hbx
        have hBA7 := hBA6.mono hbx
        have hbw7 := bt hbw6 hbx
        obtain ⟨ob, hob⟩ : ∃ ob, ob = w6.heap.size := ⟨_, rfl⟩
        rw [← hob] at BO1 ⊢
        clear hW6 hbx BP6 BI6 BJ6 hNA6 hBA6 hbw6 hob hO1
        have HR2 := Lib.hid (run_c p j arena n W6 S P B na ba c1 c2 c3 nc' bc' (hS.mono hbw7) (hP.mono hbw7) (hB.mono hbw7) hNA7 hBA7 (runOk_like HOK.out HLK.out hnr2 hbz) hnc2)
        have CP := BP7.cell
        have CJ := BJ7.cell
        go_wp2_with fail
        refine HR2.out.mono ?_
        generalize hr2 : runS p j arena n = r2 at HL
        obtain ⟨o2, x2⟩ := r2
        clear hr2 HR2
        rintro e w8 ⟨v, rfl, ⟨BS2, bc2, TS2, tc2, rfl, hO2⟩, hb8⟩
        have BP8 := BP7.mono hb8
        have BI8 := BI7.mono hb8
        have BO8 := BO1.mono hb8
        have hB18 := hB1.mono hb8
        have hT18 := hT1.mono hb8
        have hbw8 := bt hbw7 hb8
        clear CP CJ BP7 BI7 BJ7 BO1 hB1 hT1 hNA7 hBA7 hbw7 hb8
        simp only at HL hO2 ⊢
        go_upto_region 7 with (fail)
        obtain ⟨W8, hW8⟩ : ∃ W8, W8 = w8.alloc (.cells (outC o2 BS2 TS2 bc2 tc2) 36) := ⟨_, rfl⟩
        rw [← hW8]
        have hbx : Below w8.heap.size w8 W8 := by rw [hW8]; exact (Below.refl _ _).alloc (Nat.le_refl _) _
        have BO2 : Bk W8 w8.heap.size (outC o2 BS2 TS2 bc2 tc2) 36 := by rw [hW8]; exact Bk.new w8 _ _
        have hB2 := hO2.1.mono hbx
        have hT2 := hO2.2.1.mono hbx
        have hlen2 := hO2.2.2
        have BP9 := BP8.mono hbx
        have BI9 := BI8.mono hbx
        have BO9 := BO8.mono hbx
        have hB1 := hB18.mono hbx
        have hT1 := hT18.mono hbx
        have hbw9 := bt hbw8 hbx
        obtain ⟨qb, hqb⟩ : ∃ qb, qb = w8.heap.size := ⟨_, rfl⟩
        rw [← hqb] at BO2 ⊢
        clear hW8 hbx BP8 BI8 BO8 hB18 hT18 hbw8 hO2 hqb
        obtain ⟨HL1, HL2⟩ := HL.out
        have HL1 := Lib.hid HL1
        have HL2 := Lib.hid HL2
        clear HL
        have HTL : Hid (∀ w2, Below w.heap.size w w2 → Calls Try.prog 11 #[.agg (irV p S P B c1 c2 c3)] w2 (SamePost w2 (tellsS p = true))) := Lib.hid fun w2 h2 => telling_c p w2 S P B c1 c2 c3 (hB.mono h2) HSM.out
        have CP := BP9.cell
        by_cases hx : x1 = x2
        · have t0 : (x1 == x2) = true := by rw [hx]; exact beq_self_eq_true _
          have t1 : (x1 != x2) = false := by rw [hx]; simp
          have CO1 := BO9.cell
          have CO2 := BO2.cell
          by_cases hz : x1 = 0
          · have hz2 : x2 = 0 := hx.symm.trans hz
            have t2 : (x1 != 0) = false := by rw [hz]; rfl
            have t3 : (x2 != 0) = false := by rw [hz2]; rfl
            have HN := Lib.hid (sameNums_c o1.told o2.told TS1 TS2 tc1 tc2 W8 hT1 hT2 hlen1.2 hlen2.2)
            have HZ := Lib.hid (HL2.out hz hz2)
            clear hz hz2 hx
            go_wp2_with fail
            refine HN.out.mono ?_
            rintro e w10 ⟨r, rfl, hr, hb10⟩
            have hbw10 := bt hbw9 hb10
            cases r with
            | false =>
              clear hr CP CO1 CO2
              go_wp2_with fail
              refine (alive18_c _).mono ?_
              rintro e w8 ⟨rfl, hb8⟩
              go_wp2_with fail
              go_ret
              exact ⟨rfl, bt hbw10 hb8⟩
            | true =>
              obtain ⟨q1, q2, q3, q4, q5⟩ := HZ.out (hr.1 rfl)
              have BP10 := BP9.mono hb10
              have BI10 := BI9.mono hb10
              have BO10 := BO9.mono hb10
              have BO12 := BO2.mono hb10
              have e1 : (o1.en == o2.en) = true := by rw [q1]; exact beq_self_eq_true _
              have e2 : (o1.trap == o2.trap) = true := by rw [q2]; exact beq_self_eq_true _
              have e3 : (o1.steps == o2.steps) = true := by rw [q3]; exact beq_self_eq_true _
              have e4 : ((o1.bufs.length : Int) == (inp.bufs.length : Int)) = true := by rw [q4]; exact beq_self_eq_true _
              have HPB := Lib.hid (public_c p.par o1.bufs o2.bufs w10 P BS1 BS2 c2 bc1 bc2 (hP.mono hbw10) (hB1.mono hb10) (hB2.mono hb10) HOK.out.par hlen1.1 hlen2.1 q5)
              clear hr HN HZ CP CO1 CO2 BP9 BI9 BO9 BO2 q1 q2 q3 q4 q5
              have CP := BP10.cell
              have CI := BI10.cell
              have CO1 := BO10.cell
              have CO2 := BO12.cell
              go_wp2_with fail
              refine HPB.out.mono ?_
              rintro e w12 ⟨rfl, hb12⟩
              have hbw12 := bt hbw10 hb12
              clear CP CI CO1 CO2
              go_wp2_with fail
              refine (alive18_c _).mono ?_
              rintro e w8 ⟨rfl, hb8⟩
              go_wp2_with fail
              go_ret
              exact ⟨rfl, bt hbw12 hb8⟩
          · have t2 : (x1 != 0) = true := by simpa using hz
            clear hz hx
            go_wp2_with fail
            refine (alive18_c _).mono ?_
            rintro e w8 ⟨rfl, hb8⟩
            go_wp2_with fail
            go_ret
            exact ⟨rfl, bt hbw9 hb8⟩
        · have t0 : (x1 == x2) = false := by simpa using hx
          have t1 : (x1 != x2) = true := by simpa using hx
          have htl : tellsS p = true := by
            cases h : tellsS p with
            | true => rfl
            | false => exact absurd (HL1.out h) hx
          go_wp2_with fail
          refine (HTL.out _ hbw9).mono ?_
          rintro e w10 ⟨r, rfl, hr, hb10⟩
          have hrt := hr.2 htl
          subst hrt
          have hbw10 := bt hbw9 hb10
          have hor : x1 ≠ 0 ∨ x1 = 0 ∧ x2 ≠ 0 := by
            by_cases h : x1 = 0
            · exact .inr ⟨h, fun h2 => hx (h.trans h2.symm)⟩
            · exact .inl h
          clear hr htl CP hx t0 t1
          rcases hor with h | ⟨h, h2⟩
          · have t2 : (x1 != 0) = true := by simpa using h
            clear h
            go_wp2_with fail
            refine (alive18_c _).mono ?_
            rintro e w8 ⟨rfl, hb8⟩
            go_wp2_with fail
            go_ret
            exact ⟨rfl, bt hbw10 hb8⟩
          · have t2 : (x1 != 0) = false := by rw [h]; rfl
            have t3 : (x2 != 0) = true := by simpa using h2
            clear h h2
            go_wp2_with fail
            refine (alive18_c _).mono ?_
            rintro e w8 ⟨rfl, hb8⟩
            go_wp2_with fail
            go_ret
            exact ⟨rfl, bt hbw10 hb8⟩
end Go.Proofs.Ytoabiignjkcdmaa
