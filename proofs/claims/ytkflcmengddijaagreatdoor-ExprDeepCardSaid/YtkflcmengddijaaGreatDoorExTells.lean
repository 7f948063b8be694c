/-
  ExprTells walked.
-/
import Derived.Test.YtkflcmengddijaaGreatDoorExAlive2
import Derived.Test.YtkflcmengddijaaGreatDoorExRTell2
import Derived.Test.YtkflcmengddijaaGreatDoorExLarge
namespace Go.Proofs.YtkflcmengddijaaGreatDoor
open Go.RowKit Lx
set_option linter.unusedVariables false
set_option linter.unusedSimpArgs false

theorem tellP_len (x : Ex) : ∀ d, mayB x d = true → (tellP x).length ≤ 5 * nodesE x := by
  refine Ex.ind (P := fun x => ∀ d, mayB x d = true → (tellP x).length ≤ 5 * nodesE x) (fun x ih => ?_) x
  intro d h
  have hk : ∀ y ∈ x.kids, mayB y (d + 1) = true := by
    rw [mayB_eq] at h
    simp only [Bool.and_eq_true] at h
    exact List.all_eq_true.1 h.2
  rcases may_cases h with ⟨num, rfl⟩ | ⟨s, hn, rfl⟩ | ⟨s, hn, rfl⟩ | ⟨op, a, b, h1, h2, rfl⟩ | ⟨s, a, hn, rfl⟩
  · rw [tellP_1, nodesE_eq]; simp; omega
  · rw [tellP_2, nodesE_eq]; simp; omega
  · rw [tellP_4, nodesE_eq]; simp; omega
  · have ha := ih a (by simp [Ex.kids]) (d + 1) (hk a (by simp [Ex.kids]))
    have hb := ih b (by simp [Ex.kids]) (d + 1) (hk b (by simp [Ex.kids]))
    rw [tellP_3, nodesE_eq]
    simp [nodesL, Ex.kids]
    omega
  · have ha := ih a (by simp [Ex.kids]) (d + 1) (hk a (by simp [Ex.kids]))
    rw [tellP_5, nodesE_eq]
    simp [nodesL, Ex.kids]
    omega
/-- What stands behind the copy: own and e in their blocks. -/
structure Tls (x : Ex) (K K2 : Option Addr) (c c2 n1 : Nat) (w W : World) : Prop where
  b0 : Bk W w.heap.size (exL x K c).toArray 40
  b1 : Bk W n1 (exL x K2 c2).toArray 40
  r0 : kEx.Row W K x.kids
  r1 : kEx.Row W K2 x.kids
  bel : Below w.heap.size w W
theorem Tls.mono {x : Ex} {K K2 : Option Addr} {c c2 n1 : Nat} {w W W' : World} (h : Tls x K K2 c c2 n1 w W) (hb : Below W.heap.size W W') : Tls x K K2 c c2 n1 w W' :=
  ⟨h.b0.mono hb, h.b1.mono hb, h.r0.mono hb, h.r1.mono hb, h.bel.trans (hb.mono h.bel.size)⟩

set_option maxRecDepth 100000 in
set_option maxHeartbeats 4000000 in
theorem exprTells_c (x : Ex) (K : Option Addr) (c : Nat) (w : World) (hE : Env w) (hsg : SgTab w) (hm : x.kids.length ≤ maxLen) (hn0 : K = none → c = 0) (hr : kEx.Row w K x.kids) (hok : NamesOk x) :
    Calls Tryz.prog 4 #[.agg #[.int .u8 x.k, .int .u64 x.num, .string x.name, .int .u8 x.op, .slice K x.kids.length c]] w fun e w' => e = .returned (.bool true) ∧ Below w.heap.size w w' := by
  have hb0 := (Below.refl w.heap.size w).alloc (Nat.le_refl _) (.cells (exL x K c).toArray 40)
  have B0 := Bk.new w (exL x K c).toArray 40
  have HL := Lib.hid (large_c x K c _ hm hn0 (hr.mono hb0) hok)
  have HOK := Lib.hid hok
  have HN0 := Lib.hid hn0
  clear hok hn0
  go_enter Tryz.func4, Tryz.ntmps4
  go_wp2_with fail
  refine HL.out.mono ?_
  rintro e w1 ⟨⟨b, rfl, hsm⟩, hb1⟩
  have B1 := B0.mono hb1
  have hB1 := bt hb0 hb1
  cases b with
  | true =>
    clear hsm
    go_wp2_with fail
    refine (alive07_c _ (hE.mono hB1) (hsg.mono hB1)).mono ?_
    rintro e w2 ⟨rfl, hb2⟩
    go_wp2_with fail
    go_ret
    exact ⟨rfl, bt hB1 hb2⟩
  | false =>
    have hnod := hsm rfl
    have HND := Lib.hid hnod
    have C1 := B1.cell
    clear hsm hnod
    go_wp2_with fail
    refine (copy_c x K c w1 hm (hr.mono hB1) (by have := HND.out; omega)).mono ?_
    rintro e w2 ⟨⟨K2, c2, rfl, hf⟩, hb2⟩
    have hal := (Below.refl w2.heap.size w2).alloc (Nat.le_refl _) (.cells (exL x K2 c2).toArray 40)
    have hT : Tls x K K2 c c2 w2.heap.size w (w2.alloc (.cells (exL x K2 c2).toArray 40)) :=
      ⟨(B1.mono hb2).alloc _, Bk.new _ _ _, ((hr.mono hB1).mono hb2).mono hal, (row_of_foot hf).2.2.mono hal, bt (bt hB1 hb2) hal⟩
    clear C1
    go_upto_region 4 with (fail)
    obtain ⟨W, hW⟩ : ∃ W, W = w2.alloc (.cells (exL x K2 c2).toArray 40) := ⟨_, rfl⟩
    obtain ⟨n1, hn1⟩ : ∃ n1, n1 = w2.heap.size := ⟨_, rfl⟩
    rw [← hW, ← hn1] at hT
    rw [← hW, ← hn1]
    clear hW hn1 hal hf
    have CA := hT.b0.cell
    have CB := hT.b1.cell
    cases hmay : mayB x 1 with
    | true =>
      have HM := Lib.hid hmay
      have hl5 := tellP_len x 1 hmay
      have hl9 : (tellP x).length ≤ 10000 := by have := HND.out; omega
      clear hmay hl5
      go_wp2_with fail
      refine (check_c' x K2 c2 W hm hT.r1 true HM.out).mono ?_
      rintro e w3 ⟨rfl, hb3⟩
      have hT3 := hT.mono hb3
      have CA3 := hT3.b0.cell
      have CB3 := hT3.b1.cell
      clear CA CB
      simp only [if_true]
      go_wp2_with fail
      refine (tells_yes x K2 c2 w3 hm hT3.r1 (hsg.mono hT3.bel) HM.out (by omega)).mono ?_
      rintro e w4 ⟨⟨A4, c4, rfl, hr4⟩, hb4⟩
      have hT4 := hT3.mono hb4
      have CA4 := hT4.b0.cell
      have CB4 := hT4.b1.cell
      clear CA3 CB3
      go_wp2_with fail
      refine (sameEx_c x K2 K c2 c w4 ((namesOk_iff x).1 HOK.out).2.1.1 hT4.r1 hT4.r0 ((namesOk_iff x).1 HOK.out).2.2).mono ?_
      rintro e w5 ⟨rfl, hb5⟩
      have hT5 := hT4.mono hb5
      have CA5 := hT5.b0.cell
      clear CA4 CB4
      go_wp2_with fail
      refine (rMays_c x K c w5 HOK.out hT5.r0).mono ?_
      rintro e w6 ⟨rfl, hb6⟩
      rw [HM.out]
      have hT6 := hT5.mono hb6
      have CA6 := hT6.b0.cell
      clear CA5
      go_wp2_with fail
      refine (rtell_c x 1 K c w6 HM.out hT6.r0 (by omega)).mono ?_
      rintro e w7 ⟨⟨v7, rfl, ho7⟩, hb7⟩
      obtain ⟨a7, c7, rfl, hr7⟩ := own_row ho7 rfl
      have hT7 := hT6.mono hb7
      clear CA6
      go_wp2_with fail
      refine (same_c (tellP x) A4 a7 c4 c7 w7 (((hr4.mono hb5).mono hb6).mono hb7) hr7 (by omega)).mono ?_
      rintro e w8 ⟨rfl, hb8⟩
      have hT8 := hT7.mono hb8
      go_wp2_with fail
      refine (alive07_c _ (hE.mono hT8.bel) (hsg.mono hT8.bel)).mono ?_
      rintro e w9 ⟨rfl, hb9⟩
      go_wp2_with fail
      go_ret
      exact ⟨rfl, (hT8.mono hb9).bel⟩
    | false =>
      have HM := Lib.hid hmay
      clear hmay
      go_wp2_with fail
      refine (check_c' x K2 c2 W hm hT.r1 false HM.out).mono ?_
      rintro e w3 ⟨rfl, hb3⟩
      have hT3 := hT.mono hb3
      have CA3 := hT3.b0.cell
      have CB3 := hT3.b1.cell
      clear CA CB
      go_wp2_with fail
      refine (tells_no x K2 c2 w3 hm hT3.r1 HM.out).mono ?_
      rintro e w4 ⟨rfl, hb4⟩
      have hT4 := hT3.mono hb4
      have CA4 := hT4.b0.cell
      have CB4 := hT4.b1.cell
      clear CA3 CB3
      go_wp2_with fail
      refine (sameEx_c x K2 K c2 c w4 ((namesOk_iff x).1 HOK.out).2.1.1 hT4.r1 hT4.r0 ((namesOk_iff x).1 HOK.out).2.2).mono ?_
      rintro e w5 ⟨rfl, hb5⟩
      have hT5 := hT4.mono hb5
      have CA5 := hT5.b0.cell
      clear CA4 CB4
      go_wp2_with fail
      refine (rMays_c x K c w5 HOK.out hT5.r0).mono ?_
      rintro e w6 ⟨rfl, hb6⟩
      rw [HM.out]
      have hT6 := hT5.mono hb6
      clear CA5
      go_wp2_with fail
      refine (alive07_c _ (hE.mono hT6.bel) (hsg.mono hT6.bel)).mono ?_
      rintro e w9 ⟨rfl, hb9⟩
      go_wp2_with fail
      go_ret
      exact ⟨rfl, (hT6.mono hb9).bel⟩
end Go.Proofs.YtkflcmengddijaaGreatDoor
