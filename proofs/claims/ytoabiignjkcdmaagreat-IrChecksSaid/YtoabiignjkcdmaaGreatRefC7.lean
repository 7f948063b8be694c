/-
  IrChecks, walked.
-/
import Derived.Test.YtoabiignjkcdmaaGreatRefC6
import Derived.Test.YtoabiignjkcdmaaGreatRunK3
namespace Go.Proofs.YtoabiignjkcdmaaGreat
open Go.RowKit
set_option linter.unusedVariables false
set_option linter.unusedSimpArgs false

theorem blksC_cons (x : SBlock) (xs : List SBlock) (b : Value) (bs : List Value) : blksC (x :: xs) (b :: bs) = blkC x b ++ blksC xs bs := rfl
theorem blksC_get : ∀ (xs : List SBlock) (bs : List Value) (i : Nat) (h1 : i < xs.length) (h2 : i < bs.length) (j : Nat), j < 5 → (blksC xs bs)[i * 5 + j]? = (blkC xs[i] bs[i])[j]?
  | x :: xs, b :: bs, 0, h1, h2, j, hj => by
    rw [blksC_cons, Nat.zero_mul, Nat.zero_add, List.getElem?_append_left (by simp [blkC]; omega)]
    rfl
  | x :: xs, b :: bs, i + 1, h1, h2, j, hj => by
    rw [blksC_cons, List.getElem?_append_right (by simp [blkC]; omega)]
    have e : (i + 1) * 5 + j - (blkC x b).length = i * 5 + j := by simp [blkC]; omega
    rw [e, blksC_get xs bs i (by simpa using h1) (by simpa using h2) j hj]
    rfl
theorem copied_rows {base : Nat} {p : SIr} {w : World} {sv pv bv : Value} {ovs : List Value} (h : Copied base p w sv pv bv ovs) (hops : ∀ b ∈ p.blk, b.ops.length ≤ maxLen) :
    ∃ (S P B : Option Addr) (c1 c2 c3 : Nat), sv = .slice S p.sec.length c1 ∧ pv = .slice P p.par.length c2 ∧ bv = .slice B p.blk.length c3 ∧ kBool.Row w S p.sec ∧ kHanded.Row w P p.par ∧ kBlock.Row w B p.blk := by
  obtain ⟨rs, rp, l, rb, ro⟩ := h
  obtain ⟨S, c1, rfl⟩ := own_shape' rs
  obtain ⟨P, c2, rfl⟩ := own_shape' rp
  obtain ⟨B, c3, rfl⟩ := own_shape' rb
  refine ⟨S, P, B, c1, c2, c3, rfl, rfl, rfl, row_of_flat rs rfl, row_of_flat rp rfl, ?_⟩
  by_cases h0 : p.blk = []
  · exact .inl h0
  obtain ⟨g, c', e', _, _⟩ := rb.form (List.length_pos_iff.2 h0)
  injection e' with e1 _ e3
  subst e1 e3
  refine .inr ⟨g, 0, rfl, fun i hi => ?_⟩
  have hi' : i < ovs.length := by omega
  have r := ro i hi hi'
  obtain ⟨O, oc, eo⟩ := own_shape' r
  rw [eo] at r
  refine ⟨blkC p.blk[i] ovs[i], ⟨O, oc, by rw [eo]; rfl, hops _ (List.getElem_mem hi), row_of_flat r rfl⟩, fun j hj => ?_⟩
  have hj' : j < 5 := hj
  have hlt : i * 5 + j < p.blk.length * 5 := by omega
  have h1 := World.ownsRow.cellAt rb (i * 5 + j) hlt
  show w.cell? ⟨g, 0 + i * 5 + j, none⟩ = _
  have h2 := blksC_get p.blk ovs i hi hi' j hj'
  rw [List.getElem?_eq_getElem hj] at h2
  rw [Nat.zero_add]
  simpa [h2] using h1

set_option maxRecDepth 100000 in
set_option maxHeartbeats 4000000 in
theorem irChecks_c (p : SIr) (w : World) (S P B : Option Addr) (c1 c2 c3 : Nat) (hS : kBool.Row w S p.sec) (hP : kHanded.Row w P p.par) (hB : kBlock.Row w B p.blk)
    (hm : p.sec.length ≤ 9223372036854775807 ∧ p.par.length ≤ 9223372036854775807 ∧ p.blk.length ≤ 9223372036854775807) (hops : ∀ b ∈ p.blk, b.ops.length ≤ 1000000000000000) (hfn : ∀ b ∈ p.blk, ∀ o ∈ b.ops, 0 ≤ o.fn) :
    Calls Tryz.prog 3 #[.agg #[.slice S p.sec.length c1, .slice P p.par.length c2, .slice B p.blk.length c3]] w fun e w' => e = .returned (.bool true) ∧ Below w.heap.size w w' := by
  obtain ⟨W1, hW1⟩ : ∃ W1, W1 = w.alloc (.cells #[.slice S p.sec.length c1, .slice P p.par.length c2, .slice B p.blk.length c3] 26) := ⟨_, rfl⟩
  have hb1 : Below w.heap.size w W1 := by rw [hW1]; exact (Below.refl w.heap.size w).alloc (Nat.le_refl _) _
  have BP : Bk W1 w.heap.size #[.slice S p.sec.length c1, .slice P p.par.length c2, .slice B p.blk.length c3] 26 := by rw [hW1]; exact Bk.new w _ _
  have HLG := Lib.hid (large_c p W1 S P B c1 c2 c3 (hB.mono hb1) hm hops)
  go_enter Tryz.func3, Tryz.ntmps3
  go_upto_region 1 with (fail)
  rw [← hW1]
  clear hW1
  have CP := BP.cell
  go_wp2_with fail
  refine HLG.out.mono ?_
  rintro e w2 ⟨r, rfl, hr, hb2⟩
  have hbw2 := bt hb1 hb2
  have BP2 := BP.mono hb2
  clear HLG BP CP hb1 hb2
  cases r with
  | true =>
    clear hr
    go_wp2_with fail
    refine (alive18_c _).mono ?_
    rintro e w3 ⟨rfl, hb3⟩
    go_wp2_with fail
    go_ret
    exact ⟨rfl, bt hbw2 hb3⟩
  | false =>
    have hsm := hr rfl
    clear hr
    have CP := BP2.cell
    have HCP := Lib.hid (copy_c p w2 S P B c1 c2 c3 (hS.mono hbw2) (hP.mono hbw2) (hB.mono hbw2) hsm)
    go_wp2_with fail
    refine HCP.out.mono ?_
    rintro e w3 ⟨sv, pv, bv, ovs, rfl, hcp, hb3⟩
    obtain ⟨S', P', B', c1', c2', c3', rfl, rfl, rfl, hS', hP', hB'⟩ := copied_rows hcp (fun b hb => by have := hsm.each b hb; unfold maxLen; omega)
    have BP3 := BP2.mono hb3
    have hbw3 := bt hbw2 hb3
    clear HCP CP BP2 hcp hb3 hbw2
    have CP := BP3.cell
    have HALL : Hid (∀ w4, Below w3.heap.size w3 w4 → Calls Tryz.prog 11 #[.agg #[.slice S' p.sec.length c1', .slice P' p.par.length c2', .slice B' p.blk.length c3']] w4 fun e w' => e = .returned (.int .i64 (checkN p)) ∧ Below w4.heap.size w4 w') := Lib.hid (fun w4 h => check_c p S' P' B' c1' c2' c3' w4 (hS'.mono h) (hP'.mono h) (hB'.mono h) (by have := hsm.par; omega) hops)
    have HMAY : Hid (∀ w4, Below w3.heap.size w3 w4 → Calls Tryz.prog 12 #[.agg #[.slice S p.sec.length c1, .slice P p.par.length c2, .slice B p.blk.length c3]] w4 fun e w' => e = .returned (.bool (checkS p)) ∧ Below w4.heap.size w4 w') := Lib.hid (fun w4 h => may_c p S P B c1 c2 c3 w4 (hS.mono (bt hbw3 h)) (hP.mono (bt hbw3 h)) (hB.mono (bt hbw3 h)) (by have := hsm.sec; omega) (by have := hsm.par; omega) hops hfn)
    have HSM : Hid (∀ w4, Below w3.heap.size w3 w4 → Calls Tryz.prog 13 #[.agg #[.slice S' p.sec.length c1', .slice P' p.par.length c2', .slice B' p.blk.length c3'], .agg #[.slice S p.sec.length c1, .slice P p.par.length c2, .slice B p.blk.length c3]] w4 fun e w' => e = .returned (.bool true) ∧ Below w4.heap.size w4 w') := Lib.hid (fun w4 h => same18_c p w4 S' P' B' S P B c1' c2' c3' c1 c2 c3 (hS'.mono h) (hP'.mono h) (hB'.mono h) (hS.mono (bt hbw3 h)) (hP.mono (bt hbw3 h)) (hB.mono (bt hbw3 h)) hsm)
    clear hS hP hB hS' hP' hB' hsm hm hops hfn
    go_upto_region 4 with (fail)
    obtain ⟨W3, hW3⟩ : ∃ W3, W3 = w3.alloc (.cells #[.slice S' p.sec.length c1', .slice P' p.par.length c2', .slice B' p.blk.length c3'] 26) := ⟨_, rfl⟩
    rw [← hW3]
    have hbx : Below w3.heap.size w3 W3 := by rw [hW3]; exact (Below.refl _ _).alloc (Nat.le_refl _) _
    have BO : Bk W3 w3.heap.size #[.slice S' p.sec.length c1', .slice P' p.par.length c2', .slice B' p.blk.length c3'] 26 := by rw [hW3]; exact Bk.new w3 _ _
    have BP4 := BP3.mono hbx
    have hbw4 := bt hbw3 hbx
    clear hW3 BP3 CP hbw3
    have CP := BP4.cell
    have CO := BO.cell
    have hN : checkN p = if checkS p then 0 else 2 := rfl
    obtain ⟨c, hc⟩ : ∃ c, checkS p = c := ⟨_, rfl⟩
    rw [hN, hc] at HALL
    rw [hc] at HMAY
    clear hN hc
    cases c with
    | true =>
      have HALL' : Hid (∀ w4, Below w3.heap.size w3 w4 → Calls Tryz.prog 11 #[.agg #[.slice S' p.sec.length c1', .slice P' p.par.length c2', .slice B' p.blk.length c3']] w4 fun e w' => e = .returned (.int .i64 0) ∧ Below w4.heap.size w4 w') := HALL
      clear HALL
      go_wp2_with (first
        | (go_at_call 11; go_must (refine (HALL'.out _ hbx).mono ?_); rintro e w5 ⟨rfl, hb5⟩; have BP5 := BP4.mono hb5; have BO5 := BO.mono hb5; have hbx5 := bt hbx hb5; have hbw5 := bt hbw4 hb5; clear CP CO; have CP := BP5.cell; have CO := BO5.cell)
        | (go_at_call 12; go_must (refine (HMAY.out _ hbx5).mono ?_); rintro e w6 ⟨rfl, hb6⟩; have BP6 := BP5.mono hb6; have BO6 := BO5.mono hb6; have hbx6 := bt hbx5 hb6; have hbw6 := bt hbw5 hb6; clear CP CO; have CP := BP6.cell; have CO := BO6.cell)
        | (go_at_call 13; go_must (refine (HSM.out _ hbx6).mono ?_); rintro e w7 ⟨rfl, hb7⟩; have hbw7 := bt hbw6 hb7)
        | (go_at_call 9; go_must (refine (alive18_c _).mono ?_); rintro e w8 ⟨rfl, hb8⟩))
      go_ret
      exact ⟨rfl, bt hbw7 hb8⟩
    | false =>
      have HALL' : Hid (∀ w4, Below w3.heap.size w3 w4 → Calls Tryz.prog 11 #[.agg #[.slice S' p.sec.length c1', .slice P' p.par.length c2', .slice B' p.blk.length c3']] w4 fun e w' => e = .returned (.int .i64 2) ∧ Below w4.heap.size w4 w') := HALL
      clear HALL
      go_wp2_with (first
        | (go_at_call 11; go_must (refine (HALL'.out _ hbx).mono ?_); rintro e w5 ⟨rfl, hb5⟩; have BP5 := BP4.mono hb5; have BO5 := BO.mono hb5; have hbx5 := bt hbx hb5; have hbw5 := bt hbw4 hb5; clear CP CO; have CP := BP5.cell; have CO := BO5.cell)
        | (go_at_call 12; go_must (refine (HMAY.out _ hbx5).mono ?_); rintro e w6 ⟨rfl, hb6⟩; have BP6 := BP5.mono hb6; have BO6 := BO5.mono hb6; have hbx6 := bt hbx5 hb6; have hbw6 := bt hbw5 hb6; clear CP CO; have CP := BP6.cell; have CO := BO6.cell)
        | (go_at_call 13; go_must (refine (HSM.out _ hbx6).mono ?_); rintro e w7 ⟨rfl, hb7⟩; have hbw7 := bt hbw6 hb7)
        | (go_at_call 9; go_must (refine (alive18_c _).mono ?_); rintro e w8 ⟨rfl, hb8⟩))
      go_ret
      exact ⟨rfl, bt hbw7 hb8⟩
end Go.Proofs.YtoabiignjkcdmaaGreat
