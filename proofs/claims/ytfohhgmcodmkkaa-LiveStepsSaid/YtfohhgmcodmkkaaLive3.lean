/-
  The document's Asks and Same.
-/
import Derived.Test.YtfohhgmcodmkkaaLive2
import Derived.Test.YtfohhgmcodmkkaaApp
namespace Go.Proofs.Ytfohhgmcodmkkaa
open Go.RowKit Go.Lib
set_option linter.unusedVariables false
set_option linter.unusedSimpArgs false

theorem ret_own {w : World} {B n : Nat} {e : TypeId} {v : Value} {m : List Int} (h : w.ownsRow B e 1 v n (m.map (Value.int .i64))) : ∃ A c, Ending.returned v = .returned (.slice A m.length c) ∧ kInt.Row w A m := by
  obtain ⟨A, c, rfl, hr⟩ := row_of_own h (by have := h.1; simp at this; omega)
  exact ⟨A, c, rfl, hr⟩

theorem one_two {k : Int} (h : oneK k = true) : twoK k = false := by
  simp only [oneK, Bool.or_eq_true, beq_iff_eq] at h
  rcases h with ((((h | h) | h) | h) | h) | h <;> subst h <;> rfl

/-- The document's row. -/
def refL (o : SOp) (x y : Int) : List Int := (if askB o x then [x] else []) ++ (if decide (y ≠ x) && askB o y then [y] else [])

theorem refAsks_eq (o : SOp) : refL o (min o.a o.b) (max o.a o.b) = asksS o := by
  unfold refL
  obtain ⟨k, fn, d, a, b, imm⟩ := o
  by_cases e : a = b
  · subst e
    simp [askB, asksS]
    cases oneK k <;> cases twoK k <;> simp
  · have hd : max a b ≠ min a b := by omega
    simp only [askB, asksS, e, if_false]
    by_cases hlt : a ≤ b
    · have e1 : min a b = a := by omega
      have e2 : max a b = b := by omega
      rw [e1, e2]
      have e' : ¬ b = a := fun h => e h.symm
      by_cases h1 : oneK k = true
      · simp [h1, one_two h1, e, e']
      · by_cases h2 : twoK k = true <;> simp [h1, h2, e, e']
    · have e1 : min a b = b := by omega
      have e2 : max a b = a := by omega
      rw [e1, e2]
      have e' : ¬ b = a := fun h => e h.symm
      by_cases h1 : oneK k = true
      · simp [h1, one_two h1, e, e']
      · by_cases h2 : twoK k = true <;> simp [h1, h2, e, e']

set_option maxRecDepth 100000 in
set_option maxHeartbeats 1000000 in
theorem refAsks_c (o : SOp) (w : World) :
    Calls Try.prog 10 #[.agg #[.int .u8 o.k, .int .u8 o.fn, .int .i64 o.d, .int .i64 o.a, .int .i64 o.b, .int .u64 o.imm]] w fun e w' => (∃ A c, e = .returned (.slice A (asksS o).length c) ∧ kInt.Row w' A (asksS o)) ∧ Below w.heap.size w w' := by
  have hbW : Below w.heap.size w (w.alloc (.cells #[.int .u8 o.k, .int .u8 o.fn, .int .i64 o.d, .int .i64 o.a, .int .i64 o.b, .int .u64 o.imm] 24)) := (Below.refl _ _).alloc (Nat.le_refl _) _
  have B1 := Bk.new w #[.int .u8 o.k, .int .u8 o.fn, .int .i64 o.d, .int .i64 o.a, .int .i64 o.b, .int .u64 o.imm] 24
  rw [← refAsks_eq]
  have hX : ∃ x, min o.a o.b = x := ⟨_, rfl⟩
  obtain ⟨x, hX⟩ := hX
  have hY : ∃ y, max o.a o.b = y := ⟨_, rfl⟩
  obtain ⟨y, hY⟩ := hY
  rw [hX, hY]
  go_enter Try.func10, Try.ntmps10
  have HXY := Lib.hid (And.intro hX hY)
  go_upto_region 1 with (fail)
  have C1 := B1.drew.cell
  go_cut [3, 4] (fun s t we => s = .int .i64 x ∧ t = .int .i64 y ∧ Below w.heap.size w we ∧ Bk we w.heap.size #[.int .u8 o.k, .int .u8 o.fn, .int .i64 o.d, .int .i64 o.a, .int .i64 o.b, .int .u64 o.imm] 24)
  case first =>
    go_quiet (fail)
    go_wp2
    go_meet
    case rel => exact ⟨by rw [← HXY.out.1], by rw [← HXY.out.2], hbW.trans ⟨rfl, rfl, rfl, Nat.le_refl _, fun _ _ => rfl⟩, B1⟩
  case rest =>
    obtain ⟨rfl, rfl, hb1, B2⟩ := hcut
    have C2 := B2.cell
    have hwl := B2.lt
    by_cases hne : y = x
    · subst hne
      cases hA : askB o y with
      | false =>
        have HA := Lib.hid hA; clear hA
        go_wp2_with (go_at_call 22; go_must (refine (asksOne_c o _ _).mono ?_); rintro e w1 ⟨rfl, hbA⟩; rw [HA.out]; replace B2 := B2.mono hbA; replace C2 := B2.cell; replace hb1 := bt hb1 hbA)
        go_ret
        refine ⟨?_, hb1⟩
        have hL : refL o y y = [] := by simp [refL, HA.out]
        rw [hL]
        exact ⟨_, _, rfl, .inl rfl⟩
      | true =>
        have HA := Lib.hid hA; clear hA
        go_wp2_with (first
          | (go_at_call 22; go_must (refine (asksOne_c o _ _).mono ?_); rintro e w1 ⟨rfl, hbA⟩; rw [HA.out]; replace B2 := B2.mono hbA; replace C2 := B2.cell; replace hb1 := bt hb1 hbA)
          | (at_builtin; go_must (refine wpList_append_int rfl _ _ rfl w1.heap.size _ _ [] rfl (World.ownsRow_nil ..) _ y rfl ((Bk.new _ _ _).cell 0) (by omega) (by simp) ?_); intro v1 w2 hown1 hgrow1))
        have hL : refL o y y = [y] := by simp [refL, HA.out]
        rw [hL]
        go_ret
        exact ⟨ret_own (m := [y]) (by simpa using hown1), (hb1.alloc hb1.size _).grown hgrow1 (by have := hb1.size; simp; omega) (fun q hq => by cases hq)⟩
    · cases hA : askB o x with
      | false =>
        cases hY : askB o y with
        | false =>
          have HA := Lib.hid hA; clear hA
          have HY := Lib.hid hY; clear hY
          go_wp2_with (go_at_call 22; go_must (refine (asksOne_c o _ _).mono ?_); rintro e w1 ⟨rfl, hbA⟩; (first | rw [HA.out] | rw [HY.out]); replace B2 := B2.mono hbA; replace C2 := B2.cell; replace hb1 := bt hb1 hbA)
          have hL : refL o x y = [] := by simp [refL, HA.out, HY.out]
          rw [hL]
          go_ret
          exact ⟨⟨_, _, rfl, .inl rfl⟩, hb1⟩
        | true =>
          have HA := Lib.hid hA; clear hA
          have HY := Lib.hid hY; clear hY
          go_wp2_with (first
            | (go_at_call 22; go_must (refine (asksOne_c o _ _).mono ?_); rintro e w1 ⟨rfl, hbA⟩; (first | rw [HA.out] | rw [HY.out]); replace B2 := B2.mono hbA; replace C2 := B2.cell; replace hb1 := bt hb1 hbA)
            | (at_builtin; go_must (refine wpList_append_int rfl _ _ rfl w1.heap.size (.slice none 0 0) _ [] rfl (World.ownsRow_nil ..) _ y rfl ((Bk.new _ _ _).cell 0) (by omega) (by simp) ?_); intro v1 w2 hown1 hgrow1))
          have hL : refL o x y = [y] := by simp [refL, HA.out, HY.out, hne]
          rw [hL]
          go_ret
          exact ⟨ret_own (m := [y]) (by simpa using hown1), (hb1.alloc hb1.size _).grown hgrow1 (by have := hb1.size; simp; omega) (fun q hq => by cases hq)⟩
      | true =>
        cases hY : askB o y with
        | false =>
          have HA := Lib.hid hA; clear hA
          have HY := Lib.hid hY; clear hY
          go_wp2_with (first
            | (go_at_call 22; go_must (refine (asksOne_c o _ _).mono ?_); rintro e w1 ⟨rfl, hbA⟩; rw [HA.out]; replace B2 := B2.mono hbA; replace C2 := B2.cell; replace hb1 := bt hb1 hbA)
            | (go_at_call 22; go_must (refine (asksOne_c o _ _).mono ?_); rintro e w3 ⟨rfl, hbY⟩; rw [HY.out]; have hown2 := own_below hown1 hbY; have hb3 := bt hb2 hbY)
            | (at_builtin; go_must (refine wpList_append_int rfl _ _ rfl w1.heap.size (.slice none 0 0) _ [] rfl (World.ownsRow_nil ..) _ x rfl ((Bk.new _ _ _).cell 0) (by omega) (by simp) ?_); intro v1 w2 hown1 hgrow1; replace B2 := (B2.alloc (.cells #[.int .i64 x] 3)).grown hgrow1 (by intro h; cases h); replace C2 := B2.cell; have hb2 := (hb1.alloc hb1.size (.cells #[.int .i64 x] 3)).grown hgrow1 (by have := hb1.size; simp; omega) (fun q hq => by cases hq)))
          have hL : refL o x y = [x] := by simp [refL, HA.out, HY.out]
          rw [hL]
          go_ret
          exact ⟨ret_own (m := [x]) (by simpa using hown2), hb3⟩
        | true =>
          have HA := Lib.hid hA; clear hA
          have HY := Lib.hid hY; clear hY
          go_wp2_with (first
            | (go_at_call 22; go_must (refine (asksOne_c o _ _).mono ?_); rintro e w1 ⟨rfl, hbA⟩; rw [HA.out]; replace B2 := B2.mono hbA; replace C2 := B2.cell; replace hb1 := bt hb1 hbA)
            | (go_at_call 22; go_must (refine (asksOne_c o _ _).mono ?_); rintro e w3 ⟨rfl, hbY⟩; rw [HY.out]; have hown2 := own_below hown1 hbY; have hb3 := bt hb2 hbY)
            | (at_builtin; refine wpList_append_int rfl _ _ rfl w1.heap.size (.slice none 0 0) _ [] rfl (World.ownsRow_nil ..) _ x rfl ((Bk.new _ _ _).cell 0) (by omega) (by simp) ?_; intro v1 w2 hown1 hgrow1; replace B2 := (B2.alloc (.cells #[.int .i64 x] 3)).grown hgrow1 (by intro h; cases h); replace C2 := B2.cell; have hb2 := (hb1.alloc hb1.size (.cells #[.int .i64 x] 3)).grown hgrow1 (by have := hb1.size; simp; omega) (fun q hq => by cases hq))
            | (at_builtin; go_must (refine wpList_append_int rfl _ _ rfl w1.heap.size v1 _ _ rfl (hown2.alloc _) _ y rfl ((Bk.new _ _ _).cell 0) (by omega) (by have h9 := hgrow1.size; simp at h9; have := hbY.size; simp; omega) ?_); intro v4 w4 hown4 hgrow4))
          have hL : refL o x y = [x, y] := by simp [refL, HA.out, HY.out, hne]
          rw [hL]
          go_ret
          exact ⟨ret_own (m := [x, y]) (by simpa using hown4), (hb3.alloc hb3.size _).grown hgrow4 (by have := hb3.size; simp; omega) (fun q hq => by have := own_from hown2 q hq; have := hb1.size; omega)⟩

end Go.Proofs.Ytfohhgmcodmkkaa
