/-
  IrSecret: for every program of steps, every input, every row of bytes by which its secrets are turned, every arena and every fuel, two runs that tell the same end alike, in as many steps, with the same public buffers, and where no step tells one is at fault just if the other one is; no condition.
-/
import Derived.Test.YtoabiignjkcdmaaRows
import Derived.Test.YtoabiignjkcdmaaOpenR
import Derived.Test.YtoabiignjkcdmaaRunK7
namespace Go.Proofs.Ytoabiignjkcdmaa.irSecret
open Go.ChangeShapes Go.WideShapes Go.ChangeAt Go.RowKit
set_option linter.unusedVariables false

theorem opens_u8 : Opens Try.prog 5 kU8 (fun x => (Lit.int .u8 x).wf = true) := opens_int _ (fun _ => rfl) (fun _ => rfl) Try.underlying5
set_option maxRecDepth 100000 in
theorem walk (W : World) (base : Nat) (v0 v1 v2 v3 v4 : Value) {H : Type} {enc : TypeId × Value → H} {d0 d1 d2 d3 d4 : DataW H} {p0 p1 p2 p3 p4 : List MemPlace}
    (hv0 : Value.okWide Try.prog W .any base 26 v0) (h0 : DataW.Trod enc Try.prog W 0 (fun _ => true) true 26 v0 d0 p0) (hw0 : ∀ n ∈ d0.weights Try.prog 26, n ≤ reachBytes)
    (hv1 : Value.okWide Try.prog W .any base 30 v1) (h1 : DataW.Trod enc Try.prog W 0 (fun _ => true) true 30 v1 d1 p1) (hw1 : ∀ n ∈ d1.weights Try.prog 30, n ≤ reachBytes)
    (hv2 : Value.okWide Try.prog W .any base 42 v2) (h2 : DataW.Trod enc Try.prog W 0 (fun _ => true) true 42 v2 d2 p2) (hw2 : ∀ n ∈ d2.weights Try.prog 42, n ≤ reachBytes)
    (hv3 : Value.okWide Try.prog W .any base 3 v3) (h3 : DataW.Trod enc Try.prog W 0 (fun _ => true) true 3 v3 d3 p3)
    (hv4 : Value.okWide Try.prog W .any base 31 v4) (h4 : DataW.Trod enc Try.prog W 0 (fun _ => true) true 31 v4 d4 p4) :
    Calls Try.prog 4 #[v0, v1, v2, v3, v4] W fun e w' => e = .returned (.bool true) ∧ Below W.heap.size W w' := by
  obtain ⟨cs0, rfl, -⟩ := okWide_struct Try.underlying26 hv0
  obtain ⟨cs1, rfl, -⟩ := okWide_struct Try.underlying30 hv1
  obtain ⟨f0, hf0⟩ := h0
  obtain ⟨f1, hf1⟩ := h1
  obtain ⟨p, S, P, B, c1, c2, c3, e0, hS, hP, hB, hm, hbk⟩ := open_ir hf0 hw0
  obtain ⟨i, NA, BA, nc, bc, e1, hNA, hBA, hnc, hbl, hnr, hbz⟩ := open_in hf1 hw1
  have hc0 : cs0 = irV p S P B c1 c2 c3 := by
    have : cs0.toList = _ := e0
    rw [← Array.toArray_toList (xs := cs0), this]
  have hc1 : cs1 = inV i NA BA nc bc := by
    have : cs1.toList = _ := e1
    rw [← Array.toArray_toList (xs := cs1), this]
  subst hc0
  subst hc1
  obtain ⟨Y, yl, yc, rfl⟩ := okWide_slice Try.underlying42 hv2
  obtain ⟨f2, hf2⟩ := h2
  obtain ⟨bys, ⟨Y', yc', e2, hyl, hY⟩, -⟩ := opens_slice (k := kU8) (by decide) opens_u8 Try.underlying42 cellsU8 enc W _ _ _ _ hf2 hw2
  obtain ⟨rfl, rfl, rfl⟩ : Y = Y' ∧ yl = bys.length ∧ yc = yc' := by
    have e3 : [Value.slice Y yl yc] = [Value.slice Y' bys.length yc'] := e2
    injection e3 with e3 _
    injection e3 with e4 e5 e6
    exact ⟨e4, e5, e6⟩
  obtain ⟨a, rfl, -, -, -⟩ := open_int Try.underlying3 hv3 h3
  obtain ⟨fu, rfl, -, -, hfu⟩ := open_int Try.underlying31 hv4 h4
  simp [Lit.wf, IntKind.min, IntKind.max, IntKind.signed, IntKind.bits] at hfu
  have hmL : maxLen = 9223372036854775807 := rfl
  rw [hmL] at hm hnc hbl hyl
  refine irSecret_c p i bys a fu W S P B NA BA Y c1 c2 c3 nc bc yc hS hP hB hNA hBA hY hm (fun hs => runOk_in (by have := hs.par; omega) hbk (by rw [hmL]; omega) (by rw [hmL]; omega) hbz hnr) (fun b hb => by have := (hbk b hb).1; unfold reachBytes at this; omega) ⟨by omega, by omega⟩ ⟨by omega, by omega⟩ (by omega) (by omega) (fun b hb => by have := hbz b hb; unfold reachBytes at this; omega) (fun b hb o ho => by
    obtain ⟨_, h1, _⟩ := (hbk b hb).2 o ho
    simp [Lit.wf, IntKind.min, IntKind.max, IntKind.signed, IntKind.bits] at h1
    omega) hnr

set_option maxRecDepth 100000 in
theorem lifted (os : Os) (started : os.Started) (H : Type) (enc : TypeId × Value → H) :
    ReturnsInHanded {} Try.checked os 4 .any (Rows.irSecretSpec.pre6 enc Try.prog Try.f4 Rows.irSecretRow.domain false) (Rows.irSecretSpec.post enc Try.prog Try.f4 false true false false) := by
  refine returnsInHanded_of_change_sized (C := Try.checked) own started (by kernel_rfl) Try.func4
    (ChangeSpec.witness6 (enc := enc) (C := Try.checked) false ⟨#[], #[.agg #[.slice none 0 0, .slice none 0 0, .slice none 0 0], .agg #[.slice none 0 0, .slice none 0 0], .slice none 0 0, .int .i64 0, .int .u16 0], []⟩ 8 (by kernel_rfl) (by kernel_rfl) (by kernel_rfl) (by kernel_rfl)) ?_
  intro W base args ds gs before hval0 hW hcnd hsz0 _
  have hsz : (DataW.weightsEach Try.prog (Try.f4.params.toList ++ Rows.irSecretSpec.plain.varTypes Try.prog) (ds ++ gs)).all (· ≤ reachBytes) = true := hsz0
  have hval : ∀ (j : Nat) t v, Try.f4.params[j]? = some t → args[j]? = some v → Value.okWide Try.prog W .any base t v := hval0
  have hW' := hW
  obtain ⟨p, q, hA0, hV, rfl, hfz, hnd⟩ := hW
  have hA : DataW.TrodAll enc Try.prog W 0 (fun _ => true) true Try.f4.params.toList args.toList ds p := hA0
  rw [Try.params4] at hA hval hsz
  have hAll := hA
  obtain ⟨v0, vs0, d0, ds0, p0, q0, hargs, rfl, rfl, h0, r0⟩ := trodAll_cons hA
  obtain ⟨v1, vs1, d1, ds1, p1, q1, rfl, rfl, rfl, h1, r1⟩ := trodAll_cons r0
  obtain ⟨v2, vs2, d2, ds2, p2, q2, rfl, rfl, rfl, h2, r2⟩ := trodAll_cons r1
  obtain ⟨v3, vs3, d3, ds3, p3, q3, rfl, rfl, rfl, h3, r3⟩ := trodAll_cons r2
  obtain ⟨v4, vs4, d4, ds4, p4, q4, rfl, rfl, rfl, h4, r4⟩ := trodAll_cons r3
  obtain ⟨rfl, rfl, rfl⟩ := trodAll_nil r4
  obtain rfl : args = #[v0, v1, v2, v3, v4] := by cases args; simp_all
  obtain ⟨rfl, rfl⟩ := trodVars_none hV
  have hw0 : ∀ n ∈ d0.weights Try.prog 26, n ≤ reachBytes := fun n hn => by
    have := List.all_eq_true.1 hsz n (DataW.weights_mem_each (j := 0) rfl rfl n hn)
    simpa using this
  have hw1 : ∀ n ∈ d1.weights Try.prog 30, n ≤ reachBytes := fun n hn => by
    have := List.all_eq_true.1 hsz n (DataW.weights_mem_each (j := 1) rfl rfl n hn)
    simpa using this
  have hw2 : ∀ n ∈ d2.weights Try.prog 42, n ≤ reachBytes := fun n hn => by
    have := List.all_eq_true.1 hsz n (DataW.weights_mem_each (j := 2) rfl rfl n hn)
    simpa using this
  refine (walk W base v0 v1 v2 v3 v4 (hval 0 26 v0 rfl rfl) h0 hw0 (hval 1 30 v1 rfl rfl) h1 hw1 (hval 2 42 v2 rfl rfl) h2 hw2 (hval 3 3 v3 rfl rfl) h3 (hval 4 31 v4 rfl rfl) h4).mono fun e W' ⟨he, bel⟩ => ?_
  subst he
  have hAll' := trodAll_below laidOut bel (by
    intro t ht
    have ht' : t = 26 ∨ t = 30 ∨ t = 42 ∨ t = 3 ∨ t = 31 := by simpa using ht
    rcases ht' with rfl | rfl | rfl | rfl | rfl
    · exact ⟨by kernel_rfl, of_decide_eq_true (by kernel_rfl)⟩
    · exact ⟨by kernel_rfl, of_decide_eq_true (by kernel_rfl)⟩
    · exact ⟨by kernel_rfl, of_decide_eq_true (by kernel_rfl)⟩
    · exact ⟨by kernel_rfl, of_decide_eq_true (by kernel_rfl)⟩
    · exact ⟨by kernel_rfl, of_decide_eq_true (by kernel_rfl)⟩) hAll
  exact ⟨_, rfl, _, _, _, [], _, [], hW', trodAll_mk1 (shut_bool Try.underlying4 _), hAll', rfl, bel.frame _, fun h => by cases h⟩

theorem over : Rows.irSecretRow.holds Try.pinned (OpenSpec.ofChange Rows.irSecretSpec) :=
  OpenClaim.holds_of_wide 4 Try.f4 rfl rfl rfl rfl rfl rfl rfl ⟨rfl, rfl, rfl, rfl, rfl⟩ rfl rfl rfl rfl rfl (by kernel_rfl) Try.func4 (by kernel_rfl)
    (of_decide_eq_true (by kernel_rfl)) (by unfold Func.isWrapper; first | (rw [if_pos (by decide +kernel)]; kernel_rfl) | (rw [if_neg (by decide +kernel)]; exact ⟨rfl, rfl⟩))
    (fun os started H enc _ => lifted os started H enc)
end Go.Proofs.Ytoabiignjkcdmaa.irSecret
namespace Go.Proofs.Ytoabiignjkcdmaa
theorem irSecret_holds : Rows.IrSecretSaid := irSecret.over
end Go.Proofs.Ytoabiignjkcdmaa
