/-
  FoldRuns: for every program of steps, input, arena and fuel, where a run is not at fault and ends, one of what the program was folded to ends alike, in no more steps; no condition.
-/
import Derived.Test.YtoabiignjkcdmaaGreatRows
import Derived.Test.YtoabiignjkcdmaaGreatFd24
import Derived.Test.YtoabiignjkcdmaaGreatFd44
namespace Go.Proofs.YtoabiignjkcdmaaGreat.foldRuns
open Go.ChangeShapes Go.WideShapes Go.ChangeAt Go.RowKit
set_option linter.unusedVariables false

set_option maxRecDepth 100000 in
theorem walk (W : World) (base : Nat) (v0 v1 v2 v3 : Value) {H : Type} {enc : TypeId × Value → H} {d0 d1 d2 d3 : DataW H} {p0 p1 p2 p3 : List MemPlace}
    (hv0 : Value.okWide Tryz.prog W .any base 26 v0) (h0 : DataW.Trod enc Tryz.prog W 0 (fun _ => true) true 26 v0 d0 p0) (hw0 : ∀ n ∈ d0.weights Tryz.prog 26, n ≤ reachBytes)
    (hv1 : Value.okWide Tryz.prog W .any base 43 v1) (h1 : DataW.Trod enc Tryz.prog W 0 (fun _ => true) true 43 v1 d1 p1) (hw1 : ∀ n ∈ d1.weights Tryz.prog 43, n ≤ reachBytes)
    (hv2 : Value.okWide Tryz.prog W .any base 3 v2) (h2 : DataW.Trod enc Tryz.prog W 0 (fun _ => true) true 3 v2 d2 p2)
    (hv3 : Value.okWide Tryz.prog W .any base 44 v3) (h3 : DataW.Trod enc Tryz.prog W 0 (fun _ => true) true 44 v3 d3 p3)
    : Calls Tryz.prog 5 #[v0, v1, v2, v3] W fun e w' => e = .returned (.bool true) ∧ Below W.heap.size W w' := by
  obtain ⟨cs0, rfl, -⟩ := okWide_struct Tryz.underlying26 hv0
  obtain ⟨f0, hf0⟩ := h0
  obtain ⟨p, S, P, B, c1, c2, c3, e0, hS, hP, hB, hm, hbk⟩ := open_ir hf0 hw0
  have hc0 : cs0 = irV p S P B c1 c2 c3 := by
    have : cs0.toList = _ := e0
    rw [← Array.toArray_toList (xs := cs0), this]
  subst hc0
  obtain ⟨cs1, rfl, -⟩ := okWide_struct Tryz.underlying43 hv1
  obtain ⟨f1, hf1⟩ := h1
  obtain ⟨i, NA, BA, nc, bc, e1, hNA, hBA, hnc, hbl, hnr, hbz⟩ := open_in hf1 hw1
  have hc1 : cs1 = inV i NA BA nc bc := by
    have : cs1.toList = _ := e1
    rw [← Array.toArray_toList (xs := cs1), this]
  subst hc1
  obtain ⟨a, rfl, -, -, -⟩ := open_int Tryz.underlying3 hv2 h2
  obtain ⟨fu, rfl, -, -, hfu⟩ := open_int Tryz.underlying44 hv3 h3
  simp [Lit.wf, IntKind.min, IntKind.max, IntKind.signed, IntKind.bits] at hfu
  have hmL : maxLen = 9223372036854775807 := rfl
  rw [hmL] at hm hnc hbl
  exact foldRuns_c p i a fu W S P B NA BA c1 c2 c3 nc bc hS hP hB hNA hBA hm (fun hs => runOk_in (by have := hs.par; omega) hbk (by rw [hmL]; omega) (by rw [hmL]; omega) hbz hnr) (fun b hb => by have := (hbk b hb).1; unfold reachBytes at this; omega) ⟨by omega, by omega⟩ ⟨by omega, by omega⟩ (by omega)

set_option maxRecDepth 100000 in
theorem lifted (os : Os) (started : os.Started) (H : Type) (enc : TypeId × Value → H) :
    ReturnsInHanded {} Tryz.checked os 5 .any (Rows.foldRunsSpec.pre6 enc Tryz.prog Tryz.f5 Rows.foldRunsRow.domain false) (Rows.foldRunsSpec.post enc Tryz.prog Tryz.f5 false true false false) := by
  refine returnsInHanded_of_change_sized (C := Tryz.checked) own started (by kernel_rfl) Tryz.func5
    (ChangeSpec.witness6 (enc := enc) (C := Tryz.checked) false ⟨#[], #[.agg #[.slice none 0 0, .slice none 0 0, .slice none 0 0], .agg #[.slice none 0 0, .slice none 0 0], .int .i64 0, .int .u16 0], []⟩ 8 (by kernel_rfl) (by kernel_rfl) (by kernel_rfl) (by kernel_rfl)) ?_
  intro W base args ds gs before hval0 hW hcnd hsz0 _
  have hsz : (DataW.weightsEach Tryz.prog (Tryz.f5.params.toList ++ Rows.foldRunsSpec.plain.varTypes Tryz.prog) (ds ++ gs)).all (· ≤ reachBytes) = true := hsz0
  have hval : ∀ (j : Nat) t v, Tryz.f5.params[j]? = some t → args[j]? = some v → Value.okWide Tryz.prog W .any base t v := hval0
  have hW' := hW
  obtain ⟨p, q, hA0, hV, rfl, hfz, hnd⟩ := hW
  have hA : DataW.TrodAll enc Tryz.prog W 0 (fun _ => true) true Tryz.f5.params.toList args.toList ds p := hA0
  rw [Tryz.params5] at hA hval hsz
  have hAll := hA
  obtain ⟨v0, vs0, d0, ds0, p0, q0, hargs, rfl, rfl, h0, r0⟩ := trodAll_cons hA
  obtain ⟨v1, vs1, d1, ds1, p1, q1, rfl, rfl, rfl, h1, r1⟩ := trodAll_cons r0
  obtain ⟨v2, vs2, d2, ds2, p2, q2, rfl, rfl, rfl, h2, r2⟩ := trodAll_cons r1
  obtain ⟨v3, vs3, d3, ds3, p3, q3, rfl, rfl, rfl, h3, r3⟩ := trodAll_cons r2
  obtain ⟨rfl, rfl, rfl⟩ := trodAll_nil r3
  obtain rfl : args = #[v0, v1, v2, v3] := by cases args; simp_all
  obtain ⟨rfl, rfl⟩ := trodVars_none hV
  have hw0 : ∀ n ∈ d0.weights Tryz.prog 26, n ≤ reachBytes := fun n hn => by
    have := List.all_eq_true.1 hsz n (DataW.weights_mem_each (j := 0) rfl rfl n hn)
    simpa using this
  have hw1 : ∀ n ∈ d1.weights Tryz.prog 43, n ≤ reachBytes := fun n hn => by
    have := List.all_eq_true.1 hsz n (DataW.weights_mem_each (j := 1) rfl rfl n hn)
    simpa using this
  refine (walk W base v0 v1 v2 v3 (hval 0 26 v0 rfl rfl) h0 hw0 (hval 1 43 v1 rfl rfl) h1 hw1 (hval 2 3 v2 rfl rfl) h2 (hval 3 44 v3 rfl rfl) h3).mono fun e W' ⟨he, bel⟩ => ?_
  subst he
  have hAll' := trodAll_below laidOut bel (by
    intro t ht
    have ht' : t = 26 ∨ t = 43 ∨ t = 3 ∨ t = 44 := by simp at ht; omega
    rcases ht' with rfl | rfl | rfl | rfl
    · exact ⟨by kernel_rfl, of_decide_eq_true (by kernel_rfl)⟩
    · exact ⟨by kernel_rfl, of_decide_eq_true (by kernel_rfl)⟩
    · exact ⟨by kernel_rfl, of_decide_eq_true (by kernel_rfl)⟩
    · exact ⟨by kernel_rfl, of_decide_eq_true (by kernel_rfl)⟩) hAll
  exact ⟨_, rfl, _, _, _, [], _, [], hW', trodAll_mk1 (shut_bool Tryz.underlying4 _), hAll', rfl, bel.frame _, fun h => by cases h⟩

theorem over : Rows.foldRunsRow.holds Tryz.pinned (OpenSpec.ofChange Rows.foldRunsSpec) :=
  OpenClaim.holds_of_wide 5 Tryz.f5 rfl rfl rfl rfl rfl rfl rfl ⟨rfl, rfl, rfl, rfl, rfl⟩ rfl rfl rfl rfl rfl (by kernel_rfl) Tryz.func5 (by kernel_rfl)
    (of_decide_eq_true (by kernel_rfl)) (by unfold Func.isWrapper; first | (rw [if_pos (by decide +kernel)]; kernel_rfl) | (rw [if_neg (by decide +kernel)]; exact ⟨rfl, rfl⟩))
    (fun os started H enc _ => lifted os started H enc)
end Go.Proofs.YtoabiignjkcdmaaGreat.foldRuns
namespace Go.Proofs.YtoabiignjkcdmaaGreat
theorem foldRuns_holds : Rows.FoldRunsSaid := foldRuns.over
end Go.Proofs.YtoabiignjkcdmaaGreat
