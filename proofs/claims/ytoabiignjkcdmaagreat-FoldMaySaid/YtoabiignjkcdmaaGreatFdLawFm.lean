/-
  FoldMay: for every program of steps, what is folded may be, keeps what works, and has nothing left that may not be; no condition.
-/
import Derived.Test.YtoabiignjkcdmaaGreatRows
import Derived.Test.YtoabiignjkcdmaaGreatFd24
import Derived.Test.YtoabiignjkcdmaaGreatFd48
namespace Go.Proofs.YtoabiignjkcdmaaGreat.foldMay
open Go.ChangeShapes Go.WideShapes Go.ChangeAt Go.RowKit
set_option linter.unusedVariables false

set_option maxRecDepth 100000 in
theorem walk (W : World) (base : Nat) (v0 : Value) {H : Type} {enc : TypeId × Value → H} {d0 : DataW H} {p0 : List MemPlace}
    (hv0 : Value.okWide Tryz.prog W .any base 26 v0) (h0 : DataW.Trod enc Tryz.prog W 0 (fun _ => true) true 26 v0 d0 p0) (hw0 : ∀ n ∈ d0.weights Tryz.prog 26, n ≤ reachBytes)
    : Calls Tryz.prog 4 #[v0] W fun e w' => e = .returned (.bool true) ∧ Below W.heap.size W w' := by
  obtain ⟨cs0, rfl, -⟩ := okWide_struct Tryz.underlying26 hv0
  obtain ⟨f0, hf0⟩ := h0
  obtain ⟨p, S, P, B, c1, c2, c3, e0, hS, hP, hB, hm, hbk⟩ := open_ir hf0 hw0
  have hc0 : cs0 = irV p S P B c1 c2 c3 := by
    have : cs0.toList = _ := e0
    rw [← Array.toArray_toList (xs := cs0), this]
  subst hc0
  have hmL : maxLen = 9223372036854775807 := rfl
  rw [hmL] at hm
  refine foldMay_c p W S P B c1 c2 c3 hS hP hB hm (fun b hb => by have := (hbk b hb).1; unfold reachBytes at this; omega) (fun b hb o ho => ?_)
  obtain ⟨_, g1, _, _, _, g2⟩ := (hbk b hb).2 o ho
  simp [Lit.wf, IntKind.min, IntKind.max, IntKind.signed, IntKind.bits] at g1 g2
  unfold ImmOk
  omega

set_option maxRecDepth 100000 in
theorem lifted (os : Os) (started : os.Started) (H : Type) (enc : TypeId × Value → H) :
    ReturnsInHanded {} Tryz.checked os 4 .any (Rows.foldMaySpec.pre6 enc Tryz.prog Tryz.f4 Rows.foldMayRow.domain false) (Rows.foldMaySpec.post enc Tryz.prog Tryz.f4 false true false false) := by
  refine returnsInHanded_of_change_sized (C := Tryz.checked) own started (by kernel_rfl) Tryz.func4
    (ChangeSpec.witness6 (enc := enc) (C := Tryz.checked) false ⟨#[], #[.agg #[.slice none 0 0, .slice none 0 0, .slice none 0 0]], []⟩ 8 (by kernel_rfl) (by kernel_rfl) (by kernel_rfl) (by kernel_rfl)) ?_
  intro W base args ds gs before hval0 hW hcnd hsz0 _
  have hsz : (DataW.weightsEach Tryz.prog (Tryz.f4.params.toList ++ Rows.foldMaySpec.plain.varTypes Tryz.prog) (ds ++ gs)).all (· ≤ reachBytes) = true := hsz0
  have hval : ∀ (j : Nat) t v, Tryz.f4.params[j]? = some t → args[j]? = some v → Value.okWide Tryz.prog W .any base t v := hval0
  have hW' := hW
  obtain ⟨p, q, hA0, hV, rfl, hfz, hnd⟩ := hW
  have hA : DataW.TrodAll enc Tryz.prog W 0 (fun _ => true) true Tryz.f4.params.toList args.toList ds p := hA0
  rw [Tryz.params4] at hA hval hsz
  have hAll := hA
  obtain ⟨v0, vs0, d0, ds0, p0, q0, hargs, rfl, rfl, h0, r0⟩ := trodAll_cons hA
  obtain ⟨rfl, rfl, rfl⟩ := trodAll_nil r0
  obtain rfl : args = #[v0] := by cases args; simp_all
  obtain ⟨rfl, rfl⟩ := trodVars_none hV
  have hw0 : ∀ n ∈ d0.weights Tryz.prog 26, n ≤ reachBytes := fun n hn => by
    have := List.all_eq_true.1 hsz n (DataW.weights_mem_each (j := 0) rfl rfl n hn)
    simpa using this
  refine (walk W base v0 (hval 0 26 v0 rfl rfl) h0 hw0).mono fun e W' ⟨he, bel⟩ => ?_
  subst he
  have hAll' := trodAll_below laidOut bel (by
    intro t ht
    have ht' : t = 26 := by simp at ht; omega
    rcases ht' with rfl
    · exact ⟨by kernel_rfl, of_decide_eq_true (by kernel_rfl)⟩) hAll
  exact ⟨_, rfl, _, _, _, [], _, [], hW', trodAll_mk1 (shut_bool Tryz.underlying4 _), hAll', rfl, bel.frame _, fun h => by cases h⟩

theorem over : Rows.foldMayRow.holds Tryz.pinned (OpenSpec.ofChange Rows.foldMaySpec) :=
  OpenClaim.holds_of_wide 4 Tryz.f4 rfl rfl rfl rfl rfl rfl rfl ⟨rfl, rfl, rfl, rfl, rfl⟩ rfl rfl rfl rfl rfl (by kernel_rfl) Tryz.func4 (by kernel_rfl)
    (of_decide_eq_true (by kernel_rfl)) (by unfold Func.isWrapper; first | (rw [if_pos (by decide +kernel)]; kernel_rfl) | (rw [if_neg (by decide +kernel)]; exact ⟨rfl, rfl⟩))
    (fun os started H enc _ => lifted os started H enc)
end Go.Proofs.YtoabiignjkcdmaaGreat.foldMay
namespace Go.Proofs.YtoabiignjkcdmaaGreat
theorem foldMay_holds : Rows.FoldMaySaid := foldMay.over
end Go.Proofs.YtoabiignjkcdmaaGreat
