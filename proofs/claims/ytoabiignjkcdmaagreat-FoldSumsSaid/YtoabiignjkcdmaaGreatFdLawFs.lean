/-
  FoldSums: for every function and every row of numbers, what is put together of constants is folded to two steps at most; no condition.
-/
import Derived.Test.YtoabiignjkcdmaaGreatRows
import Derived.Test.YtoabiignjkcdmaaGreatFd24
import Derived.Test.YtoabiignjkcdmaaGreatFd45
namespace Go.Proofs.YtoabiignjkcdmaaGreat.foldSums
open Go.ChangeShapes Go.WideShapes Go.ChangeAt Go.RowKit
set_option linter.unusedVariables false

set_option maxRecDepth 100000 in
theorem walk (W : World) (base : Nat) (v0 v1 : Value) {H : Type} {enc : TypeId × Value → H} {d0 d1 : DataW H} {p0 p1 : List MemPlace}
    (hv0 : Value.okWide Tryz.prog W .any base 5 v0) (h0 : DataW.Trod enc Tryz.prog W 0 (fun _ => true) true 5 v0 d0 p0)
    (hv1 : Value.okWide Tryz.prog W .any base 40 v1) (h1 : DataW.Trod enc Tryz.prog W 0 (fun _ => true) true 40 v1 d1 p1) (hw1 : ∀ n ∈ d1.weights Tryz.prog 40, n ≤ reachBytes)
    : Calls Tryz.prog 7 #[v0, v1] W fun e w' => e = .returned (.bool true) ∧ Below W.heap.size W w' := by
  obtain ⟨fn, rfl, -, -, hfn⟩ := open_int Tryz.underlying5 hv0 h0
  simp [Lit.wf, IntKind.min, IntKind.max, IntKind.signed, IntKind.bits] at hfn
  obtain ⟨a1, len1, cap1, rfl⟩ := okWide_slice Tryz.underlying40 hv1
  obtain ⟨f1, hf1⟩ := h1
  obtain ⟨l, ⟨A, c, e1, hm, hr⟩, hq⟩ := opens_slice (k := kU64) (by decide) opens_u64 Tryz.underlying40 cellsU64 enc W _ _ _ _ hf1 hw1
  obtain ⟨rfl, rfl, rfl⟩ : a1 = A ∧ len1 = l.length ∧ cap1 = c := by simpa [Value.cells] using e1
  refine foldSums_c fn l W a1 cap1 hr (by unfold maxLen at hm; omega) (by omega) (fun x hx => ?_)
  have g := hq.2 x hx
  simp [Lit.wf, IntKind.min, IntKind.max, IntKind.signed, IntKind.bits] at g
  omega

set_option maxRecDepth 100000 in
theorem lifted (os : Os) (started : os.Started) (H : Type) (enc : TypeId × Value → H) :
    ReturnsInHanded {} Tryz.checked os 7 .any (Rows.foldSumsSpec.pre6 enc Tryz.prog Tryz.f7 Rows.foldSumsRow.domain false) (Rows.foldSumsSpec.post enc Tryz.prog Tryz.f7 false true false false) := by
  refine returnsInHanded_of_change_sized (C := Tryz.checked) own started (by kernel_rfl) Tryz.func7
    (ChangeSpec.witness6 (enc := enc) (C := Tryz.checked) false ⟨#[], #[.int .u8 0, .slice none 0 0], []⟩ 8 (by kernel_rfl) (by kernel_rfl) (by kernel_rfl) (by kernel_rfl)) ?_
  intro W base args ds gs before hval0 hW hcnd hsz0 _
  have hsz : (DataW.weightsEach Tryz.prog (Tryz.f7.params.toList ++ Rows.foldSumsSpec.plain.varTypes Tryz.prog) (ds ++ gs)).all (· ≤ reachBytes) = true := hsz0
  have hval : ∀ (j : Nat) t v, Tryz.f7.params[j]? = some t → args[j]? = some v → Value.okWide Tryz.prog W .any base t v := hval0
  have hW' := hW
  obtain ⟨p, q, hA0, hV, rfl, hfz, hnd⟩ := hW
  have hA : DataW.TrodAll enc Tryz.prog W 0 (fun _ => true) true Tryz.f7.params.toList args.toList ds p := hA0
  rw [Tryz.params7] at hA hval hsz
  have hAll := hA
  obtain ⟨v0, vs0, d0, ds0, p0, q0, hargs, rfl, rfl, h0, r0⟩ := trodAll_cons hA
  obtain ⟨v1, vs1, d1, ds1, p1, q1, rfl, rfl, rfl, h1, r1⟩ := trodAll_cons r0
  obtain ⟨rfl, rfl, rfl⟩ := trodAll_nil r1
  obtain rfl : args = #[v0, v1] := by cases args; simp_all
  obtain ⟨rfl, rfl⟩ := trodVars_none hV
  have hw1 : ∀ n ∈ d1.weights Tryz.prog 40, n ≤ reachBytes := fun n hn => by
    have := List.all_eq_true.1 hsz n (DataW.weights_mem_each (j := 1) rfl rfl n hn)
    simpa using this
  refine (walk W base v0 v1 (hval 0 5 v0 rfl rfl) h0 (hval 1 40 v1 rfl rfl) h1 hw1).mono fun e W' ⟨he, bel⟩ => ?_
  subst he
  have hAll' := trodAll_below laidOut bel (by
    intro t ht
    have ht' : t = 5 ∨ t = 40 := by simp at ht; omega
    rcases ht' with rfl | rfl
    · exact ⟨by kernel_rfl, of_decide_eq_true (by kernel_rfl)⟩
    · exact ⟨by kernel_rfl, of_decide_eq_true (by kernel_rfl)⟩) hAll
  exact ⟨_, rfl, _, _, _, [], _, [], hW', trodAll_mk1 (shut_bool Tryz.underlying4 _), hAll', rfl, bel.frame _, fun h => by cases h⟩

theorem over : Rows.foldSumsRow.holds Tryz.pinned (OpenSpec.ofChange Rows.foldSumsSpec) :=
  OpenClaim.holds_of_wide 7 Tryz.f7 rfl rfl rfl rfl rfl rfl rfl ⟨rfl, rfl, rfl, rfl, rfl⟩ rfl rfl rfl rfl rfl (by kernel_rfl) Tryz.func7 (by kernel_rfl)
    (of_decide_eq_true (by kernel_rfl)) (by unfold Func.isWrapper; first | (rw [if_pos (by decide +kernel)]; kernel_rfl) | (rw [if_neg (by decide +kernel)]; exact ⟨rfl, rfl⟩))
    (fun os started H enc _ => lifted os started H enc)
end Go.Proofs.YtoabiignjkcdmaaGreat.foldSums
namespace Go.Proofs.YtoabiignjkcdmaaGreat
theorem foldSums_holds : Rows.FoldSumsSaid := foldSums.over
end Go.Proofs.YtoabiignjkcdmaaGreat
