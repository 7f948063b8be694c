/-
  What a checked step keeps to, plainly.
-/
import Derived.Test.YtoabiignjkcdmaaGreatRunG1
namespace Go.Proofs.YtoabiignjkcdmaaGreat
open Go.RowKit
set_option linter.unusedVariables false
set_option linter.unusedSimpArgs false

theorem kf_d {k : Int} (h : k = 1 ∨ k = 2 ∨ k = 3 ∨ k = 4 ∨ k = 9 ∨ k = 12) : kf k 1 = true := by
  rcases h with rfl | rfl | rfl | rfl | rfl | rfl <;> rfl
theorem kf_a {k : Int} (h : 1 ≤ k ∧ k ≤ 13) (h' : k ≠ 1 ∧ k ≠ 13) : kf k 2 = true := by
  have h2 : k = 2 ∨ k = 3 ∨ k = 4 ∨ k = 5 ∨ k = 6 ∨ k = 7 ∨ k = 8 ∨ k = 9 ∨ k = 10 ∨ k = 11 ∨ k = 12 := by omega
  rcases h2 with rfl | rfl | rfl | rfl | rfl | rfl | rfl | rfl | rfl | rfl | rfl <;> rfl
theorem kf_b {k : Int} (h : k = 3 ∨ k = 5 ∨ k = 6 ∨ k = 7 ∨ k = 10) : kf k 3 = true := by
  rcases h with rfl | rfl | rfl | rfl | rfl <;> rfl
theorem opOk_of {p : SIr} {o : SOp} (h : opS p o = true) (hi : 0 ≤ o.imm ∧ o.imm < 18446744073709551616) (hf : 0 ≤ o.fn ∧ o.fn < 256) : OpOk p.sec.length o := by
  unfold opS at h
  by_cases hk : o.k < 1 ∨ 13 < o.k
  · rw [if_pos hk] at h
    cases h
  rw [if_neg hk] at h
  have hk' : 1 ≤ o.k ∧ o.k ≤ 13 := by omega
  cases hv : opV p.sec.length o.k o.d o.a o.b o.imm with
  | true => rw [hv, if_pos rfl] at h; cases h
  | false =>
    rw [hv, if_neg (by decide)] at h
    unfold opV at hv
    simp only [Bool.or_eq_false_iff, Bool.not_eq_false'] at hv
    obtain ⟨⟨⟨h1, h2⟩, h3⟩, _⟩ := hv
    refine ⟨hk', hi, hf, fun e => ?_, fun e => ?_, fun e => ?_, fun e => ?_⟩
    · unfold opT opE at h
      rw [e] at h
      simp only [Bool.and_eq_true, Bool.not_eq_true', Bool.or_eq_false_iff, Bool.and_eq_false_iff] at h
      obtain ⟨⟨⟨⟨hh, _⟩, _⟩, _⟩, _⟩ := h
      rcases hh with hh | hh
      · simp at hh
      · simp only [decide_eq_false_iff_not] at hh
        omega
    · rw [kf_d e] at h1
      exact varB_in h1
    · rw [kf_a hk' e] at h2
      exact varB_in h2
    · rw [kf_b e] at h3
      exact varB_in h3
end Go.Proofs.YtoabiignjkcdmaaGreat
