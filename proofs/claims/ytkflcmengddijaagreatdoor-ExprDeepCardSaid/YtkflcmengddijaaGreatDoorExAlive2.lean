/-
  sacristylaw07.alive walked, whole.
-/
import Derived.Test.YtkflcmengddijaaGreatDoorExAlive
namespace Go.Proofs.YtkflcmengddijaaGreatDoor
open Go.RowKit Lx
set_option linter.unusedVariables false
set_option linter.unusedSimpArgs false

theorem row_of_foot {F : Nat → Prop} {w : World} {x : Ex} {A : Option Addr} {c : Nat} (h : kEx.Foot F w x (exL x A c)) : x.kids.length ≤ maxLen ∧ (A = none → c = 0) ∧ kEx.Row w A x.kids := by
  obtain ⟨A', c', e, h1, h2, h3⟩ := kEx_iff.1 h.here
  have e2 : Value.slice A x.kids.length c = .slice A' x.kids.length c' := by
    have := congrArg (fun l => l[4]?) e
    simpa using this
  obtain ⟨rfl, rfl⟩ : A = A' ∧ c = c' := by injection e2 with e3 _ e4; exact ⟨e3, e4⟩
  exact ⟨h1, h2, h3⟩

theorem namesA : ∀ y ∈ exA.kids, NamesOk y := by
  have h1 : NamesOk (.mk 1 2 ⟨#[]⟩ 0 []) := (namesOk_iff _).2 ⟨by decide, ⟨by decide, by decide, by decide⟩, fun y h => by cases h⟩
  intro y hy
  rcases (by simpa [exA, Ex.kids] using hy : y = .mk 2 0 ⟨#[97]⟩ 0 [] ∨ y = .mk 5 0 ⟨#[98]⟩ 0 [.mk 1 2 ⟨#[]⟩ 0 []]) with rfl | rfl
  · exact (namesOk_iff _).2 ⟨by decide, ⟨by decide, by decide, by decide⟩, fun y h => by cases h⟩
  · refine (namesOk_iff _).2 ⟨by decide, ⟨by decide, by decide, by decide⟩, fun y h => ?_⟩
    obtain rfl : y = .mk 1 2 ⟨#[]⟩ 0 [] := by simpa [Ex.kids] using h
    exact h1
/-- The row of the wanted expression's kids, as alive builds it. -/
theorem rowA1 {w : World} {n m : Nat} (h1 : Bk w n #[.int .u8 1, .int .u64 2, .string ⟨#[]⟩, .int .u8 0, .slice none 0 0] 40)
    (h2 : Bk w m #[.int .u8 2, .int .u64 0, .string ⟨#[97]⟩, .int .u8 0, .slice none 0 0, .int .u8 5, .int .u64 0, .string ⟨#[98]⟩, .int .u8 0, .slice (some ⟨n, 0, none⟩) 1 1] 40) :
    kEx.Row w (some ⟨m, 0, none⟩) exA.kids := by
  refine .inr ⟨m, 0, rfl, fun i hi => ?_⟩
  have hi2 : i = 0 ∨ i = 1 := by simp [exA, Ex.kids] at hi; omega
  rcases hi2 with rfl | rfl
  · refine ⟨[.int .u8 2, .int .u64 0, .string ⟨#[97]⟩, .int .u8 0, .slice none 0 0], kEx_iff.2 ⟨none, 0, rfl, Nat.zero_le _, (fun _ => rfl), .inl rfl⟩, fun j hj => ?_⟩
    have hj5 : j = 0 ∨ j = 1 ∨ j = 2 ∨ j = 3 ∨ j = 4 := by simp at hj; omega
    have hc := h2.cell (0 + 0 * 5 + j)
    show w.cell? ⟨m, 0 + 0 * 5 + j, none⟩ = _
    rw [hc]
    rcases hj5 with rfl | rfl | rfl | rfl | rfl <;> rfl
  · refine ⟨[.int .u8 5, .int .u64 0, .string ⟨#[98]⟩, .int .u8 0, .slice (some ⟨n, 0, none⟩) 1 1], kEx_iff.2 ⟨some ⟨n, 0, none⟩, 1, rfl, (by show 1 ≤ maxLen; decide), (fun e => nomatch e), ?_⟩, fun j hj => ?_⟩
    · refine .inr ⟨n, 0, rfl, fun i hi => ?_⟩
      obtain rfl : i = 0 := by simp [exA, Ex.kids] at hi; omega
      refine ⟨[.int .u8 1, .int .u64 2, .string ⟨#[]⟩, .int .u8 0, .slice none 0 0], kEx_iff.2 ⟨none, 0, rfl, Nat.zero_le _, (fun _ => rfl), .inl rfl⟩, fun j hj => ?_⟩
      have hj5 : j = 0 ∨ j = 1 ∨ j = 2 ∨ j = 3 ∨ j = 4 := by simp at hj; omega
      have hc := h1.cell (0 + 0 * 5 + j)
      show w.cell? ⟨n, 0 + 0 * 5 + j, none⟩ = _
      rw [hc]
      rcases hj5 with rfl | rfl | rfl | rfl | rfl <;> rfl
    · have hj5 : j = 0 ∨ j = 1 ∨ j = 2 ∨ j = 3 ∨ j = 4 := by simp at hj; omega
      have hc := h2.cell (0 + 1 * 5 + j)
      show w.cell? ⟨m, 0 + 1 * 5 + j, none⟩ = _
      rw [hc]
      rcases hj5 with rfl | rfl | rfl | rfl | rfl <;> rfl

set_option maxRecDepth 100000 in
set_option maxHeartbeats 4000000 in
theorem alive07_c (w : World) (hE : Env w) (hsg : SgTab w) : Calls Tryz.prog 15 #[] w fun e w' => e = .returned (.bool true) ∧ Below w.heap.size w w' := by
  go_enter Tryz.func15, Tryz.ntmps15
  go_wp2_with fail
  refine (cut1_c w hE).mono ?_
  rintro e w1 ⟨⟨A1, c1, rfl, hr1⟩, hb1⟩
  go_wp2_with fail
  refine (cut2_c w1 (hE.mono hb1)).mono ?_
  rintro e w2 ⟨⟨A2, c2, rfl, hr2⟩, hb2⟩
  have hB2 := bt hb1 hb2
  go_wp2_with fail
  refine (read1_c A1 c1 w2 (hr1.mono hb2) (hsg.mono hB2)).mono ?_
  rintro e w3 ⟨⟨K, k, rfl, hf⟩, hb3⟩
  obtain ⟨-, -, hrX⟩ := row_of_foot hf
  have hB3 := bt hB2 hb3
  have hal3 := (Below.refl w3.heap.size w3).alloc (Nat.le_refl _) (.cells #[.int .u8 3, .int .u64 0, .string ⟨#[]⟩, .int .u8 1, .slice K 2 k] 40)
  have BX3 := Bk.new w3 #[.int .u8 3, .int .u64 0, .string ⟨#[]⟩, .int .u8 1, .slice K 2 k] 40
  have hrX3 := hrX.mono hal3
  go_upto_region 6 with (fail)
  obtain ⟨W3, hW3⟩ : ∃ W, W = w3.alloc (.cells #[.int .u8 3, .int .u64 0, .string ⟨#[]⟩, .int .u8 1, .slice K 2 k] 40) := ⟨_, rfl⟩
  rw [← hW3] at hal3 BX3 hrX3 ⊢
  clear hW3 hf hrX
  have hBW3 := bt hB3 hal3
  go_wp2_with fail
  refine (read2_c A2 c2 W3 ((hr2.mono hb3).mono hal3) (hsg.mono hBW3)).mono ?_
  rintro e w4 ⟨rfl, hb4⟩
  have hB4 := bt hBW3 hb4
  have BX4 := BX3.mono hb4
  have hrX4 := hrX3.mono hb4
  go_upto_region 8 with (fail)
  have hal8 : Below w4.heap.size w4 ((((w4.alloc (.cells #[.int .u8 0, .int .u64 0, .string ⟨#[]⟩, .int .u8 0, .slice none 0 0] 40)).alloc (.cells #[.int .u8 1, .int .u64 2, .string ⟨#[]⟩, .int .u8 0, .slice none 0 0] 40)).alloc (.cells #[.int .u8 2, .int .u64 0, .string ⟨#[97]⟩, .int .u8 0, .slice none 0 0, .int .u8 5, .int .u64 0, .string ⟨#[98]⟩, .int .u8 0, .slice (some ⟨w4.heap.size + 1, 0, none⟩) 1 1] 40)).alloc (.cells #[.int .u8 3, .int .u64 0, .string ⟨#[]⟩, .int .u8 1, .slice (some ⟨w4.heap.size + 1 + 1, 0, none⟩) 2 2] 40)) := ((((Below.refl w4.heap.size w4).alloc (Nat.le_refl _) (.cells #[.int .u8 0, .int .u64 0, .string ⟨#[]⟩, .int .u8 0, .slice none 0 0] 40)).alloc (by simp) (.cells #[.int .u8 1, .int .u64 2, .string ⟨#[]⟩, .int .u8 0, .slice none 0 0] 40)).alloc (by simp; omega) (.cells #[.int .u8 2, .int .u64 0, .string ⟨#[97]⟩, .int .u8 0, .slice none 0 0, .int .u8 5, .int .u64 0, .string ⟨#[98]⟩, .int .u8 0, .slice (some ⟨w4.heap.size + 1, 0, none⟩) 1 1] 40)).alloc (by simp; omega) (.cells #[.int .u8 3, .int .u64 0, .string ⟨#[]⟩, .int .u8 1, .slice (some ⟨w4.heap.size + 1 + 1, 0, none⟩) 2 2] 40)
  have N1 := ((Bk.newAt (w := w4.alloc (.cells #[.int .u8 0, .int .u64 0, .string ⟨#[]⟩, .int .u8 0, .slice none 0 0] 40)) (n := w4.heap.size + 1) #[.int .u8 1, .int .u64 2, .string ⟨#[]⟩, .int .u8 0, .slice none 0 0] 40 (by simp)).alloc (.cells #[.int .u8 2, .int .u64 0, .string ⟨#[97]⟩, .int .u8 0, .slice none 0 0, .int .u8 5, .int .u64 0, .string ⟨#[98]⟩, .int .u8 0, .slice (some ⟨w4.heap.size + 1, 0, none⟩) 1 1] 40)).alloc (.cells #[.int .u8 3, .int .u64 0, .string ⟨#[]⟩, .int .u8 1, .slice (some ⟨w4.heap.size + 1 + 1, 0, none⟩) 2 2] 40)
  have N2 := (Bk.newAt (w := (w4.alloc (.cells #[.int .u8 0, .int .u64 0, .string ⟨#[]⟩, .int .u8 0, .slice none 0 0] 40)).alloc (.cells #[.int .u8 1, .int .u64 2, .string ⟨#[]⟩, .int .u8 0, .slice none 0 0] 40)) (n := w4.heap.size + 1 + 1) #[.int .u8 2, .int .u64 0, .string ⟨#[97]⟩, .int .u8 0, .slice none 0 0, .int .u8 5, .int .u64 0, .string ⟨#[98]⟩, .int .u8 0, .slice (some ⟨w4.heap.size + 1, 0, none⟩) 1 1] 40 (by simp)).alloc (.cells #[.int .u8 3, .int .u64 0, .string ⟨#[]⟩, .int .u8 1, .slice (some ⟨w4.heap.size + 1 + 1, 0, none⟩) 2 2] 40)
  have N3 := Bk.newAt (w := (((w4.alloc (.cells #[.int .u8 0, .int .u64 0, .string ⟨#[]⟩, .int .u8 0, .slice none 0 0] 40)).alloc (.cells #[.int .u8 1, .int .u64 2, .string ⟨#[]⟩, .int .u8 0, .slice none 0 0] 40)).alloc (.cells #[.int .u8 2, .int .u64 0, .string ⟨#[97]⟩, .int .u8 0, .slice none 0 0, .int .u8 5, .int .u64 0, .string ⟨#[98]⟩, .int .u8 0, .slice (some ⟨w4.heap.size + 1, 0, none⟩) 1 1] 40))) (n := w4.heap.size + 1 + 1 + 1) #[.int .u8 3, .int .u64 0, .string ⟨#[]⟩, .int .u8 1, .slice (some ⟨w4.heap.size + 1 + 1, 0, none⟩) 2 2] 40 (by simp)
  obtain ⟨W8, hW8⟩ : ∃ W8, W8 = ((((w4.alloc (.cells #[.int .u8 0, .int .u64 0, .string ⟨#[]⟩, .int .u8 0, .slice none 0 0] 40)).alloc (.cells #[.int .u8 1, .int .u64 2, .string ⟨#[]⟩, .int .u8 0, .slice none 0 0] 40)).alloc (.cells #[.int .u8 2, .int .u64 0, .string ⟨#[97]⟩, .int .u8 0, .slice none 0 0, .int .u8 5, .int .u64 0, .string ⟨#[98]⟩, .int .u8 0, .slice (some ⟨w4.heap.size + 1, 0, none⟩) 1 1] 40)).alloc (.cells #[.int .u8 3, .int .u64 0, .string ⟨#[]⟩, .int .u8 1, .slice (some ⟨w4.heap.size + 1 + 1, 0, none⟩) 2 2] 40)) := ⟨_, rfl⟩
  rw [← hW8] at hal8 N1 N2 N3 ⊢
  have hrW := rowA1 N1 N2
  obtain ⟨m8, hm8⟩ : ∃ m8, m8 = w4.heap.size + 1 + 1 := ⟨_, rfl⟩
  rw [← hm8] at hrW N3 ⊢
  have BX8 := BX4.mono hal8
  have hrX8 := hrX4.mono hal8
  have hB8 := bt hB4 hal8
  have C3 := N3.cell
  clear hW8 N1 N2 hm8
  have HM := Lib.hid mayA
  go_wp2_with fail
  refine (tells_yes exA (some ⟨m8, 0, none⟩) 2 W8 (by decide) hrW (hsg.mono hB8) HM.out (by rw [tellA]; decide)).mono ?_
  rintro e w9 ⟨⟨A9, c9, he9, hr9⟩, hb9⟩
  rw [tellA] at he9
  subst he9
  have hB9 := bt hB8 hb9
  have N9 := N3.mono hb9
  have X9 := BX8.mono hb9
  have C9 := N9.cell
  have D9 := X9.cell
  have hrW9 := hrW.mono hb9
  have hrX9 := hrX8.mono hb9
  clear C3
  go_wp2_with fail
  refine (sameEx_c exA K (some ⟨m8, 0, none⟩) k 2 w9 (by decide) hrX9 hrW9 namesA).mono ?_
  rintro e w10 ⟨rfl, hb10⟩
  have hB10 := bt hB9 hb10
  have N10 := N9.mono hb10
  have C10 := N10.cell
  have hrW10 := hrW9.mono hb10
  clear C9 D9
  go_wp2_with fail
  refine (told_c 5 7 rfl _ (hE.mono hB10)).mono ?_
  rintro e w11 ⟨rfl, hb11⟩
  have hB11 := bt hB10 hb11
  have N11 := N10.mono hb11
  have C11 := N11.cell
  have hrW11 := hrW10.mono hb11
  clear C10
  go_wp2_with fail
  refine (check_c' exA (some ⟨m8, 0, none⟩) 2 w11 (by decide) hrW11 true HM.out).mono ?_
  rintro e w12 ⟨rfl, hb12⟩
  have hB12 := bt hB11 hb12
  go_wp2_with fail
  refine (check_c' (.mk 0 0 ⟨#[]⟩ 0 []) none 0 w12 (by decide) (.inl rfl) false (by rw [mayB_eq]; rfl)).mono ?_
  rintro e w13 ⟨rfl, hb13⟩
  go_wp2_with fail
  go_ret
  exact ⟨rfl, bt hB12 hb13⟩
end Go.Proofs.YtkflcmengddijaaGreatDoor
