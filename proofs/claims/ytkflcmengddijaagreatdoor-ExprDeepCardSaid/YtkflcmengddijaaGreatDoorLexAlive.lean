/-
  sacristylaw06.alive walked.
-/
import Derived.Test.YtkflcmengddijaaGreatDoorLexSame
import Derived.KernelRfl
namespace Go.Proofs.YtkflcmengddijaaGreatDoor
open Go.RowKit Lx
set_option linter.unusedVariables false
set_option linter.unusedSimpArgs false

def txtA : ByteArray := ⟨#[97, 49, 60, 60, 50, 59]⟩
def tokA : List STok := [⟨1, [97, 49], 0, 0⟩, ⟨4, [60, 60], 0, 2⟩, ⟨3, [], 2, 4⟩, ⟨4, [59], 0, 5⟩, ⟨5, [], 0, 6⟩]
theorem cutA : Lx.cut txtA.data.toList = .ok tokA := by rfl
theorem cutB : Lx.cut (⟨#[48, 49]⟩ : ByteArray).data.toList = .error (0, 7) := by rfl
theorem cutC : Lx.cut (⟨#[97, 33]⟩ : ByteArray).data.toList = .error (1, 7) := by rfl
theorem joinA : joinS tokA = [97, 49, 32, 60, 60, 32, 50, 32, 59] := by decide +kernel
theorem nameAx : isName (⟨#[120, 95, 49]⟩ : ByteArray).data.toList = true := by rfl
theorem nameBx : isName (⟨#[108, 101, 116]⟩ : ByteArray).data.toList = false := by rfl

theorem cutA_c (w : World) (hw : Env w) : Calls Tryz.prog 8 #[.string ⟨#[97, 49, 60, 60, 50, 59]⟩] w fun e w' => (∃ A c, e = .returned (.tuple #[.slice A 5 c, .nilIface]) ∧ kTok.Row w' A tokA) ∧ Below w.heap.size w w' := by
  have h := cut_any txtA w hw
  rw [cutA] at h
  exact h
theorem cutB_c (w : World) (hw : Env w) : Calls Tryz.prog 8 #[.string ⟨#[48, 49]⟩] w fun e w' => e = .returned (.tuple #[.slice none 0 0, .iface 30 (.agg #[.int .i64 0, .int .i64 7])]) ∧ Below w.heap.size w w' := by
  have h := cut_any ⟨#[48, 49]⟩ w hw
  rw [cutB] at h
  exact h
theorem cutC_c (w : World) (hw : Env w) : Calls Tryz.prog 8 #[.string ⟨#[97, 33]⟩] w fun e w' => e = .returned (.tuple #[.slice none 0 0, .iface 30 (.agg #[.int .i64 1, .int .i64 7])]) ∧ Below w.heap.size w w' := by
  have h := cut_any ⟨#[97, 33]⟩ w hw
  rw [cutC] at h
  exact h
theorem joinA_c (A : Option Addr) (c : Nat) (w : World) (hw : Env w) (hr : kTok.Row w A tokA) : Calls Tryz.prog 26 #[.slice A 5 c] w fun e w' => e = .returned (.string ⟨#[97, 49, 32, 60, 60, 32, 50, 32, 59]⟩) ∧ Below w.heap.size w w' := by
  have h := join_c tokA A c w hw hr (by simp [tokA]) (by intro t ht; simp [tokA] at ht; rcases ht with rfl | rfl | rfl | rfl | rfl <;> simp) (by rw [joinA]; simp)
  rw [joinA] at h
  exact h
theorem named_x (w : World) : Calls Tryz.prog 12 #[.string ⟨#[120, 95, 49]⟩] w fun e w' => e = .returned (.bool true) ∧ w = w' := by
  have h := named_c ⟨#[120, 95, 49]⟩ w (by decide)
  rw [nameAx] at h
  exact h
theorem named_let (w : World) : Calls Tryz.prog 12 #[.string ⟨#[108, 101, 116]⟩] w fun e w' => e = .returned (.bool false) ∧ w = w' := by
  have h := named_c ⟨#[108, 101, 116]⟩ w (by decide)
  rw [nameBx] at h
  exact h
theorem rowA {w : World} {n : Nat} (B : Bk w n #[.int .u8 1, .string ⟨#[97, 49]⟩, .int .u64 0, .int .i64 0, .int .u8 4, .string ⟨#[60, 60]⟩, .int .u64 0, .int .i64 2, .int .u8 3, .string ⟨#[]⟩, .int .u64 2, .int .i64 4, .int .u8 4, .string ⟨#[59]⟩, .int .u64 0, .int .i64 5, .int .u8 5, .string ⟨#[]⟩, .int .u64 0, .int .i64 6] 50) :
    kTok.Row w (some ⟨n, 0, none⟩) tokA := by
  refine .inr ⟨n, 0, rfl, fun i hi => ⟨tokCells tokA[i], rfl, fun j hj => ?_⟩⟩
  have hj4 : j < 4 := by simpa [tokCells] using hj
  have hi5 : i < 5 := by simpa [tokA] using hi
  have hc := B.cell (0 + i * 4 + j)
  show w.cell? ⟨n, 0 + i * 4 + j, none⟩ = _
  rw [hc]
  have : i = 0 ∨ i = 1 ∨ i = 2 ∨ i = 3 ∨ i = 4 := by omega
  have hj2 : j = 0 ∨ j = 1 ∨ j = 2 ∨ j = 3 := by omega
  rcases this with rfl | rfl | rfl | rfl | rfl <;> rcases hj2 with rfl | rfl | rfl | rfl <;> rfl

set_option maxRecDepth 100000 in
set_option maxHeartbeats 4000000 in
theorem alive_c (w : World) (hw : Env w) : Calls Tryz.prog 7 #[] w fun e w' => e = .returned (.bool true) ∧ Below w.heap.size w w' := by
  go_enter Tryz.func7, Tryz.ntmps7
  go_wp2_with fail
  refine (cutA_c _ hw).mono ?_
  rintro e w1 ⟨⟨A, c, rfl, hr⟩, hb1⟩
  go_wp2_with fail
  refine (cutB_c _ (hw.mono hb1)).mono ?_
  rintro e w2 ⟨rfl, hb2⟩
  have hB2 := bt hb1 hb2
  go_wp2_with fail
  refine (cutC_c _ (hw.mono hB2)).mono ?_
  rintro e w3 ⟨rfl, hb3⟩
  have hB3 := bt hB2 hb3
  go_wp2_with fail
  have hbX := (Below.refl w3.heap.size w3).alloc (Nat.le_refl _) (.cells #[.int .u8 1, .string ⟨#[97, 49]⟩, .int .u64 0, .int .i64 0, .int .u8 4, .string ⟨#[60, 60]⟩, .int .u64 0, .int .i64 2, .int .u8 3, .string ⟨#[]⟩, .int .u64 2, .int .i64 4, .int .u8 4, .string ⟨#[59]⟩, .int .u64 0, .int .i64 5, .int .u8 5, .string ⟨#[]⟩, .int .u64 0, .int .i64 6] 50)
  refine (same_c tokA A _ c 5 _ ((hr.mono (bt hb2 hb3)).mono hbX) (rowA (Bk.new _ _ _)) (by simp [tokA])).mono ?_
  rintro e w4 ⟨rfl, hb4⟩
  have hB4 := bt (bt hB3 hbX) hb4
  have hR4 := ((hr.mono (bt hb2 hb3)).mono hbX).mono hb4
  clear hbX hb4
  go_wp2_with fail
  refine (told_c 0 7 rfl _ (hw.mono hB4)).mono ?_
  rintro e w5 ⟨rfl, hb5⟩
  have hB5 := bt hB4 hb5
  go_wp2_with fail
  refine (told_c 1 7 rfl _ (hw.mono hB5)).mono ?_
  rintro e w6 ⟨rfl, hb6⟩
  have hB6 := bt hB5 hb6
  go_wp2_with fail
  refine (joinA_c A c _ (hw.mono hB6) (hR4.mono (bt hb5 hb6))).mono ?_
  rintro e w7 ⟨rfl, hb7⟩
  have hB7 := bt hB6 hb7
  go_wp2_with fail
  refine (named_x _).mono ?_
  rintro e w8 ⟨rfl, rfl⟩
  go_wp2_with fail
  refine (named_let _).mono ?_
  rintro e w9 ⟨rfl, rfl⟩
  go_wp2_with fail
  go_ret
  exact ⟨rfl, hB7⟩
end Go.Proofs.YtkflcmengddijaaGreatDoor
