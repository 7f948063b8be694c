/-
  The document's small functions of layer 6, walked.
-/
import Derived.Test.YtkflcmengddijaaGreatDoorLex2
import Derived.Test.YtkflcmengddijaaGreatDoorLexRefP
namespace Go.Proofs.YtkflcmengddijaaGreatDoor
open Go.RowKit Lx
set_option linter.unusedVariables false
set_option linter.unusedSimpArgs false

theorem rLetter_c (c : UInt8) (w : World) : Calls Tryz.prog 37 #[.int .u8 (c.toNat : Int)] w fun e w' => e = .returned (.bool (isLetter c)) ∧ w = w' := by
  have hc := c.toNat_lt
  go_enter Tryz.func37, Tryz.ntmps37
  go_wp2
  all_goals
    go_ret
    refine ⟨ret_bool ?_, rfl⟩
    rw [Bool.eq_iff_iff]
    simp [isLetter]
    omega
theorem rDigit_c (c : UInt8) (w : World) : Calls Tryz.prog 39 #[.int .u8 (c.toNat : Int)] w fun e w' => e = .returned (.bool (isDigit c)) ∧ w = w' := by
  have hc := c.toNat_lt
  go_enter Tryz.func39, Tryz.ntmps39
  go_wp2
  all_goals
    go_ret
    refine ⟨ret_bool ?_, rfl⟩
    rw [Bool.eq_iff_iff]
    simp [isDigit]
    omega

def strB (l : List UInt8) : ByteArray := ⟨l.toArray⟩
theorem row_strs {w : World} {n : Nat} {t : TypeId} (xs : List ByteArray) (h : Bk w n (xs.map Value.string).toArray t) : kStr.Row w (some ⟨n, 0, none⟩) xs := by
  refine .inr ⟨n, 0, rfl, fun i hi => ⟨[.string xs[i]], rfl, fun j hj => ?_⟩⟩
  obtain rfl : j = 0 := by simpa using hj
  have := h.cell i
  simp at this
  show w.cell? ⟨n, 0 + i * 1 + 0, none⟩ = _
  rw [show 0 + i * 1 + 0 = i from by omega, this]
  simp [hi]
theorem kStr_at' {w : World} {A : Option Addr} {xs : List ByteArray} (h : kStr.Row w A xs) (i : Nat) (hi : i < xs.length) : ∃ b o, A = some ⟨b, o, none⟩ ∧ w.cell? ⟨b, o + i, none⟩ = some (.string xs[i]) := by
  obtain ⟨b, o, cs, e, h1, h2⟩ := h.at i hi
  obtain rfl : cs = [.string xs[i]] := h1
  exact ⟨b, o, e, by simpa [kStr, Kd.flat] using h2 0 (by simp)⟩

set_option maxRecDepth 100000 in
theorem rWords_c (w : World) : Calls Tryz.prog 61 #[] w fun e w' => (∃ A, e = .returned (.slice A 16 16) ∧ kStr.Row w' A (words.map strB)) ∧ Below w.heap.size w w' := by
  go_enter Tryz.func61, Tryz.ntmps61
  go_wp2
  go_ret
  exact ⟨⟨_, rfl, row_strs (words.map strB) (Bk.new _ _ _)⟩, (Below.refl _ _).alloc (Nat.le_refl _) _⟩
set_option maxRecDepth 100000 in
theorem rSigns_c (w : World) : Calls Tryz.prog 83 #[] w fun e w' => (∃ A, e = .returned (.slice A 25 25) ∧ kStr.Row w' A (signs.map strB)) ∧ Below w.heap.size w w' := by
  go_enter Tryz.func83, Tryz.ntmps83
  go_wp2
  go_ret
  exact ⟨⟨_, rfl, row_strs (signs.map strB) (Bk.new _ _ _)⟩, (Below.refl _ _).alloc (Nat.le_refl _) _⟩

theorem any_step {xs : List ByteArray} {p : ByteArray → Bool} : ∀ (k : Nat), (∀ j (h : j < xs.length), j < k → p xs[j] = false) → xs.any p = (xs.drop k).any p
  | 0, _ => rfl
  | k + 1, h => by
    rw [any_step k (fun j hj hk => h j hj (by omega))]
    by_cases hk : k < xs.length
    · rw [List.drop_eq_getElem_cons hk, List.any_cons, h k hk (by omega)]; rfl
    · rw [List.drop_of_length_le (by omega), List.drop_of_length_le (by omega)]

set_option maxRecDepth 100000 in
set_option maxHeartbeats 2000000 in
theorem rIn_c (xs : List ByteArray) (A : Option Addr) (c : Nat) (s : ByteArray) (w : World) (hr : kStr.Row w A xs) (hl : xs.length ≤ 1000) :
    Calls Tryz.prog 60 #[.slice A xs.length c, .string s] w fun e w' => e = .returned (.bool (xs.any fun x => x.toList == s.toList)) ∧ Below w.heap.size w w' := by
  go_enter Tryz.func60, Tryz.ntmps60
  go_wp2
  go_loopw [5] (fun i wr => ∃ k : Nat, k ≤ xs.length ∧ i = .int .i64 k ∧ (∀ j (h : j < xs.length), j < k → (xs[j].toList == s.toList) = false) ∧ Below w.heap.size w wr) (fun i _ => xs.length - (intOf i).toNat)
  case atStart => exact ⟨0, Nat.zero_le _, rfl, fun j _ h => absurd h (by omega), Below.refl _ _⟩
  case round =>
    obtain ⟨k, hk, rfl, hall, hb⟩ := hrel
    have HA := Lib.hid hall; clear hall
    by_cases hlt : k < xs.length
    · obtain ⟨b, o, rfl, g0⟩ := kStr_at' (hr.mono hb) k hlt
      have i0 : (0 : Int) ≤ (k : Int) := by omega
      have i1 : (k : Int) < (xs.length : Int) := by omega
      cases he : (xs[k].toList == s.toList) with
      | true =>
        have HE := Lib.hid he
        have he' : xs[k].toList = s.toList := eq_of_beq he
        clear he
        go_wp2
        go_ret
        refine ⟨ret_bool ?_, hb⟩
        rw [any_step k HA.out, List.drop_eq_getElem_cons hlt, List.any_cons, HE.out]
        rfl
      | false =>
        have HE := Lib.hid he
        have he' : ¬ xs[k].toList = s.toList := fun h => by rw [h] at he; simp at he
        go_wp2
        refine ⟨⟨k + 1, by omega, by go_num, fun j h hj => ?_, hb⟩, by simp [intOf]; omega⟩
        by_cases e : j = k
        · subst e; exact HE.out
        · exact HA.out j h (by omega)
    · have i1 : (xs.length : Int) ≤ (k : Int) := by omega
      go_wp2
      go_ret
      refine ⟨ret_bool ?_, hb⟩
      rw [any_step k HA.out, List.drop_of_length_le (by omega)]
      rfl
set_option maxRecDepth 100000 in
theorem rWord_c (s : ByteArray) (w : World) : Calls Tryz.prog 38 #[.string s] w fun e w' => e = .returned (.bool (words.contains s.data.toList)) ∧ Below w.heap.size w w' := by
  go_enter Tryz.func38, Tryz.ntmps38
  go_wp2_with (first
    | (go_at_call 61; refine (rWords_c _).mono ?_; rintro e w1 ⟨⟨A, rfl, hr⟩, hb1⟩)
    | (go_at_call 60; refine (rIn_c (words.map strB) A 16 s _ hr (by decide)).mono ?_; rintro e w2 ⟨rfl, hb2⟩))
  go_ret
  refine ⟨ret_bool ?_, bt hb1 hb2⟩
  rw [Bool.eq_iff_iff]
  simp only [List.any_map, Function.comp_def, toList_data, strB, List.any_eq_true, beq_iff_eq, List.contains_iff_mem]
  constructor
  · rintro ⟨x, hx, h⟩
    rw [← h]
    exact hx
  · intro h
    exact ⟨_, h, rfl⟩
end Go.Proofs.YtkflcmengddijaaGreatDoor
