/-
  The small functions of package lex, walked: letter, digit, the closures, word, piece.
-/
import Derived.Test.YtkflcmengddijaaGreatDoorRows
import Derived.Test.YtkflcmengddijaaGreatDoorLexP
import Derived.FnLit
namespace Go.Proofs.YtkflcmengddijaaGreatDoor
open Go.RowKit Lx
set_option linter.unusedVariables false
set_option linter.unusedSimpArgs false

theorem letter_c (c : UInt8) (w : World) : Calls Tryz.prog 34 #[.int .u8 (c.toNat : Int)] w fun e w' => e = .returned (.bool (isLetter c)) ∧ w = w' := by
  have hc := c.toNat_lt
  go_enter Tryz.func34, Tryz.ntmps34
  go_wp2
  all_goals
    go_ret
    refine ⟨ret_bool ?_, rfl⟩
    rw [Bool.eq_iff_iff]
    simp [isLetter]
    omega
theorem digit_c (c : UInt8) (w : World) : Calls Tryz.prog 35 #[.int .u8 (c.toNat : Int)] w fun e w' => e = .returned (.bool (isDigit c)) ∧ w = w' := by
  have hc := c.toNat_lt
  go_enter Tryz.func35, Tryz.ntmps35
  go_wp2
  all_goals
    go_ret
    refine ⟨ret_bool ?_, rfl⟩
    rw [Bool.eq_iff_iff]
    simp [isDigit]
    omega
theorem blank_c (c : UInt8) (w : World) : Calls Tryz.prog 28 #[.int .u8 (c.toNat : Int)] w fun e w' => e = .returned (.bool (isBlank c)) ∧ w = w' := by
  have hc := c.toNat_lt
  go_enter Tryz.func28, Tryz.ntmps28
  go_wp2
  all_goals
    go_ret
    refine ⟨ret_bool ?_, rfl⟩
    rw [Bool.eq_iff_iff]
    simp [isBlank]
    omega
theorem part1_c (c : UInt8) (w : World) : Calls Tryz.prog 50 #[.int .u8 (c.toNat : Int)] w fun e w' => e = .returned (.bool (isPart c)) ∧ w = w' := by
  cases hl : isLetter c with
  | true =>
    have H := Lib.hid hl; clear hl
    go_enter Tryz.func50, Tryz.ntmps50
    go_wp2_with (go_at_call 34; refine (letter_c c _).mono ?_; rintro e w' ⟨rfl, rfl⟩; rw [H.out])
    go_ret
    exact ⟨ret_bool (by simp [isPart, H.out]), rfl⟩
  | false =>
    have H := Lib.hid hl; clear hl
    go_enter Tryz.func50, Tryz.ntmps50
    go_wp2_with (first
      | (go_at_call 34; refine (letter_c c _).mono ?_; rintro e w' ⟨rfl, rfl⟩; rw [H.out])
      | (go_at_call 35; refine (digit_c c _).mono ?_; rintro e w' ⟨rfl, rfl⟩))
    go_ret
    exact ⟨ret_bool (by simp [isPart, H.out]), rfl⟩
theorem part2_c (c : UInt8) (w : World) : Calls Tryz.prog 33 #[.int .u8 (c.toNat : Int)] w fun e w' => e = .returned (.bool (isPart c)) ∧ w = w' := by
  cases hl : isLetter c with
  | true =>
    have H := Lib.hid hl; clear hl
    go_enter Tryz.func33, Tryz.ntmps33
    go_wp2_with (go_at_call 34; refine (letter_c c _).mono ?_; rintro e w' ⟨rfl, rfl⟩; rw [H.out])
    go_ret
    exact ⟨ret_bool (by simp [isPart, H.out]), rfl⟩
  | false =>
    have H := Lib.hid hl; clear hl
    go_enter Tryz.func33, Tryz.ntmps33
    go_wp2_with (first
      | (go_at_call 34; refine (letter_c c _).mono ?_; rintro e w' ⟨rfl, rfl⟩; rw [H.out])
      | (go_at_call 35; refine (digit_c c _).mono ?_; rintro e w' ⟨rfl, rfl⟩))
    go_ret
    exact ⟨ret_bool (by simp [isPart, H.out]), rfl⟩

theorem ret_str {a b : ByteArray} (h : a = b) : Ending.returned (.string a) = .returned (.string b) := by rw [h]
theorem toList_data (s : ByteArray) : s.toList = s.data.toList := ByteArray.toList_eq s
theorem size_data (s : ByteArray) : s.data.toList.length = s.size := rfl
theorem get_data (s : ByteArray) (k : Nat) (h : k < s.size) (h' : k < s.data.toList.length) : s.data.toList[k] = s[k] := rfl
/-- The longest beginning of a text whose bytes are such. -/
def pieceS (p : UInt8 → Bool) (s : ByteArray) : ByteArray := s.extract 0 (s.data.toList.takeWhile p).length

theorem take_all {p : UInt8 → Bool} : ∀ (l : List UInt8) (k : Nat), k ≤ l.length → (∀ j (h : j < l.length), j < k → p l[j] = true) → (l.takeWhile p).length = k + ((l.drop k).takeWhile p).length
  | _, 0, _, _ => by simp
  | [], k + 1, h, _ => by simp at h
  | c :: l, k + 1, h, hp => by
    have h0 : p c = true := hp 0 (by simp) (by omega)
    have ih := take_all l k (by simpa using h) (fun j hj hk => hp (j + 1) (by simp; omega) (by omega))
    rw [List.takeWhile_cons, if_pos h0, List.length_cons, ih, List.drop_succ_cons]
    omega

set_option maxHeartbeats 1000000 in
theorem piece_c (F : FuncId) (p : UInt8 → Bool) (hF : ∀ (c : UInt8) (w : World), Calls Tryz.prog F #[.int .u8 (c.toNat : Int)] w fun e w' => e = .returned (.bool (p c)) ∧ w = w')
    (hE : ∀ (args : Array Value) (w : World), (callFunc F args).run Tryz.prog w = .ok (.enter F args) w)
    (s : ByteArray) (w : World) (hs : s.size ≤ 1000000) :
    Calls Tryz.prog 27 #[.string s, .func (.func F) #[] #[]] w fun e w' => e = .returned (.string (pieceS p s)) ∧ w = w' := by
  have HF := Lib.hid hF
  clear hF
  go_enter Tryz.func27, Tryz.ntmps27
  go_wp2
  go_loop [5] (fun n => ∃ k : Nat, k ≤ s.size ∧ n = .int .i64 k ∧ ∀ j (h : j < s.data.toList.length), j < k → p s.data.toList[j] = true) (fun n => s.size - (intOf n).toNat)
  case atStart => exact ⟨0, Nat.zero_le _, rfl, fun j _ h => absurd h (by omega)⟩
  case round =>
    obtain ⟨k, hk, rfl, hall⟩ := hrel
    have HA := Lib.hid hall; clear hall
    by_cases hlt : k < s.size
    · cases hp : p s[k] with
      | true =>
        have HP := Lib.hid hp; clear hp
        go_wp2_with (refine (HF.out s[k] _).mono ?_; rintro e w' ⟨rfl, rfl⟩; rw [HP.out])
        go_round
        case rel =>
          refine ⟨k + 1, by omega, by go_num, fun j h hj => ?_⟩
          by_cases e : j = k
          · subst e; exact HP.out
          · exact HA.out j h (by omega)
        case measure => simp [intOf]; omega
      | false =>
        have HP := Lib.hid hp; clear hp
        go_wp2_with (refine (HF.out s[k] _).mono ?_; rintro e w' ⟨rfl, rfl⟩; rw [HP.out])
        go_ret
        refine ⟨ret_str ?_, rfl⟩
        have h1 := take_all s.data.toList k (by rw [size_data]; omega) HA.out
        have h2 : s.data.toList.drop k = s[k] :: s.data.toList.drop (k + 1) := List.drop_eq_getElem_cons (by rw [size_data]; omega)
        rw [h2, List.takeWhile_cons, HP.out] at h1
        unfold pieceS
        rw [h1]
        simp
    · go_wp2
      go_ret
      refine ⟨ret_str ?_, rfl⟩
      have h1 := take_all s.data.toList k (by rw [size_data]; omega) HA.out
      rw [List.drop_eq_nil_of_le (by rw [size_data]; omega)] at h1
      unfold pieceS
      rw [h1]
      simp

set_option maxRecDepth 100000 in
set_option maxHeartbeats 2000000 in
theorem word_c (s : ByteArray) (w : World) (hs : s.size ≤ 1000000) : Calls Tryz.prog 36 #[.string s] w fun e w' => e = .returned (.bool (words.contains s.data.toList)) ∧ w = w' := by
  go_enter Tryz.func36, Tryz.ntmps36
  go_wp2
  all_goals
    go_ret
    refine ⟨ret_bool ?_, rfl⟩
    simp only [toList_data] at *
    simp only [words, List.contains_cons, List.contains_nil]
    simp_all
end Go.Proofs.YtkflcmengddijaaGreatDoor
