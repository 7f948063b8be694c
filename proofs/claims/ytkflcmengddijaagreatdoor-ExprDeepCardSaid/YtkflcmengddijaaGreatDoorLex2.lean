/-
  lex.Named, lex.sign, lex.next walked.
-/
import Derived.Test.YtkflcmengddijaaGreatDoorLex1
namespace Go.Proofs.YtkflcmengddijaaGreatDoor
open Go.RowKit Lx
set_option linter.unusedVariables false
set_option linter.unusedSimpArgs false

theorem enter_f (F : FuncId) (h : ∀ (args : Array Value) (w : World), (callFunc F args).run Tryz.prog w = .ok (.enter F args) w) : True := trivial
theorem enPart2 (args : Array Value) (w : World) : (callFunc 33 args).run Tryz.prog w = .ok (.enter 33 args) w := by kernel_rfl

theorem nil_of_size {s : ByteArray} (h : s.size = 0) : s.toList = [] := by
  rw [toList_data]
  exact List.eq_nil_of_length_eq_zero h
theorem ne_of_size {s : ByteArray} (h : 0 < s.size) : ¬ s.toList = [] := by
  intro e
  rw [toList_data] at e
  have : s.data.toList.length = 0 := by rw [e]; rfl
  rw [size_data] at this
  omega
theorem cons_of_size {s : ByteArray} (h : 0 < s.size) : s.data.toList = s[0] :: s.data.toList.tail := by
  have h1 : 0 < s.data.toList.length := h
  match hm : s.data.toList, h1 with
  | c :: r, _ =>
    have : s[0] = s.data.toList[0]'(by rw [size_data]; exact h) := rfl
    rw [this]
    simp [hm]
/-- .. it is the whole just if all its bytes are such. -/
theorem piece_all (p : UInt8 → Bool) (s : ByteArray) : ((pieceS p s).toList == s.toList) = s.data.toList.all p := by
  rw [toList_data, toList_data]
  unfold pieceS
  have e : (s.extract 0 (s.data.toList.takeWhile p).length).data.toList = s.data.toList.take (s.data.toList.takeWhile p).length := by simp
  rw [e]
  have h2 : ∀ l : List UInt8, l.take (l.takeWhile p).length = l.takeWhile p := by
    intro l
    induction l with
    | nil => rfl
    | cons c r ih =>
      rw [List.takeWhile_cons]
      split
      · simp [ih]
      · rfl
  rw [h2, Bool.eq_iff_iff, beq_iff_eq]
  generalize s.data.toList = l
  induction l with
  | nil => simp
  | cons c r ih =>
    rw [List.takeWhile_cons]
    split
    · rename_i h; simp [h, ih]
    · rename_i h; simp [h]

set_option maxRecDepth 100000 in
set_option maxHeartbeats 2000000 in
theorem named_c (s : ByteArray) (w : World) (hs : s.size ≤ 1000000) : Calls Tryz.prog 12 #[.string s] w fun e w' => e = .returned (.bool (isName s.data.toList)) ∧ w = w' := by
  by_cases h0 : s.size = 0
  · have h1 := nil_of_size h0
    clear h0
    go_enter Tryz.func12, Tryz.ntmps12
    go_wp2
    go_ret
    refine ⟨ret_bool ?_, rfl⟩
    rw [← toList_data, h1]; rfl
  have h1 : 0 < s.size := by omega
  have h2 := ne_of_size h1
  have h3 := Lib.hid (cons_of_size h1)
  clear h0
  by_cases h16 : (s.size : Int) ≤ 16
  case neg =>
    go_enter Tryz.func12, Tryz.ntmps12
    go_wp2
    go_ret
    refine ⟨ret_bool ?_, rfl⟩
    have : ¬ s.data.toList.length ≤ 16 := by rw [size_data]; omega
    simp only [isName, decide_eq_false this, Bool.and_false, Bool.false_and]
  have h17 : s.data.toList.length ≤ 16 := by rw [size_data]; omega
  have H17 := Lib.hid h17; clear h17
  cases hl : isLetter s[0] with
  | false =>
    have HL := Lib.hid hl; clear hl
    go_enter Tryz.func12, Tryz.ntmps12
    go_wp2_with (go_at_call 34; refine (letter_c _ _).mono ?_; rintro e w' ⟨rfl, rfl⟩; rw [HL.out])
    go_ret
    refine ⟨ret_bool ?_, rfl⟩
    rw [h3.out]
    simp [isName, HL.out]
  | true =>
    have HL := Lib.hid hl; clear hl
    cases hw : words.contains s.data.toList with
    | true =>
      have HW := Lib.hid hw; clear hw
      go_enter Tryz.func12, Tryz.ntmps12
      go_wp2_with (first
        | (go_at_call 34; refine (letter_c _ _).mono ?_; rintro e w' ⟨rfl, rfl⟩; rw [HL.out])
        | (go_at_call 36; refine (word_c _ _ hs).mono ?_; rintro e w' ⟨rfl, rfl⟩; rw [HW.out]))
      go_ret
      refine ⟨ret_bool ?_, rfl⟩
      simp only [isName, HW.out, Bool.not_true, Bool.and_false, Bool.false_and]
    | false =>
      have HW := Lib.hid hw; clear hw
      go_enter Tryz.func12, Tryz.ntmps12
      go_wp2_with (first
        | (go_at_call 34; refine (letter_c _ _).mono ?_; rintro e w' ⟨rfl, rfl⟩; rw [HL.out])
        | (go_at_call 36; refine (word_c _ _ hs).mono ?_; rintro e w' ⟨rfl, rfl⟩; rw [HW.out])
        | (go_at_call 27; refine (piece_c _ _ part2_c enPart2 s _ hs).mono ?_; rintro e w' ⟨rfl, rfl⟩))
      go_ret
      refine ⟨ret_bool ?_, rfl⟩
      have h5 : (s.data.toList.head?.map isLetter).getD false = true := by rw [h3.out]; exact HL.out
      have h6 : s.data.toList.isEmpty = false := by rw [h3.out]; rfl
      rw [piece_all, isName, h5, HW.out, decide_eq_true H17.out, h6, toList_data, h6]
      simp
end Go.Proofs.YtkflcmengddijaaGreatDoor
