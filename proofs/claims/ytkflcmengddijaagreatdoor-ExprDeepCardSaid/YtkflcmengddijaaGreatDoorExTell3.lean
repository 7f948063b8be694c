/-
  expr.Tell walked, joined.
-/
import Derived.Test.YtkflcmengddijaaGreatDoorExTell2
namespace Go.Proofs.YtkflcmengddijaaGreatDoor
open Go.RowKit Lx
set_option linter.unusedVariables false
set_option linter.unusedSimpArgs false

theorem size0 {s : ByteArray} (h : s.size = 0) : s = ⟨#[]⟩ := by
  have e : ∀ Y : ByteArray, Y = ⟨Y.data.toList.toArray⟩ := fun _ => rfl
  have h2 : s.data.toList = [] := by rw [← toList_data]; exact nil_of_size h
  rw [e s, h2]
/-- An expression that may be, by its kind. -/
theorem may_cases {x : Ex} {d : Nat} (h : mayB x d = true) : (∃ num, x = .mk 1 num ⟨#[]⟩ 0 []) ∨ (∃ s, isName s.data.toList = true ∧ x = .mk 2 0 s 0 []) ∨ (∃ s, isName s.data.toList = true ∧ x = .mk 4 0 s 0 []) ∨
    (∃ op a b, 1 ≤ op ∧ op ≤ 14 ∧ x = .mk 3 0 ⟨#[]⟩ op [a, b]) ∨ (∃ s a, isName s.data.toList = true ∧ x = .mk 5 0 s 0 [a]) := by
  obtain ⟨k, num, name, op, kids⟩ := x
  rw [mayB_eq] at h
  simp only [Bool.and_eq_true] at h
  have hs := h.1.2
  unfold shapeB at hs
  by_cases e1 : (Ex.mk k num name op kids).k = 1
  · rw [if_pos e1] at hs
    obtain rfl : k = 1 := e1
    simp only [Ex.num, Ex.name, Ex.op, Ex.kids, Bool.and_eq_true, decide_eq_true_eq] at hs
    obtain ⟨⟨h1, h2⟩, h3⟩ := hs
    obtain rfl : op = 0 := of_decide_eq_true h2
    obtain rfl := size0 (of_decide_eq_true h1)
    obtain rfl := List.eq_nil_of_length_eq_zero (of_decide_eq_true h3)
    exact .inl ⟨num, rfl⟩
  rw [if_neg e1] at hs
  by_cases e2 : (Ex.mk k num name op kids).k = 2 ∨ (Ex.mk k num name op kids).k = 4
  · rw [if_pos e2] at hs
    simp only [Ex.k, Ex.num, Ex.name, Ex.op, Ex.kids, nameB, Bool.and_eq_true, decide_eq_true_eq] at hs e2
    obtain ⟨⟨⟨h0, hn⟩, h2⟩, h3⟩ := hs
    obtain rfl : num = 0 := of_decide_eq_true h0
    obtain rfl : op = 0 := of_decide_eq_true h2
    obtain rfl := List.eq_nil_of_length_eq_zero (of_decide_eq_true h3)
    rcases e2 with rfl | rfl
    · exact .inr (.inl ⟨name, hn, rfl⟩)
    · exact .inr (.inr (.inl ⟨name, hn, rfl⟩))
  rw [if_neg e2] at hs
  by_cases e3 : (Ex.mk k num name op kids).k = 3
  · rw [if_pos e3] at hs
    obtain rfl : k = 3 := e3
    simp only [Ex.num, Ex.name, Ex.op, Ex.kids, Bool.and_eq_true, decide_eq_true_eq] at hs
    obtain ⟨⟨⟨h0, hn⟩, h1, h2⟩, h3⟩ := hs
    obtain rfl : num = 0 := of_decide_eq_true h0
    obtain rfl := size0 (of_decide_eq_true hn)
    have h4 : kids.length = 2 := of_decide_eq_true h3
    match kids, h4 with
    | [a, b], _ => exact .inr (.inr (.inr (.inl ⟨op, a, b, of_decide_eq_true h1, of_decide_eq_true h2, rfl⟩)))
  rw [if_neg e3] at hs
  by_cases e5 : (Ex.mk k num name op kids).k = 5
  · rw [if_pos e5] at hs
    obtain rfl : k = 5 := e5
    simp only [Ex.num, Ex.name, Ex.op, Ex.kids, nameB, Bool.and_eq_true, decide_eq_true_eq] at hs
    obtain ⟨⟨⟨h0, hn⟩, h2⟩, h3⟩ := hs
    obtain rfl : num = 0 := of_decide_eq_true h0
    obtain rfl : op = 0 := of_decide_eq_true h2
    have h4 : kids.length = 1 := of_decide_eq_true h3
    match kids, h4 with
    | [a], _ => exact .inr (.inr (.inr (.inr ⟨name, a, hn, rfl⟩)))
  rw [if_neg e5] at hs
  cases hs
theorem tell_c (x : Ex) : TellOf x := by
  refine Ex.ind (P := TellOf) (fun x ih => ?_) x
  intro d tb base w0 w ts ns K c hmay
  rcases may_cases hmay with ⟨num, rfl⟩ | ⟨s, hn, rfl⟩ | ⟨s, hn, rfl⟩ | ⟨op, a, b, h1, h2, rfl⟩ | ⟨s, a, hn, rfl⟩
  · exact tell_1 num _ 0 [] d tb base w0 w ts ns K c hmay
  · exact tell_2 0 _ 0 [] d tb base w0 w ts ns K c hmay
  · exact tell_4 0 _ 0 [] d tb base w0 w ts ns K c hmay
  · exact tell_3 _ op h1 h2 a b (ih a (by simp [Ex.kids])) (ih b (by simp [Ex.kids])) d tb base w0 w ts ns K c hmay
  · exact tell_5 s a (ih a (by simp [Ex.kids])) d tb base w0 w ts ns K c hmay

/-- What Tell answers. -/
def TellR (x : Ex) (e : Ending) (w : World) : Prop := ∃ A c, e = .returned (.tuple #[.slice A (tellP x).length c, .int .i64 0]) ∧ kTok.Row w A (tellP x)
set_option maxRecDepth 100000 in
set_option maxHeartbeats 1000000 in
theorem tells_yes (x : Ex) (K : Option Addr) (c : Nat) (w : World) (hm : x.kids.length ≤ maxLen) (hr : kEx.Row w K x.kids) (hsg : SgTab w) (hmay : mayB x 1 = true) (hl : (tellP x).length ≤ 1000000000) :
    Calls Tryz.prog 18 #[.agg #[.int .u8 x.k, .int .u64 x.num, .string x.name, .int .u8 x.op, .slice K x.kids.length c]] w fun e w' => TellR x e w' ∧ Below w.heap.size w w' := by
  have hb0 := (Below.refl w.heap.size w).alloc (Nat.le_refl _) (.cells #[.int .u8 x.k, .int .u64 x.num, .string x.name, .int .u8 x.op, .slice K x.kids.length c] 40)
  have B0 := Bk.new w #[.int .u8 x.k, .int .u64 x.num, .string x.name, .int .u8 x.op, .slice K x.kids.length c] 40
  have HC := Lib.hid (check_c' x K c _ hm (hr.mono hb0) true hmay)
  have HM := Lib.hid hmay
  clear hmay
  go_enter Tryz.func18, Tryz.ntmps18
  go_wp2_with fail
  refine HC.out.mono ?_
  rintro e w1 ⟨rfl, hb1⟩
  have B1 := B0.mono hb1
  have hbA := bt hb0 hb1
  have hbT := (Below.refl w1.heap.size w1).alloc (Nat.le_refl _) (.cells #[.slice none 0 0] 69)
  have B2 := B1.alloc (.cells #[.slice none 0 0] 69)
  have C2 := B2.cell
  have hT : Tl w1.heap.size w1.heap.size (w1.heap.size + 1) w1 (w1.alloc (.cells #[.slice none 0 0] 69)) [] [] :=
    ⟨⟨.slice none 0 0, Bk.new _ _ _, World.ownsRow_nil ..⟩, hbT, Nat.le_refl _, Nat.lt_succ_self _, by simp, fun p hp => by cases hp⟩
  simp only [if_true]
  go_wp2_with fail
  refine (tell_c x 1 w1.heap.size (w1.heap.size + 1) w1 _ [] [] K c HM.out ((hr.mono hb0).mono hb1) (hsg.mono hbA) hT (by simpa using hl)).mono ?_
  rintro e w2 ⟨rfl, ⟨⟨v, hk, hown⟩, hB, _, _, _, _⟩⟩
  rw [List.nil_append] at hown
  obtain ⟨a9, c9, rfl, hr9⟩ := own_row hown rfl
  have C3 := hk.cell
  go_wp2_with fail
  go_ret2
  exact ⟨⟨a9, c9, rfl, hr9⟩, bt hbA hB⟩
set_option maxRecDepth 100000 in
theorem tells_no (x : Ex) (K : Option Addr) (c : Nat) (w : World) (hm : x.kids.length ≤ maxLen) (hr : kEx.Row w K x.kids) (hmay : mayB x 1 = false) :
    Calls Tryz.prog 18 #[.agg #[.int .u8 x.k, .int .u64 x.num, .string x.name, .int .u8 x.op, .slice K x.kids.length c]] w fun e w' => e = .returned (.tuple #[.slice none 0 0, .int .i64 2]) ∧ Below w.heap.size w w' := by
  have hb0 := (Below.refl w.heap.size w).alloc (Nat.le_refl _) (.cells #[.int .u8 x.k, .int .u64 x.num, .string x.name, .int .u8 x.op, .slice K x.kids.length c] 40)
  have HC := Lib.hid (check_c' x K c _ hm (hr.mono hb0) false hmay)
  clear hmay
  go_enter Tryz.func18, Tryz.ntmps18
  go_wp2_with fail
  refine HC.out.mono ?_
  rintro e w1 ⟨rfl, hb1⟩
  go_wp2_with fail
  go_ret2
  exact ⟨rfl, bt hb0 hb1⟩
end Go.Proofs.YtkflcmengddijaaGreatDoor
