/-
  What is told is read again, plainly.
  What is read is told by its tokens, plainly.
  sacristylaw06.Large and sacristylaw07.bare walked.
  sacristylaw07.bare walked.
  append of rows of tokens that lie anywhere.
  ExprBack walked: up to what is told.
  Rows of tokens that come in, opened.
  ExprBack: what is told is read again, and what is read is told by its tokens; no condition but the listed variables, which the card ties to the program's text.
-/
import Derived.Test.YtkflcmengddijaaGreatDoorExRd5
import Derived.Test.YtkflcmengddijaaGreatDoorExTell3
import Derived.Test.YtkflcmengddijaaGreatDoorExRTell
import Derived.Test.YtkflcmengddijaaGreatDoorLexSame
import Derived.Test.YtkflcmengddijaaGreatDoorExRTell2
import Derived.Laws.AppendOwnNone
import Derived.Test.YtkflcmengddijaaGreatDoorExTells
import Derived.Test.YtkflcmengddijaaGreatDoorExOpen
import Derived.Test.YtkflcmengddijaaGreatDoorLexApp
import Derived.Test.YtkflcmengddijaaGreatDoorCards
import Derived.Test.YtkflcmengddijaaGreatDoorTie
import Derived.Test.YtkflcmengddijaaGreatDoorExRow
import Derived.SevenTiedAt
import Derived.Deep.DeepWitnessRowRef
namespace Go.Proofs.YtkflcmengddijaaGreatDoor
open Go.RowKit Lx
set_option linter.unusedVariables false
set_option linter.unusedSimpArgs false

theorem look_drop (L : List STok) (p : Nat) (t : STok) (S : List STok) (h : L.drop p = t :: S) : Rd.look L (p : Int) = t ∧ L.drop (p + 1) = S := by
  have hp : p < L.length := by
    rcases Nat.lt_or_ge p L.length with h1 | h1
    · exact h1
    · rw [List.drop_of_length_le h1] at h; cases h
  rw [List.drop_eq_getElem_cons hp] at h
  injection h with h1 h2
  refine ⟨?_, h2⟩
  rw [Rd.look_at (by omega) (by simpa using hp)]
  simpa using h1
theorem look_drop_nil (L : List STok) (p : Nat) (h : L.drop p = []) : Rd.look L (p : Int) = Rd.z := by
  refine Rd.look_out fun hh => ?_
  rw [List.drop_eq_nil_iff] at h
  omega
theorem opIdx_sign (op : Int) (h1 : 1 ≤ op) (h2 : op ≤ 14) : Rd.opIdx (opSign op) = op := by
  have h15 : op = 1 ∨ op = 2 ∨ op = 3 ∨ op = 4 ∨ op = 5 ∨ op = 6 ∨ op = 7 ∨ op = 8 ∨ op = 9 ∨ op = 10 ∨ op = 11 ∨ op = 12 ∨ op = 13 ∨ op = 14 := by omega
  rcases h15 with rfl | rfl | rfl | rfl | rfl | rfl | rfl | rfl | rfl | rfl | rfl | rfl | rfl | rfl <;> decide
theorem opSign_no (op : Int) (h1 : 1 ≤ op) (h2 : op ≤ 14) : opSign op ≠ [91] := by
  have h15 : op = 1 ∨ op = 2 ∨ op = 3 ∨ op = 4 ∨ op = 5 ∨ op = 6 ∨ op = 7 ∨ op = 8 ∨ op = 9 ∨ op = 10 ∨ op = 11 ∨ op = 12 ∨ op = 13 ∨ op = 14 := by omega
  rcases h15 with rfl | rfl | rfl | rfl | rfl | rfl | rfl | rfl | rfl | rfl | rfl | rfl | rfl | rfl <;> decide
/-- No sign [ stands there. -/
def NoOpen (S : List STok) : Prop := ∀ t R, S = t :: R → ¬ (t.k = 4 ∧ t.text = [91])
theorem noOpen_sg {s : List UInt8} {S : List STok} (h : s ≠ [91]) : NoOpen (sgT s :: S) := by
  intro t R e hh
  injection e with e1 e2
  subst e1
  exact h hh.2
theorem signB_at {L : List STok} {p : Nat} {t : STok} {S : List STok} (h : L.drop p = t :: S) (s : List UInt8) : Rd.signB L ⟨(p : Int), none⟩ s = (t.k == 4 && t.text == s) := by
  unfold Rd.signB
  rw [(look_drop L p t S h).1]
  rfl
theorem signB_no {L : List STok} {p : Nat} {S : List STok} (h : L.drop p = S) (hS : NoOpen S) : Rd.signB L ⟨(p : Int), none⟩ [91] = false := by
  cases S with
  | nil =>
    unfold Rd.signB
    rw [look_drop_nil L p h]
    rfl
  | cons t R =>
    rw [signB_at h]
    have := hS t R rfl
    cases h1 : (t.k == 4 && t.text == [91]) with
    | false => rfl
    | true =>
      simp only [Bool.and_eq_true, beq_iff_eq] at h1
      exact absurd h1 this
theorem str_data (s : ByteArray) : Rd.str s.data.toList = s := rfl
theorem cast1 (p : Nat) : (p : Int) + 1 = ((p + 1 : Nat) : Int) := by omega

theorem read_tell (x : Ex) : ∀ (d n : Nat) (L : List STok) (p : Nat) (S : List STok), mayB x d = true → d + n = 41 → L.drop p = tellP x ++ S → (x.k = 2 → NoOpen S) →
    Rd.expr L n ⟨(p : Int), none⟩ = (x, ⟨((p + (tellP x).length : Nat) : Int), none⟩) := by
  refine Ex.ind (P := fun x => ∀ (d n : Nat) (L : List STok) (p : Nat) (S : List STok), mayB x d = true → d + n = 41 → L.drop p = tellP x ++ S → (x.k = 2 → NoOpen S) →
    Rd.expr L n ⟨(p : Int), none⟩ = (x, ⟨((p + (tellP x).length : Nat) : Int), none⟩)) (fun x ih => ?_) x
  intro d n L p S hmay hdn hL hno
  have hd : d ≤ 40 := by
    rw [mayB_eq] at hmay
    simp only [Bool.and_eq_true, decide_eq_true_eq] at hmay
    exact hmay.1.1
  have hk : ∀ y ∈ x.kids, mayB y (d + 1) = true := by
    rw [mayB_eq] at hmay
    simp only [Bool.and_eq_true] at hmay
    exact List.all_eq_true.1 hmay.2
  obtain ⟨n, rfl⟩ : ∃ m, n = m + 1 := ⟨n - 1, by omega⟩
  rcases may_cases hmay with ⟨num, rfl⟩ | ⟨s, hn, rfl⟩ | ⟨s, hn, rfl⟩ | ⟨op, a, b, h1, h2, rfl⟩ | ⟨s, a, hn, rfl⟩
  · rw [tellP_1] at hL ⊢
    obtain ⟨e1, _⟩ := look_drop L p _ _ hL
    simp only [Rd.expr, e1, Option.isSome_none, Bool.false_eq_true, if_false, if_true, Rd.adv, List.length_singleton]
    rw [cast1]
  · rw [tellP_2] at hL ⊢
    obtain ⟨e1, e2⟩ := look_drop L p _ _ hL
    have s1 := signB_at hL [35]
    have s2 := signB_at hL [40]
    have hb : Rd.nameB L ⟨(p : Int), none⟩ = true := by unfold Rd.nameB; rw [e1]; simp [nmT, hn]
    have hnm : Rd.name L ⟨(p : Int), none⟩ = (s.data.toList, ⟨((p + 1 : Nat) : Int), none⟩) := by
      unfold Rd.name
      rw [if_pos hb, e1]
      show (s.data.toList, Rd.adv ⟨(p : Int), none⟩) = _
      unfold Rd.adv
      rw [cast1]
    have s3 := signB_no e2 (hno rfl)
    simp only [Rd.expr, e1, Option.isSome_none, Bool.false_eq_true, if_false]
    rw [if_neg (by simp [nmT]), s1, s2, hnm]
    simp only [s3]
    simp [nmT, str_data]
  · rw [tellP_4] at hL ⊢
    obtain ⟨e1, e2⟩ := look_drop L p _ _ hL
    obtain ⟨e3, e4⟩ := look_drop L (p + 1) _ _ e2
    have s1 := signB_at hL [35]
    have hb : Rd.nameB L ⟨((p + 1 : Nat) : Int), none⟩ = true := by unfold Rd.nameB; rw [e3]; simp [nmT, hn]
    have hnm : Rd.name L ⟨((p + 1 : Nat) : Int), none⟩ = (s.data.toList, ⟨((p + 2 : Nat) : Int), none⟩) := by
      unfold Rd.name
      rw [if_pos hb, e3]
      show (s.data.toList, Rd.adv ⟨((p + 1 : Nat) : Int), none⟩) = _
      unfold Rd.adv
      rw [cast1]
    simp only [Rd.expr, e1, Option.isSome_none, Bool.false_eq_true, if_false, Rd.adv]
    rw [if_neg (by simp [sgT]), s1, cast1, hnm]
    simp [sgT, str_data]
  · have ha := fun L p S => ih a (by simp [Ex.kids]) (d + 1) n L p S (hk a (by simp [Ex.kids])) (by omega)
    have hb := fun L p S => ih b (by simp [Ex.kids]) (d + 1) n L p S (hk b (by simp [Ex.kids])) (by omega)
    rw [tellP_3] at hL ⊢
    simp only [List.append_assoc, List.singleton_append, List.cons_append, List.nil_append] at hL
    obtain ⟨e1, e2⟩ := look_drop L p _ _ hL
    have s1 := signB_at hL [35]
    have s2 := signB_at hL [40]
    have hA := ha L (p + 1) _ e2 (fun _ => noOpen_sg (opSign_no op h1 h2))
    have e3 : L.drop (p + 1 + (tellP a).length) = sgT (opSign op) :: (tellP b ++ sgT [41] :: S) := by
      rw [← List.drop_drop, e2, List.drop_left]
    obtain ⟨e4, e5⟩ := look_drop L _ _ _ e3
    have ho : Rd.op L ⟨((p + 1 + (tellP a).length : Nat) : Int), none⟩ = (op, ⟨((p + 1 + (tellP a).length + 1 : Nat) : Int), none⟩) := by
      have hob : Rd.opB L ⟨((p + 1 + (tellP a).length : Nat) : Int), none⟩ = true := by
        unfold Rd.opB
        rw [e4]
        simp [sgT, opIdx_sign op h1 h2, h1]
      unfold Rd.op
      rw [if_pos hob, e4]
      show (Rd.opIdx (opSign op), Rd.adv _) = _
      rw [opIdx_sign op h1 h2]
      unfold Rd.adv
      rw [cast1]
    have hB := hb L _ _ e5 (fun _ => noOpen_sg (by decide))
    have e6 : L.drop (p + 1 + (tellP a).length + 1 + (tellP b).length) = sgT [41] :: S := by
      rw [← List.drop_drop, e5, List.drop_left]
    have s3 := signB_at e6 [41]
    simp only [Rd.expr, e1, Option.isSome_none, Bool.false_eq_true, if_false, Rd.adv]
    rw [if_neg (by simp [sgT]), s1, s2, cast1, hA]
    simp only [ho, hB, Rd.need, s3, Rd.adv]
    rw [cast1]
    have e7 : p + 1 + (tellP a).length + 1 + (tellP b).length + 1 = p + ([sgT [40]] ++ tellP a ++ [sgT (opSign op)] ++ tellP b ++ [sgT [41]]).length := by simp; omega
    rw [e7]
    simp [sgT]
  · have ha := fun L p S => ih a (by simp [Ex.kids]) (d + 1) n L p S (hk a (by simp [Ex.kids])) (by omega)
    rw [tellP_5] at hL ⊢
    simp only [List.append_assoc, List.singleton_append, List.cons_append, List.nil_append] at hL
    obtain ⟨e1, e2⟩ := look_drop L p _ _ hL
    obtain ⟨e1', e2'⟩ := look_drop L (p + 1) _ _ e2
    have s1 := signB_at hL [35]
    have s2 := signB_at hL [40]
    have s3 := signB_at e2 [91]
    have hb : Rd.nameB L ⟨(p : Int), none⟩ = true := by unfold Rd.nameB; rw [e1]; simp [nmT, hn]
    have hnm : Rd.name L ⟨(p : Int), none⟩ = (s.data.toList, ⟨((p + 1 : Nat) : Int), none⟩) := by
      unfold Rd.name
      rw [if_pos hb, e1]
      show (s.data.toList, Rd.adv ⟨(p : Int), none⟩) = _
      unfold Rd.adv
      rw [cast1]
    have hA := ha L (p + 1 + 1) _ e2' (fun _ => noOpen_sg (by decide))
    have e6 : L.drop (p + 1 + 1 + (tellP a).length) = sgT [93] :: S := by
      rw [← List.drop_drop, e2', List.drop_left]
    have s4 := signB_at e6 [93]
    simp only [Rd.expr, e1, Option.isSome_none, Bool.false_eq_true, if_false]
    rw [if_neg (by simp [nmT]), s1, s2, hnm]
    simp only [s3, Rd.adv]
    rw [cast1 (p + 1), hA]
    simp only [Rd.need, s4, Rd.adv]
    rw [cast1 (p + 1 + 1 + (tellP a).length)]
    have e7 : p + 1 + 1 + (tellP a).length + 1 = p + ([nmT s, sgT [91]] ++ tellP a ++ [sgT [93]]).length := by simp; omega
    rw [e7]
    simp [nmT, sgT, str_data]
end Go.Proofs.YtkflcmengddijaaGreatDoor

namespace Go.Proofs.YtkflcmengddijaaGreatDoor
open Go.RowKit Lx
set_option linter.unusedVariables false
set_option linter.unusedSimpArgs false

/-- A token of a number without a text, another one without a number; without its place. -/
def bareT (t : STok) : STok := if t.k = 3 then ⟨3, [], t.num, 0⟩ else ⟨t.k, t.text, 0, 0⟩
theorem look_cons {L : List STok} {p : Nat} (h : (Rd.look L (p : Int)).k ≠ 0) : L.drop p = Rd.look L (p : Int) :: L.drop (p + 1) := by
  obtain ⟨h0, h1⟩ := Rd.look_in h
  rw [Rd.look_at h0 h1]
  exact List.drop_eq_getElem_cons (by simpa using h1)
theorem signB_ok {L : List STok} {p : Nat} {t : List UInt8} (h : Rd.signB L ⟨(p : Int), none⟩ t = true) : ∃ T, L.drop p = T :: L.drop (p + 1) ∧ bareT T = sgT t := by
  unfold Rd.signB at h
  simp only [Option.isNone_none, Bool.true_and, Bool.and_eq_true, beq_iff_eq] at h
  refine ⟨_, look_cons (by rw [h.1]; decide), ?_⟩
  unfold bareT sgT
  rw [if_neg (by rw [h.1]; decide), h.1, h.2]
theorem badS (L : List STok) (s : RS) (e : Int) : (Rd.bad L s e).err ≠ none := by
  unfold Rd.bad
  split <;> simp
theorem need_ok {L : List STok} {p : Nat} {t : List UInt8} (h : (Rd.need L ⟨(p : Int), none⟩ t).err = none) : Rd.need L ⟨(p : Int), none⟩ t = ⟨((p + 1 : Nat) : Int), none⟩ ∧ ∃ T, L.drop p = T :: L.drop (p + 1) ∧ bareT T = sgT t := by
  unfold Rd.need at h ⊢
  by_cases hs : Rd.signB L ⟨(p : Int), none⟩ t = true
  · rw [if_pos hs]
    refine ⟨?_, signB_ok hs⟩
    unfold Rd.adv
    rw [cast1 p]
  · rw [if_neg hs] at h
    exact absurd h (badS _ _ _)
theorem needErr {L : List STok} {s : RS} {t : List UInt8} (h : (Rd.need L s t).err = none) : s.err = none := by
  unfold Rd.need at h
  by_cases hs : Rd.signB L s t = true
  · rw [if_pos hs] at h
    exact h
  · rw [if_neg hs] at h
    exact absurd h (badS _ _ _)
theorem name_ok {L : List STok} {p : Nat} (h : (Rd.name L ⟨(p : Int), none⟩).2.err = none) : ∃ T, L.drop p = T :: L.drop (p + 1) ∧ isName T.text = true ∧ Rd.name L ⟨(p : Int), none⟩ = (T.text, ⟨((p + 1 : Nat) : Int), none⟩) ∧ bareT T = nmT (Rd.str T.text) := by
  unfold Rd.name at h ⊢
  by_cases hs : Rd.nameB L ⟨(p : Int), none⟩ = true
  · rw [if_pos hs]
    unfold Rd.nameB at hs
    simp only [Option.isNone_none, Bool.true_and, Bool.and_eq_true, beq_iff_eq] at hs
    refine ⟨_, look_cons (by rw [hs.1]; decide), hs.2, ?_, ?_⟩
    · unfold Rd.adv
      rw [cast1 p]
    · unfold bareT nmT
      rw [if_neg (by rw [hs.1]; decide), hs.1]
      rfl
  · rw [if_neg hs] at h
    exact absurd h (badS _ _ _)
theorem opIdx_ok {t : List UInt8} (h : 1 ≤ Rd.opIdx t) : Rd.opIdx t ≤ 14 ∧ opSign (Rd.opIdx t) = t := by
  unfold Rd.opIdx at h ⊢
  cases hf : signsL.findIdx? (· == t) with
  | none => rw [hf] at h; simp at h
  | some i =>
    obtain ⟨hi, he, _⟩ := List.findIdx?_eq_some_iff_getElem.1 hf
    have hi' : i < 15 := hi
    refine ⟨by show ((i : Nat) : Int) ≤ 14; omega, ?_⟩
    unfold opSign
    show signsL.getD ((i : Nat) : Int).toNat [] = t
    rw [Int.toNat_natCast, List.getD_eq_getElem?_getD, List.getElem?_eq_getElem hi]
    simpa using he
theorem op_ok {L : List STok} {p : Nat} (h : (Rd.op L ⟨(p : Int), none⟩).2.err = none) : ∃ T o, L.drop p = T :: L.drop (p + 1) ∧ 1 ≤ o ∧ o ≤ 14 ∧ Rd.op L ⟨(p : Int), none⟩ = (o, ⟨((p + 1 : Nat) : Int), none⟩) ∧ bareT T = sgT (opSign o) := by
  unfold Rd.op at h ⊢
  by_cases hs : Rd.opB L ⟨(p : Int), none⟩ = true
  · rw [if_pos hs]
    unfold Rd.opB at hs
    simp only [Option.isNone_none, Bool.true_and, Bool.and_eq_true, beq_iff_eq, decide_eq_true_eq] at hs
    have ho := opIdx_ok hs.2
    refine ⟨_, _, look_cons (by rw [hs.1]; decide), hs.2, ho.1, ?_, ?_⟩
    · unfold Rd.adv
      rw [cast1 p]
    · unfold bareT sgT
      rw [if_neg (by rw [hs.1]; decide), hs.1, ho.2]
  · rw [if_neg hs] at h
    exact absurd h (badS _ _ _)
theorem opErr {L : List STok} {s : RS} (h : (Rd.op L s).2.err = none) : s.err = none := by
  unfold Rd.op at h
  by_cases hs : Rd.opB L s = true
  · rw [if_pos hs] at h
    exact h
  · rw [if_neg hs] at h
    exact absurd h (badS _ _ _)
theorem exprErr {L : List STok} {n : Nat} {s : RS} (h : (Rd.expr L n s).2.err = none) : s.err = none := by
  cases n with
  | zero => exact absurd h (badS _ _ _)
  | succ n =>
    cases he : s.err with
    | none => rfl
    | some v =>
      unfold Rd.expr at h
      rw [if_pos (by rw [he]; rfl), he] at h
      cases h
theorem rs_none {s : RS} (h : s.err = none) : s = ⟨s.pos, none⟩ := by
  obtain ⟨p, e⟩ := s
  obtain rfl : e = none := h
  rfl
theorem expr_neg {L : List STok} {n : Nat} {a : Int} (h : (Rd.expr L n ⟨a, none⟩).2.err = none) : 0 ≤ a := by
  rcases Int.lt_or_le a 0 with ha | ha
  · exfalso
    have hl : Rd.look L a = Rd.z := Rd.look_out (by omega)
    cases n with
    | zero => exact absurd h (badS _ _ _)
    | succ n =>
      have hs : ∀ t, Rd.signB L ⟨a, none⟩ t = false := fun t => by unfold Rd.signB; rw [hl]; rfl
      have hb : Rd.nameB L ⟨a, none⟩ = false := by unfold Rd.nameB; rw [hl]; rfl
      have hn : Rd.name L ⟨a, none⟩ = ([], ⟨a, some (Rd.place L a, 7)⟩) := by
        unfold Rd.name
        rw [if_neg (by rw [hb]; simp)]
        rfl
      have hs2 : Rd.signB L ⟨a, some (Rd.place L a, 7)⟩ [91] = false := rfl
      unfold Rd.expr at h
      rw [if_neg (by simp), if_neg (by rw [hl]; decide), hs, hs, hn] at h
      simp only [Bool.false_eq_true, if_false, hs2] at h
      cases h
  · exact ha
/-- What was read is told by its tokens. -/
structure Told1 (L : List STok) (p d : Nat) (x : Ex) (s : RS) : Prop where
  may : mayB x d = true
  told : ∃ M S, L.drop p = M ++ S ∧ M.map bareT = tellP x ∧ s = ⟨((p + M.length : Nat) : Int), none⟩
theorem may_1 {d : Nat} (hd : d ≤ 40) (num : Int) : mayB (.mk 1 num ⟨#[]⟩ 0 []) d = true := by
  rw [mayB_eq]; simp [hd, shapeB, Ex.k, Ex.name, Ex.op, Ex.kids]; rfl
theorem may_24 {d : Nat} (hd : d ≤ 40) {k : Int} (hk : k = 2 ∨ k = 4) {t : List UInt8} (ht : isName t = true) : mayB (.mk k 0 (Rd.str t) 0 []) d = true := by
  rw [mayB_eq]
  have : nameB (.mk k 0 (Rd.str t) 0 []) = true := ht
  rcases hk with rfl | rfl <;> simp [hd, shapeB, Ex.k, Ex.num, Ex.op, Ex.kids, this]
theorem may_3 {d : Nat} (hd : d ≤ 40) {op : Int} (h1 : 1 ≤ op) (h2 : op ≤ 14) {a b : Ex} (ha : mayB a (d + 1) = true) (hb : mayB b (d + 1) = true) : mayB (.mk 3 0 ⟨#[]⟩ op [a, b]) d = true := by
  rw [mayB_eq]
  have h0 : (ByteArray.mk #[]).size = 0 := rfl
  simp only [shapeB, Ex.k, Ex.num, Ex.name, Ex.op, Ex.kids, List.all_cons, List.all_nil, ha, hb, h0]
  simp [hd, h1, h2]
theorem may_5 {d : Nat} (hd : d ≤ 40) {t : List UInt8} (ht : isName t = true) {a : Ex} (ha : mayB a (d + 1) = true) : mayB (.mk 5 0 (Rd.str t) 0 [a]) d = true := by
  rw [mayB_eq]
  have : nameB (.mk 5 0 (Rd.str t) 0 [a]) = true := ht
  simp [hd, shapeB, Ex.k, Ex.num, Ex.op, Ex.kids, this, ha]
theorem tell_read (L : List STok) : ∀ (n d p : Nat), n + d = 41 → (Rd.expr L n ⟨(p : Int), none⟩).2.err = none → Told1 L p d (Rd.expr L n ⟨(p : Int), none⟩).1 (Rd.expr L n ⟨(p : Int), none⟩).2 := by
  intro n
  induction n with
  | zero => intro d p hd h; exact absurd h (badS _ _ _)
  | succ n ih =>
    intro d p hdn h
    have hd : d ≤ 40 := by omega
    unfold Rd.expr at h ⊢
    rw [if_neg (by simp)] at h ⊢
    by_cases c1 : (Rd.look L (p : Int)).k = 3
    · rw [if_pos c1]
      refine ⟨may_1 hd _, [Rd.look L (p : Int)], _, look_cons (by rw [c1]; decide), ?_, ?_⟩
      · rw [tellP_1]
        simp only [List.map_cons, List.map_nil, bareT, if_pos c1]
      · unfold Rd.adv
        rw [cast1 p]
        rfl
    rw [if_neg c1] at h ⊢
    by_cases c2 : Rd.signB L ⟨(p : Int), none⟩ [35] = true
    · rw [if_pos c2] at h ⊢
      obtain ⟨T, hT, hb⟩ := signB_ok c2
      simp only [Rd.adv] at h ⊢
      rw [cast1 p] at h ⊢
      obtain ⟨U, hU, hn, he, hbU⟩ := name_ok h
      rw [he]
      refine ⟨may_24 hd (.inr rfl) hn, [T, U], L.drop (p + 1 + 1), ?_, ?_, ?_⟩
      · rw [hT, hU]; rfl
      · rw [tellP_4, List.map_cons, List.map_cons, hb, hbU]; rfl
      · rfl
    rw [if_neg c2] at h ⊢
    by_cases c3 : Rd.signB L ⟨(p : Int), none⟩ [40] = true
    · rw [if_pos c3] at h ⊢
      obtain ⟨T, hT, hb⟩ := signB_ok c3
      simp only [Rd.adv] at h ⊢
      rw [cast1 p] at h ⊢
      have g1 := needErr h
      have g2 := exprErr g1
      have g3 := opErr g2
      have ha := ih (d + 1) (p + 1) (by omega) g3
      obtain ⟨M, S, hM, hMt, hs⟩ := ha.told
      generalize Rd.expr L n ⟨((p + 1 : Nat) : Int), none⟩ = A at *
      obtain ⟨a, sa⟩ := A
      subst hs
      obtain ⟨U, o, hU, o1, o2, ho, hbU⟩ := op_ok g2
      rw [ho] at h g1 ⊢
      have hb2 := ih (d + 1) _ (by omega) g1
      obtain ⟨N, R, hN, hNt, hs2⟩ := hb2.told
      generalize Rd.expr L n ⟨((p + 1 + M.length + 1 : Nat) : Int), none⟩ = B at *
      obtain ⟨b, sb⟩ := B
      subst hs2
      obtain ⟨hq, V, hV, hbV⟩ := need_ok h
      refine ⟨may_3 hd o1 o2 ha.may hb2.may, T :: (M ++ U :: (N ++ [V])), L.drop (p + 1 + M.length + 1 + N.length + 1), ?_, ?_, ?_⟩
      · have e1 : L.drop (p + 1 + M.length) = S := by rw [← List.drop_drop, hM, List.drop_left]
        have e2 : L.drop (p + 1 + M.length + 1 + N.length) = R := by rw [← List.drop_drop, hN, List.drop_left]
        rw [hT, hM, ← e1, hU, hN, ← e2, hV]
        simp
      · rw [tellP_3]
        simp only [List.map_cons, List.map_append, List.map_nil, hb, hbU, hbV, hMt, hNt]
        simp
      · show Rd.need L _ _ = _
        rw [hq]
        congr 1
        simp
        omega
    rw [if_neg c3] at h ⊢
    by_cases c4 : Rd.nameB L ⟨(p : Int), none⟩ = true
    · obtain ⟨T, hT, hn, he, hb⟩ := name_ok (L := L) (p := p) (by unfold Rd.name; rw [if_pos c4]; rfl)
      rw [he] at h ⊢
      simp only at h ⊢
      by_cases c5 : Rd.signB L ⟨((p + 1 : Nat) : Int), none⟩ [91] = true
      · rw [if_pos c5] at h ⊢
        obtain ⟨U, hU, hbU⟩ := signB_ok c5
        simp only [Rd.adv] at h ⊢
        rw [cast1 (p + 1)] at h ⊢
        have g1 := needErr h
        have ha := ih (d + 1) (p + 1 + 1) (by omega) g1
        obtain ⟨M, S, hM, hMt, hs⟩ := ha.told
        generalize Rd.expr L n ⟨((p + 1 + 1 : Nat) : Int), none⟩ = A at *
        obtain ⟨a, sa⟩ := A
        subst hs
        obtain ⟨hq, V, hV, hbV⟩ := need_ok h
        refine ⟨may_5 hd hn ha.may, T :: U :: (M ++ [V]), L.drop (p + 1 + 1 + M.length + 1), ?_, ?_, ?_⟩
        · have e1 : L.drop (p + 1 + 1 + M.length) = S := by rw [← List.drop_drop, hM, List.drop_left]
          rw [hT, hU, hM, ← e1, hV]
          simp
        · rw [tellP_5]
          simp only [List.map_cons, List.map_append, List.map_nil, hb, hbU, hbV, hMt]
          simp
        · show Rd.need L _ _ = _
          rw [hq]
          congr 1
          simp
          omega
      · rw [if_neg c5]
        refine ⟨may_24 hd (.inl rfl) hn, [T], L.drop (p + 1), hT, ?_, rfl⟩
        rw [tellP_2, List.map_cons, hb]; rfl
    · exfalso
      have hn : Rd.name L ⟨(p : Int), none⟩ = ([], ⟨(p : Int), some (Rd.place L (p : Int), 7)⟩) := by
        unfold Rd.name
        rw [if_neg c4]
        rfl
      have hs2 : Rd.signB L ⟨(p : Int), some (Rd.place L (p : Int), 7)⟩ [91] = false := rfl
      rw [hn] at h
      simp only [Bool.false_eq_true, if_false, hs2] at h
      cases h
/-- As the law asks. -/
theorem tell_read_at {L : List STok} {a : Int} (h : (Rd.expr L 40 ⟨a, none⟩).2.err = none) : ∃ p q : Nat, a = (p : Int) ∧ (Rd.expr L 40 ⟨a, none⟩).2 = ⟨(q : Int), none⟩ ∧ p < q ∧ q ≤ L.length ∧ mayB (Rd.expr L 40 ⟨a, none⟩).1 1 = true ∧
    ((L.drop p).take (q - p)).map bareT = tellP (Rd.expr L 40 ⟨a, none⟩).1 := by
  have h0 := expr_neg h
  obtain ⟨p, rfl⟩ : ∃ p : Nat, a = (p : Int) := ⟨a.toNat, by omega⟩
  have ht := tell_read L 40 1 p rfl h
  obtain ⟨M, S, hM, hMt, hs⟩ := ht.told
  have hpos := tellP_pos ht.may
  rw [← hMt, List.length_map] at hpos
  have hl := congrArg List.length hM
  rw [List.length_drop, List.length_append] at hl
  refine ⟨p, p + M.length, rfl, hs, by omega, by omega, ht.may, ?_⟩
  rw [hM, Nat.add_sub_cancel_left, List.take_left, hMt]
end Go.Proofs.YtkflcmengddijaaGreatDoor

namespace Go.Proofs.YtkflcmengddijaaGreatDoor
open Go.RowKit Lx
set_option linter.unusedVariables false
set_option linter.unusedSimpArgs false

/-- Large says no of no more than 2000 tokens. -/
def TokLargeR (xs : List STok) (e : Ending) : Prop := ∃ b : Bool, e = .returned (.bool b) ∧ (b = false → xs.length ≤ 2000)
set_option maxRecDepth 100000 in
set_option maxHeartbeats 4000000 in
theorem tokLarge_c (xs : List STok) (A : Option Addr) (c : Nat) (w : World) (hx : kTok.Row w A xs) :
    Calls Tryz.prog 22 #[.slice A xs.length c] w fun e w' => TokLargeR xs e ∧ Below w.heap.size w w' := by
  go_enter Tryz.func22, Tryz.ntmps22
  go_wp2
  go_loopw [3, 4] (fun n i wr => ∃ (k : Nat) (v : Int), k ≤ 3000 ∧ n = .int .i64 v ∧ i = .int .i64 k ∧ Below w.heap.size w wr) (fun _ i _ => 3000 - (intOf i).toNat)
  case atStart => exact ⟨0, 0, Nat.zero_le _, rfl, rfl, Below.refl _ _⟩
  case round =>
    obtain ⟨k, v, hk, rfl, rfl, hb⟩ := hrel
    by_cases hlt : k < xs.length
    · by_cases h3 : k < 3000
      · obtain ⟨b, o, rfl, g0, g1, g2, g3⟩ := kTok_at (hx.mono hb) k hlt
        have i0 : (0 : Int) ≤ (k : Int) := by omega
        have i1 : (k : Int) < (xs.length : Int) := by omega
        have i2 : (k : Int) < 3000 := by omega
        go_wp2
        exact ⟨⟨k + 1, _, by omega, rfl, by go_num, hb⟩, by simp [intOf]; omega⟩
      · have i2 : ¬ (k : Int) < 3000 := by omega
        have i3 : (2000 : Int) < (xs.length : Int) := by omega
        go_wp2
        go_ret
        exact ⟨⟨true, rfl, fun h => by cases h⟩, hb⟩
    · have i1 : ¬ (k : Int) < (xs.length : Int) := by omega
      by_cases h4 : 2000 < xs.length
      · have i3 : (2000 : Int) < (xs.length : Int) := by omega
        go_wp2
        go_ret
        exact ⟨⟨true, rfl, fun h => by cases h⟩, hb⟩
      · have i3 : ¬ (2000 : Int) < (xs.length : Int) := by omega
        go_wp2
        go_ret
        exact ⟨⟨_, rfl, fun h => by omega⟩, hb⟩
end Go.Proofs.YtkflcmengddijaaGreatDoor

namespace Go.Proofs.YtkflcmengddijaaGreatDoor
open Go.RowKit Lx
set_option linter.unusedVariables false
set_option linter.unusedSimpArgs false

/-- A token of a number without a text, another one without a number. -/
def bareA (t : STok) : STok := if t.k = 3 then ⟨t.k, [], t.num, t.at'⟩ else ⟨t.k, t.text, 0, t.at'⟩
set_option maxRecDepth 100000 in
set_option maxHeartbeats 4000000 in
theorem bareLaw_c (xs : List STok) (A : Option Addr) (c : Nat) (w : World) (hx : kTok.Row w A xs) (hl : xs.length ≤ 100000) :
    Calls Tryz.prog 25 #[.slice A xs.length c] w fun e w' => (∃ v, e = .returned v ∧ w'.ownsRow w.heap.size 50 4 v xs.length (cellsOf (xs.map bareA))) ∧ Below w.heap.size w w' := by
  go_enter Tryz.func25, Tryz.ntmps25
  go_wp2
  go_loopw [3, 4] (fun v i wr => ∃ (k : Nat), k ≤ xs.length ∧ i = .int .i64 k ∧ wr.ownsRow w.heap.size 50 4 v ((xs.take k).map bareA).length (cellsOf ((xs.take k).map bareA)) ∧ Below w.heap.size w wr) (fun _ i _ => xs.length - (intOf i).toNat)
  case atStart => exact ⟨0, Nat.zero_le _, rfl, World.ownsRow_nil .., Below.refl _ _⟩
  case round =>
    obtain ⟨k, hk, rfl, hown0, hb⟩ := hrel
    obtain ⟨ts, hts⟩ : ∃ ts, ts = (xs.take k).map bareA := ⟨_, rfl⟩
    rw [← hts] at hown0
    have hown := hown0
    have htl : ts.length = k := by rw [hts, List.length_map, List.length_take]; omega
    have HTS := Lib.hid hts
    have HTL := Lib.hid htl
    clear hts hown0
    by_cases hlt : k < xs.length
    · obtain ⟨b, o, rfl, g0, g1, g2, g3⟩ := kTok_at (hx.mono hb) k hlt
      have i0 : (0 : Int) ≤ (k : Int) := by omega
      have i1 : (k : Int) < (xs.length : Int) := by omega
      have T0 := Bk.new wr #[.int .u8 xs[k].k, .string ⟨xs[k].text.toArray⟩, .int .u64 xs[k].num, .int .i64 xs[k].at'] 50
      have C0 := T0.cell
      have F0 := T0.free
      have hbs := hb.size
      have KEY : ∀ (W : World) (v1 : Value) (t : STok), t = bareA xs[k] → W.ownsRow w.heap.size 50 4 v1 (ts.length + 1) (cellsOf ts ++ tokCells t) → W.ownsRow w.heap.size 50 4 v1 ((xs.take (k + 1)).map bareA).length (cellsOf ((xs.take (k + 1)).map bareA)) := by
        intro W v1 t ht h
        rw [List.take_succ_eq_append_getElem hlt, List.map_append, ← HTS.out, List.map_cons, List.map_nil, ← ht, cellsOf_snoc]
        simpa using h
      by_cases h3 : xs[k].k = 3
      · have hba : (⟨3, [], xs[k].num, xs[k].at'⟩ : STok) = bareA xs[k] := by unfold bareA; rw [if_pos h3, h3]
        go_upto_region 9 with (fail)
        have T1 := Bk.new wr #[.int .u8 3, .string ⟨#[]⟩, .int .u64 xs[k].num, .int .i64 xs[k].at'] 50
        have hal := hb.alloc hb.size (.cells #[.int .u8 3, .string ⟨#[]⟩, .int .u64 xs[k].num, .int .i64 xs[k].at'] 50)
        have hw0 := hown.alloc (.cells #[.int .u8 3, .string ⟨#[]⟩, .int .u64 xs[k].num, .int .i64 xs[k].at'] 50)
        obtain ⟨W, hW⟩ : ∃ W, W = (wr.alloc (.cells #[.int .u8 3, .string ⟨#[]⟩, .int .u64 xs[k].num, .int .i64 xs[k].at'] 50)) := ⟨_, rfl⟩
        rw [← hW] at T1 hal hw0
        rw [← hW]
        have hz := hal.size
        clear hW C0 F0 T0
        have C1 := T1.cell
        go_wp2_with (at_builtin; refine wpList_append_tok rfl _ _ rfl w.heap.size _ ts.length (cellsOf ts) rfl (hw0.alloc _) W.heap.size _ _ _ _ ⟨rfl, rfl, rfl, rfl⟩ rfl (Bk.new _ _ _) (by omega) (by simp; omega) ?_; intro v1 w3 hown1 hgrow)
        exact ⟨⟨k + 1, by omega, by go_num, KEY _ _ _ hba hown1, (hal.alloc hal.size _).grown hgrow (by simp; omega) (own_from hw0)⟩, by simp [intOf]; omega⟩
      · have hba : (⟨xs[k].k, xs[k].text, 0, xs[k].at'⟩ : STok) = bareA xs[k] := by unfold bareA; rw [if_neg h3]
        go_upto_region 9 with (fail)
        have T1 := Bk.new wr #[.int .u8 xs[k].k, .string ⟨xs[k].text.toArray⟩, .int .u64 0, .int .i64 xs[k].at'] 50
        have hal := hb.alloc hb.size (.cells #[.int .u8 xs[k].k, .string ⟨xs[k].text.toArray⟩, .int .u64 0, .int .i64 xs[k].at'] 50)
        have hw0 := hown.alloc (.cells #[.int .u8 xs[k].k, .string ⟨xs[k].text.toArray⟩, .int .u64 0, .int .i64 xs[k].at'] 50)
        obtain ⟨W, hW⟩ : ∃ W, W = (wr.alloc (.cells #[.int .u8 xs[k].k, .string ⟨xs[k].text.toArray⟩, .int .u64 0, .int .i64 xs[k].at'] 50)) := ⟨_, rfl⟩
        rw [← hW] at T1 hal hw0
        rw [← hW]
        have hz := hal.size
        clear hW C0 F0 T0
        have C1 := T1.cell
        go_wp2_with (at_builtin; refine wpList_append_tok rfl _ _ rfl w.heap.size _ ts.length (cellsOf ts) rfl (hw0.alloc _) W.heap.size _ _ _ _ ⟨rfl, rfl, rfl, rfl⟩ rfl (Bk.new _ _ _) (by omega) (by simp; omega) ?_; intro v1 w3 hown1 hgrow)
        exact ⟨⟨k + 1, by omega, by go_num, KEY _ _ _ hba hown1, (hal.alloc hal.size _).grown hgrow (by simp; omega) (own_from hw0)⟩, by simp [intOf]; omega⟩
    · obtain rfl : k = xs.length := by omega
      go_wp2
      go_ret
      have h := HTS.out
      rw [List.take_length] at h
      refine ⟨⟨_, rfl, ?_⟩, hb⟩
      rw [h, List.length_map] at hown
      exact hown
end Go.Proofs.YtkflcmengddijaaGreatDoor

namespace Go.Proofs.YtkflcmengddijaaGreatDoor
open Go.RowKit Lx
set_option linter.unusedVariables false
set_option linter.unusedSimpArgs false

theorem rowT_news {w : World} {A : Option Addr} {ts : List STok} {ad : Addr} (h : kTok.Row w A ts) (hA : A = some ad) : ∀ j u, (cellsOf ts)[j]? = some u → w.cell? (ad.add j) = some u := by
  intro j u hj
  have hjl : j < ts.length * 4 := by rw [← cellsOf_length]; exact (List.getElem?_eq_some_iff.1 hj).1
  have hi : j / 4 < ts.length := by omega
  obtain ⟨b, o, cs, e, h1, h2⟩ := h.at (j / 4) hi
  obtain rfl : cs = tokCells ts[j / 4] := h1
  rw [hA] at e
  injection e with e
  subst e
  have hadd : (⟨b, o, none⟩ : Addr).add j = ⟨b, o + j, none⟩ := by simp only [Addr.add]; split <;> simp_all
  have h4 : j % 4 < (tokCells ts[j / 4]).length := by simp [tokCells]; omega
  have h3 := h2 (j % 4) h4
  have hd : j / 4 * 4 + j % 4 = j := by omega
  have h5 : o + j / 4 * kTok.sz + j % 4 = o + j := by show o + j / 4 * 4 + j % 4 = o + j; omega
  rw [h5] at h3
  have h6 := cellsOf_get ts (j / 4) hi (j % 4) (by omega)
  rw [hd, hj, List.getElem?_eq_getElem h4] at h6
  rw [hadd, h3, h6]
/-- l = append(l, ts...), ts a row of any. -/
theorem wpList_append_rowT {ops : Array Oper} {rest : List Oper} {o : Oper} {a : Act} {Q : Exit → Act → World → Prop} {w : World} (hgd : o.guard = none) (s x : Operand)
    (ho : o.op = .call { callee := .builtin .append, args := #[s, x], argTypes := #[23, 23] }) (base : Nat) (v : Value) (xs ts : List STok) (hs : a.eval s = v) (hown : w.ownsRow base 50 4 v xs.length (cellsOf xs))
    (A : Option Addr) (c : Nat) (hx : a.eval x = .slice A ts.length c) (hnil : A = none → c = 0) (hr : kTok.Row w A ts) (hn : xs.length + ts.length ≤ 1000000010) (hb : base ≤ w.heap.size)
    (h : ∀ v' w', w'.ownsRow base 50 4 v' (xs ++ ts).length (cellsOf (xs ++ ts)) → w.grownBy w' v.ownBlock → wpList Tryz.prog ops Q rest (a.put o.dst v') w') : wpList Tryz.prog ops Q (o :: rest) a w := by
  obtain ⟨i0, hi, hz0, hz1, hz2⟩ := info_parts infoTok
  have hcat : cellsOf (xs ++ ts) = cellsOf xs ++ cellsOf ts := by simp [cellsOf]
  cases A with
  | none =>
    obtain rfl := hnil rfl
    have h0 : ts = [] := by
      rcases hr with h | ⟨b, o, e, _⟩
      · exact h
      · cases e
    subst h0
    refine wpList_append_own_none hgd s x 23 ho base 50 i0 4 Tryz.underlying23 hi v xs.length (cellsOf xs) hs hown hx ?_
    exact h v w (by simpa using hown) ⟨rfl, rfl, rfl, Nat.le_refl _, fun n hn _ => rfl⟩
  | some ad =>
    refine wpList_append_own w hgd s x _ ho base 50 i0 (.agg #[.int .u8 0, .string ⟨#[]⟩, .int .u64 0, .int .i64 0]) 4 40 Tryz.underlying23 hi hz0 hz1 hz2 rfl (by decide) v xs.length (cellsOf xs) hs hown ad ts.length c (cellsOf ts) hx (cellsOf_length ts) (rowT_news hr rfl) (cellsOf_one ts) (by unfold maxLen; omega) (by omega) hb (fun v' w' g1 g2 _ => h v' w' ?_ g2)
    rw [hcat, List.length_append]
    exact g1
end Go.Proofs.YtkflcmengddijaaGreatDoor

namespace Go.Proofs.YtkflcmengddijaaGreatDoor
open Go.RowKit Lx
set_option linter.unusedVariables false
set_option linter.unusedSimpArgs false

/-- What the law has of its arguments. -/
structure Bks (x : Ex) (K : Option Addr) (c : Nat) (LA LB : List STok) (A B : Option Addr) (w W : World) : Prop where
  b0 : Bk W w.heap.size (exL x K c).toArray 40
  r0 : kEx.Row W K x.kids
  ra : kTok.Row W A LA
  rb : kTok.Row W B LB
  bel : Below w.heap.size w W
theorem Bks.mono {x : Ex} {K : Option Addr} {c : Nat} {LA LB : List STok} {A B : Option Addr} {w W W' : World} (h : Bks x K c LA LB A B w W) (hb : Below W.heap.size W W') : Bks x K c LA LB A B w W' :=
  ⟨h.b0.mono hb, h.r0.mono hb, h.ra.mono hb, h.rb.mono hb, h.bel.trans (hb.mono h.bel.size)⟩

theorem bareEq_read {L : List STok} {p n : Nat} {y : Ex} (h : ((L.drop p).take n).map bareT = tellP y) : BareEq (tellP y) (((L.drop p).take n).map bareA) := by
  unfold BareEq
  rw [← h, List.map_map, List.map_map]
  refine List.map_congr_left fun t _ => ?_
  simp only [Function.comp, bareT, bareA]
  split
  · rename_i h3; rw [h3]
  · rfl
theorem row_part {w : World} {b o : Nat} {L : List STok} (h : kTok.Row w (some ⟨b, o, none⟩) L) (p n : Nat) : kTok.Row w (some ⟨b, o + p * 4, none⟩) ((L.drop p).take n) := by
  rcases h with h | ⟨b', o', e, hc⟩
  · subst h; exact .inl (by simp)
  · injection e with e
    injection e with e1 e2 _
    subst e1 e2
    refine .inr ⟨b, o + p * 4, rfl, fun i hi => ?_⟩
    have hi2 : p + i < L.length := by simp [List.length_take, List.length_drop] at hi; omega
    obtain ⟨cs, h1, h2⟩ := hc (p + i) hi2
    refine ⟨cs, ?_, fun j hj => ?_⟩
    · rw [List.getElem_take, List.getElem_drop]; exact h1
    · have := h2 j hj
      rw [← this]
      congr 2
      show o + p * 4 + i * 4 + j = o + (p + i) * 4 + j
      omega
set_option maxRecDepth 100000 in
set_option maxHeartbeats 8000000 in
theorem exprBack_c (x : Ex) (K : Option Addr) (c : Nat) (LA LB : List STok) (A B : Option Addr) (ca cb : Nat) (p : Int) (w : World) (hE : Env w) (hsg : SgTab w) (hm : x.kids.length ≤ maxLen) (hn0 : K = none → c = 0) (hr : kEx.Row w K x.kids) (hok : NamesOk x)
    (hra : kTok.Row w A LA) (hrb : kTok.Row w B LB) (hna : A = none → ca = 0) (hnb : B = none → cb = 0) (hcb : LB.length ≤ cb) :
    Calls Tryz.prog 5 #[.agg #[.int .u8 x.k, .int .u64 x.num, .string x.name, .int .u8 x.op, .slice K x.kids.length c], .slice A LA.length ca, .slice B LB.length cb, .int .i64 p] w fun e w' => e = .returned (.bool true) ∧ Below w.heap.size w w' := by
  have hb0 := (Below.refl w.heap.size w).alloc (Nat.le_refl _) (.cells (exL x K c).toArray 40)
  have B0 := Bk.new w (exL x K c).toArray 40
  have HL := Lib.hid (large_c x K c _ hm hn0 (hr.mono hb0) hok)
  have HT0 : Bks x K c LA LB A B w (w.alloc (.cells (exL x K c).toArray 40)) := ⟨B0, hr.mono hb0, hra.mono hb0, hrb.mono hb0, hb0⟩
  have HOK := Lib.hid hok
  have HN0 := Lib.hid hn0
  have HNA := Lib.hid hna
  have HNB := Lib.hid hnb
  clear hok hn0 hna hnb hr hra hrb hb0 B0
  go_enter Tryz.func5, Tryz.ntmps5
  have C0 := HT0.b0.cell
  go_wp2_with fail
  refine HL.out.mono ?_
  rintro e w1 ⟨⟨b, rfl, hsm⟩, hb1⟩
  have HT1 := HT0.mono hb1
  have C1 := HT1.b0.cell
  clear C0
  cases b with
  | true =>
    clear hsm
    go_wp2_with fail
    refine (alive07_c _ (hE.mono HT1.bel) (hsg.mono HT1.bel)).mono ?_
    rintro e w2 ⟨rfl, hb2⟩
    go_wp2_with fail
    go_ret
    exact ⟨rfl, (HT1.mono hb2).bel⟩
  | false =>
    have HND := Lib.hid (hsm rfl)
    clear hsm
    go_wp2_with fail
    refine (tokLarge_c LA A ca w1 HT1.ra).mono ?_
    rintro e w2 ⟨⟨b, rfl, hsm⟩, hb2⟩
    have HT2 := HT1.mono hb2
    have C2 := HT2.b0.cell
    clear C1
    cases b with
    | true =>
      clear hsm
      go_wp2_with fail
      refine (alive07_c _ (hE.mono HT2.bel) (hsg.mono HT2.bel)).mono ?_
      rintro e w3 ⟨rfl, hb3⟩
      go_wp2_with fail
      go_ret
      exact ⟨rfl, (HT2.mono hb3).bel⟩
    | false =>
      have hla := hsm rfl
      clear hsm
      go_wp2_with fail
      refine (tokLarge_c LB B cb w2 HT2.rb).mono ?_
      rintro e w3 ⟨⟨b, rfl, hsm⟩, hb3⟩
      have HT3 := HT2.mono hb3
      have C3 := HT3.b0.cell
      clear C2
      cases b with
      | true =>
        clear hsm
        go_wp2_with fail
        refine (alive07_c _ (hE.mono HT3.bel) (hsg.mono HT3.bel)).mono ?_
        rintro e w4 ⟨rfl, hb4⟩
        go_wp2_with fail
        go_ret
        exact ⟨rfl, (HT3.mono hb4).bel⟩
      | false =>
        have hlb := hsm rfl
        clear hsm
        go_wp2_with fail
        refine (copy_c x K c w3 hm HT3.r0 (by have := HND.out; omega)).mono ?_
        rintro e w4 ⟨⟨K2, c2, rfl, hf⟩, hb4⟩
        have hT4 := HT3.mono hb4
        have hr4 : kEx.Row w4 K2 x.kids := (row_of_foot hf).2.2
        have C4 := hT4.b0.cell
        clear C3 hf
        cases hmay : mayB x 1 with
        | true =>
          have HM := Lib.hid hmay
          have hl5 := tellP_len x 1 hmay
          have hl9 : (tellP x).length ≤ 10000 := by have := HND.out; omega
          clear hmay hl5
          go_wp2_with fail
          refine (tells_yes x K2 c2 w4 hm hr4 (hsg.mono hT4.bel) HM.out (by omega)).mono ?_
          rintro e w5 ⟨⟨A5, c5, rfl, hr5⟩, hb5⟩
          have hT5 := hT4.mono hb5
          have C5 := hT5.b0.cell
          clear C4
          have hpos := tellP_pos HM.out
          have hna5 : A5 = none → c5 = 0 := fun h => by
            obtain ⟨b, o, e, _⟩ := kTok_at hr5 0 hpos
            rw [h] at e
            cases e
          have HNA5 := Lib.hid hna5
          clear hna5
          go_upto_region 5 with (fail)
          go_upto_region 6 with (first
            | (at_builtin; refine wpList_append_rowT rfl _ _ rfl w5.heap.size (.slice none 0 0) [] LA rfl (World.ownsRow_nil ..) A ca rfl HNA.out hT5.ra (by simp; omega) (Nat.le_refl _) ?_; intro v6 w6 hown6 hgrow6; have hown6' : w6.ownsRow w5.heap.size 50 4 v6 LA.length (cellsOf LA) := hown6; have hb6 := (Below.refl w5.heap.size w5).grown hgrow6 (Nat.le_refl _) (fun q hq => by simp [Value.ownBlock] at hq); have hT6 := hT5.mono hb6; clear hown6; obtain ⟨a6, c6, rfl⟩ := own_shape hown6')
            | (at_builtin; refine wpList_append_rowT rfl _ _ rfl w5.heap.size _ LA (tellP x) rfl hown6' A5 c5 rfl HNA5.out (hr5.mono hb6) (by omega) hb6.size ?_; intro v7 w7 hown7 hgrow7; have hb7 := hb6.grown hgrow7 hb6.size (own_from hown6'); have hT7 := hT5.mono hb7; have C7 := hT7.b0.cell; clear C5; obtain ⟨a7, c7, rfl⟩ := own_shape hown7)
            | fail)
          simp only [List.length_append] at hown7 ⊢
          have hz7 := hb7.size
          by_cases hk : x.k = 2
          · go_upto_region 8 with (first
              | (at_builtin; refine wpList_append_tok rfl _ _ rfl w5.heap.size _ (LA.length + (tellP x).length) (cellsOf (LA ++ tellP x)) rfl (hown7.alloc _) w7.heap.size _ _ _ _ ⟨rfl, rfl, rfl, rfl⟩ rfl (Bk.new _ _ _) (by omega) (by simp; omega) ?_; intro v8 w8 hown8 hgrow8)
              | fail)
            clear hk
            obtain ⟨XS, hXS⟩ : ∃ XS, XS = LA ++ tellP x ++ [(⟨5, [], 0, 0⟩ : STok)] := ⟨_, rfl⟩
            have hown9 : w8.ownsRow w5.heap.size 50 4 v8 XS.length (cellsOf XS) := by
              rw [hXS, cellsOf_snoc]
              simpa [tokCells, Nat.add_assoc] using hown8
            obtain ⟨a8, c8, rfl⟩ := own_shape hown9
            have hb8 := (hb7.alloc hb7.size (.cells #[.int .u8 5, .string ⟨#[]⟩, .int .u64 0, .int .i64 0] 50)).grown hgrow8 (by simp; omega) (own_from hown7)
            have hT8 := hT5.mono hb8
            have HXL := Lib.hid (show XS.length ≤ 100000 by rw [hXS]; simp; omega)
            have hp8 : Below w5.heap.size w5 w8 → True := fun _ => trivial
            go_upto_region 9 with (first
              | (at_builtin; refine wpList_append_rowT rfl _ _ rfl w5.heap.size _ XS LB rfl hown9 B cb rfl HNB.out hT8.rb (by have := HXL.out; omega) hb8.size ?_; intro v9 w9 hown10 hgrow9)
              | fail)
            have hb9 := hb8.grown hgrow9 hb8.size (own_from hown9)
            have hT9 := hT5.mono hb9
            obtain ⟨a9, c9, rfl, hr9⟩ := own_row hown10 rfl
            obtain ⟨ALL, hALL⟩ : ∃ ALL, ALL = XS ++ LB := ⟨_, rfl⟩
            rw [← hALL] at hr9 ⊢
            have hAL : ALL.length ≤ 1000000 := by rw [hALL, List.length_append]; have := HXL.out; omega
            have hrt : Rd.expr ALL 40 ⟨(LA.length : Int), none⟩ = (x, ⟨((LA.length + (tellP x).length : Nat) : Int), none⟩) := by
              refine read_tell x 1 40 ALL LA.length ([(⟨5, [], 0, 0⟩ : STok)] ++ LB) HM.out rfl (by rw [hALL, hXS]; simp) (fun _ => ?_)
              intro t R e hh
              injection e with e1 _
              subst e1
              exact absurd hh.1 (by decide)
            have HR0 := Lib.hid (read_c ALL a9 c9 LA.length w9 hr9 (by omega) (hsg.mono hT9.bel))
            rw [hrt] at HR0
            have C9 := hT9.b0.cell
            clear hrt hALL hown10 hown9 C7
            go_wp2_with fail
            refine HR0.out.mono ?_
            rintro e w10 ⟨⟨K10, k10, rfl, hf10⟩, hb10⟩
            have hT10 := hT9.mono hb10
            have hal0 := (Below.refl w10.heap.size w10).alloc (Nat.le_refl _) (.cells (exL x K10 k10).toArray 40)
            have BY0 := Bk.new w10 (exL x K10 k10).toArray 40
            have hrY0 := (row_of_foot hf10).2.2.mono hal0
            have hT11 := hT10.mono hal0
            clear C9
            go_upto_region 10 with (fail)
            obtain ⟨W0, hW0⟩ : ∃ W, W = w10.alloc (.cells (exL x K10 k10).toArray 40) := ⟨_, rfl⟩
            obtain ⟨n0, hn0⟩ : ∃ n0, n0 = w10.heap.size := ⟨_, rfl⟩
            rw [← hW0] at hrY0 hT11
            rw [← hW0, ← hn0] at BY0
            rw [← hW0, ← hn0]
            clear hW0 hn0 hal0 hf10
            have CY0 := BY0.cell
            have CX0 := hT11.b0.cell
            go_wp2_with fail
            refine (sameEx_c x K10 K k10 c W0 ((namesOk_iff x).1 HOK.out).2.1.1 hrY0 hT11.r0 ((namesOk_iff x).1 HOK.out).2.2).mono ?_
            rintro e w15 ⟨rfl, hb12⟩
            have hT15 := hT11.mono hb12
            have C15 := hT15.b0.cell
            clear CY0 CX0
            go_upto_region 14 with (fail)
            have HR := Lib.hid (read_c LB B cb p w15 hT15.rb (by omega) (hsg.mono hT15.bel))
            have hta := tell_read_at (L := LB) (a := p)
            generalize Rd.expr LB 40 ⟨p, none⟩ = r at HR hta
            obtain ⟨y, q, er⟩ := r
            go_wp2_with fail
            refine HR.out.mono ?_
            rintro e w16 ⟨hrd, hb16⟩
            have hT16 := hT15.mono hb16
            clear C15
            cases er with
            | some er =>
              obtain ⟨xa, xc⟩ := er
              obtain rfl := hrd
              clear hta
              go_wp2_with fail
              refine (alive07_c _ (hE.mono (hT16.bel.alloc hT16.bel.size _)) (hsg.mono (hT16.bel.alloc hT16.bel.size _))).mono ?_
              rintro e w17 ⟨rfl, hb17⟩
              go_wp2_with fail
              go_ret
              exact ⟨rfl, bt (hT16.bel.alloc hT16.bel.size _) hb17⟩
            | none =>
              obtain ⟨K16, k16, rfl, hf16⟩ := hrd
              obtain ⟨pn, qn, hp, hq, hlt, hle, hmy, hbr⟩ := hta rfl
              obtain rfl := hp
              obtain rfl : q = (qn : Int) := by injection hq
              have hal := (Below.refl w16.heap.size w16).alloc (Nat.le_refl _) (.cells (exL y K16 k16).toArray 40)
              have BY := Bk.new w16 (exL y K16 k16).toArray 40
              have hrY := (row_of_foot hf16).2.2.mono hal
              have hmY := (row_of_foot hf16).1
              have hT17 := hT16.mono hal
              have hlt5 : (tellP y).length ≤ 2000 := by
                rw [← hbr, List.length_map, List.length_take, List.length_drop]; omega
              have hBE := bareEq_read hbr
              have hlen : ((LB.drop pn).take (qn - pn)).length = qn - pn := by rw [List.length_take, List.length_drop]; omega
              have HBE := Lib.hid hBE
              have HMY := Lib.hid hmy
              clear hBE hmy hbr hta HR hq
              obtain ⟨lb, lo, rfl, -⟩ := kTok_at hT17.rb pn (by omega)
              have hrp := row_part hT17.rb pn (qn - pn)
              have HLEN := Lib.hid hlen
              clear hlen
              go_upto_region 17 with (fail)
              obtain ⟨W, hW⟩ : ∃ W, W = w16.alloc (.cells (exL y K16 k16).toArray 40) := ⟨_, rfl⟩
              obtain ⟨n1, hn1⟩ : ∃ n1, n1 = w16.heap.size := ⟨_, rfl⟩
              rw [← hW] at hrY hT17 hrp
              rw [← hW, ← hn1] at BY
              rw [← hW, ← hn1]
              clear hW hn1 hal hf16
              have CY := BY.cell
              have j0 : (0 : Int) ≤ (pn : Int) := by omega
              have j1 : (pn : Int) < (qn : Int) := by omega
              have j2 : (qn : Int) ≤ (LB.length : Int) := by omega
              have j3 : (qn : Int) ≤ (cb : Int) := by omega
              go_wp2_with fail
              refine (tells_yes y K16 k16 W hmY hrY (hsg.mono hT17.bel) HMY.out (by omega)).mono ?_
              rintro e w18 ⟨⟨A18, c18, rfl, hr18⟩, hb18⟩
              have hT18 := hT17.mono hb18
              have hrp18 := hrp.mono hb18
              clear CY
              go_wp2_with fail
              have HB := bareLaw_c ((LB.drop pn).take (qn - pn)) (some ⟨lb, lo + pn * 4, none⟩) (cb - pn) w18 hrp18 (by rw [HLEN.out]; omega)
              have hbl := HBE.out.length
              rw [List.length_map, HLEN.out] at hbl; rw [HLEN.out] at HB
              refine HB.mono ?_
              rintro e w19 ⟨⟨v19, rfl, ho19⟩, hb19⟩
              have ho19' : w19.ownsRow w18.heap.size 50 4 v19 (((LB.drop pn).take (qn - pn)).map bareA).length (cellsOf (((LB.drop pn).take (qn - pn)).map bareA)) := by rw [List.length_map, HLEN.out]; exact ho19
              obtain ⟨a19, c19, rfl, hr19⟩ := own_row ho19' rfl
              have hT19 := hT18.mono hb19
              have HC := Lib.hid (bare_c (tellP y) (((LB.drop pn).take (qn - pn)).map bareA) A18 a19 c18 c19 w19 HBE.out (hr18.mono hb19) hr19 (by omega))
              obtain ⟨m19, hm19⟩ : ∃ m19, m19 = (((LB.drop pn).take (qn - pn)).map bareA).length := ⟨_, rfl⟩
              rw [← hm19] at HC ⊢
              clear HB hbl ho19 ho19' hm19 hr19
              go_wp2_with fail
              refine HC.out.mono ?_
              rintro e w20 ⟨rfl, hb20⟩
              have hT20 := hT19.mono hb20
              go_wp2_with fail
              refine (alive07_c _ (hE.mono hT20.bel) (hsg.mono hT20.bel)).mono ?_
              rintro e w21 ⟨rfl, hb21⟩
              go_wp2_with fail
              go_ret
              exact ⟨rfl, (hT20.mono hb21).bel⟩
          · go_upto_region 8 with (fail)
            obtain ⟨XS, hXS⟩ : ∃ XS, XS = LA ++ tellP x := ⟨_, rfl⟩
            have hl7 : LA.length + (tellP x).length = XS.length := by rw [hXS]; simp
            have hown9 := hown7
            rw [← hXS, hl7] at hown9
            rw [hl7]
            clear hl7
            have hb8 := hb7
            have hT8 := hT7
            have HXL := Lib.hid (show XS.length ≤ 100000 by rw [hXS]; simp; omega)
            have hp8 : Below w5.heap.size w5 w7 → True := fun _ => trivial
            go_upto_region 9 with (first
              | (at_builtin; refine wpList_append_rowT rfl _ _ rfl w5.heap.size _ XS LB rfl hown9 B cb rfl HNB.out hT8.rb (by have := HXL.out; omega) hb8.size ?_; intro v9 w9 hown10 hgrow9)
              | fail)
            have hb9 := hb8.grown hgrow9 hb8.size (own_from hown9)
            have hT9 := hT5.mono hb9
            obtain ⟨a9, c9, rfl, hr9⟩ := own_row hown10 rfl
            obtain ⟨ALL, hALL⟩ : ∃ ALL, ALL = XS ++ LB := ⟨_, rfl⟩
            rw [← hALL] at hr9 ⊢
            have hAL : ALL.length ≤ 1000000 := by rw [hALL, List.length_append]; have := HXL.out; omega
            have hrt : Rd.expr ALL 40 ⟨(LA.length : Int), none⟩ = (x, ⟨((LA.length + (tellP x).length : Nat) : Int), none⟩) := by
              refine read_tell x 1 40 ALL LA.length LB HM.out rfl (by rw [hALL, hXS]; simp) (fun h => absurd h hk)
            have HR0 := Lib.hid (read_c ALL a9 c9 LA.length w9 hr9 (by omega) (hsg.mono hT9.bel))
            rw [hrt] at HR0
            have C9 := hT9.b0.cell
            clear hrt hALL hown10 hown9 C7
            go_wp2_with fail
            refine HR0.out.mono ?_
            rintro e w10 ⟨⟨K10, k10, rfl, hf10⟩, hb10⟩
            have hT10 := hT9.mono hb10
            have hal0 := (Below.refl w10.heap.size w10).alloc (Nat.le_refl _) (.cells (exL x K10 k10).toArray 40)
            have BY0 := Bk.new w10 (exL x K10 k10).toArray 40
            have hrY0 := (row_of_foot hf10).2.2.mono hal0
            have hT11 := hT10.mono hal0
            clear C9
            go_upto_region 10 with (fail)
            obtain ⟨W0, hW0⟩ : ∃ W, W = w10.alloc (.cells (exL x K10 k10).toArray 40) := ⟨_, rfl⟩
            obtain ⟨n0, hn0⟩ : ∃ n0, n0 = w10.heap.size := ⟨_, rfl⟩
            rw [← hW0] at hrY0 hT11
            rw [← hW0, ← hn0] at BY0
            rw [← hW0, ← hn0]
            clear hW0 hn0 hal0 hf10
            have CY0 := BY0.cell
            have CX0 := hT11.b0.cell
            go_wp2_with fail
            refine (sameEx_c x K10 K k10 c W0 ((namesOk_iff x).1 HOK.out).2.1.1 hrY0 hT11.r0 ((namesOk_iff x).1 HOK.out).2.2).mono ?_
            rintro e w15 ⟨rfl, hb12⟩
            have hT15 := hT11.mono hb12
            have C15 := hT15.b0.cell
            clear CY0 CX0
            go_upto_region 14 with (fail)
            have HR := Lib.hid (read_c LB B cb p w15 hT15.rb (by omega) (hsg.mono hT15.bel))
            have hta := tell_read_at (L := LB) (a := p)
            generalize Rd.expr LB 40 ⟨p, none⟩ = r at HR hta
            obtain ⟨y, q, er⟩ := r
            go_wp2_with fail
            refine HR.out.mono ?_
            rintro e w16 ⟨hrd, hb16⟩
            have hT16 := hT15.mono hb16
            clear C15
            cases er with
            | some er =>
              obtain ⟨xa, xc⟩ := er
              obtain rfl := hrd
              clear hta
              go_wp2_with fail
              refine (alive07_c _ (hE.mono (hT16.bel.alloc hT16.bel.size _)) (hsg.mono (hT16.bel.alloc hT16.bel.size _))).mono ?_
              rintro e w17 ⟨rfl, hb17⟩
              go_wp2_with fail
              go_ret
              exact ⟨rfl, bt (hT16.bel.alloc hT16.bel.size _) hb17⟩
            | none =>
              obtain ⟨K16, k16, rfl, hf16⟩ := hrd
              obtain ⟨pn, qn, hp, hq, hlt, hle, hmy, hbr⟩ := hta rfl
              obtain rfl := hp
              obtain rfl : q = (qn : Int) := by injection hq
              have hal := (Below.refl w16.heap.size w16).alloc (Nat.le_refl _) (.cells (exL y K16 k16).toArray 40)
              have BY := Bk.new w16 (exL y K16 k16).toArray 40
              have hrY := (row_of_foot hf16).2.2.mono hal
              have hmY := (row_of_foot hf16).1
              have hT17 := hT16.mono hal
              have hlt5 : (tellP y).length ≤ 2000 := by
                rw [← hbr, List.length_map, List.length_take, List.length_drop]; omega
              have hBE := bareEq_read hbr
              have hlen : ((LB.drop pn).take (qn - pn)).length = qn - pn := by rw [List.length_take, List.length_drop]; omega
              have HBE := Lib.hid hBE
              have HMY := Lib.hid hmy
              clear hBE hmy hbr hta HR hq
              obtain ⟨lb, lo, rfl, -⟩ := kTok_at hT17.rb pn (by omega)
              have hrp := row_part hT17.rb pn (qn - pn)
              have HLEN := Lib.hid hlen
              clear hlen
              go_upto_region 17 with (fail)
              obtain ⟨W, hW⟩ : ∃ W, W = w16.alloc (.cells (exL y K16 k16).toArray 40) := ⟨_, rfl⟩
              obtain ⟨n1, hn1⟩ : ∃ n1, n1 = w16.heap.size := ⟨_, rfl⟩
              rw [← hW] at hrY hT17 hrp
              rw [← hW, ← hn1] at BY
              rw [← hW, ← hn1]
              clear hW hn1 hal hf16
              have CY := BY.cell
              have j0 : (0 : Int) ≤ (pn : Int) := by omega
              have j1 : (pn : Int) < (qn : Int) := by omega
              have j2 : (qn : Int) ≤ (LB.length : Int) := by omega
              have j3 : (qn : Int) ≤ (cb : Int) := by omega
              go_wp2_with fail
              refine (tells_yes y K16 k16 W hmY hrY (hsg.mono hT17.bel) HMY.out (by omega)).mono ?_
              rintro e w18 ⟨⟨A18, c18, rfl, hr18⟩, hb18⟩
              have hT18 := hT17.mono hb18
              have hrp18 := hrp.mono hb18
              clear CY
              go_wp2_with fail
              have HB := bareLaw_c ((LB.drop pn).take (qn - pn)) (some ⟨lb, lo + pn * 4, none⟩) (cb - pn) w18 hrp18 (by rw [HLEN.out]; omega)
              have hbl := HBE.out.length
              rw [List.length_map, HLEN.out] at hbl; rw [HLEN.out] at HB
              refine HB.mono ?_
              rintro e w19 ⟨⟨v19, rfl, ho19⟩, hb19⟩
              have ho19' : w19.ownsRow w18.heap.size 50 4 v19 (((LB.drop pn).take (qn - pn)).map bareA).length (cellsOf (((LB.drop pn).take (qn - pn)).map bareA)) := by rw [List.length_map, HLEN.out]; exact ho19
              obtain ⟨a19, c19, rfl, hr19⟩ := own_row ho19' rfl
              have hT19 := hT18.mono hb19
              have HC := Lib.hid (bare_c (tellP y) (((LB.drop pn).take (qn - pn)).map bareA) A18 a19 c18 c19 w19 HBE.out (hr18.mono hb19) hr19 (by omega))
              obtain ⟨m19, hm19⟩ : ∃ m19, m19 = (((LB.drop pn).take (qn - pn)).map bareA).length := ⟨_, rfl⟩
              rw [← hm19] at HC ⊢
              clear HB hbl ho19 ho19' hm19 hr19
              go_wp2_with fail
              refine HC.out.mono ?_
              rintro e w20 ⟨rfl, hb20⟩
              have hT20 := hT19.mono hb20
              go_wp2_with fail
              refine (alive07_c _ (hE.mono hT20.bel) (hsg.mono hT20.bel)).mono ?_
              rintro e w21 ⟨rfl, hb21⟩
              go_wp2_with fail
              go_ret
              exact ⟨rfl, (hT20.mono hb21).bel⟩
        | false =>
          have HM := Lib.hid hmay
          clear hmay
          go_wp2_with fail
          refine (tells_no x K2 c2 w4 hm hr4 HM.out).mono ?_
          rintro e w5 ⟨rfl, hb5⟩
          have hT5 := hT4.mono hb5
          have C5 := hT5.b0.cell
          clear C4
          go_upto_region 14 with (fail)
          have HR := Lib.hid (read_c LB B cb p w5 hT5.rb (by omega) (hsg.mono hT5.bel))
          have hta := tell_read_at (L := LB) (a := p)
          generalize Rd.expr LB 40 ⟨p, none⟩ = r at HR hta
          obtain ⟨y, q, er⟩ := r
          go_wp2_with fail
          refine HR.out.mono ?_
          rintro e w6 ⟨hrd, hb6⟩
          have hT6 := hT5.mono hb6
          clear C5
          cases er with
          | some er =>
            obtain ⟨xa, xc⟩ := er
            obtain rfl := hrd
            clear hta
            go_wp2_with fail
            refine (alive07_c _ (hE.mono (hT6.bel.alloc hT6.bel.size _)) (hsg.mono (hT6.bel.alloc hT6.bel.size _))).mono ?_
            rintro e w7 ⟨rfl, hb7⟩
            go_wp2_with fail
            go_ret
            exact ⟨rfl, bt (hT6.bel.alloc hT6.bel.size _) hb7⟩
          | none =>
            obtain ⟨K6, k6, rfl, hf6⟩ := hrd
            obtain ⟨pn, qn, hp, hq, hlt, hle, hmy, hbr⟩ := hta rfl
            obtain rfl := hp
            obtain rfl : q = (qn : Int) := by injection hq
            have hal := (Below.refl w6.heap.size w6).alloc (Nat.le_refl _) (.cells (exL y K6 k6).toArray 40)
            have BY := Bk.new w6 (exL y K6 k6).toArray 40
            have hrY := (row_of_foot hf6).2.2.mono hal
            have hmY := (row_of_foot hf6).1
            have hT7 := hT6.mono hal
            have hlt5 : (tellP y).length ≤ 2000 := by
              rw [← hbr, List.length_map, List.length_take, List.length_drop]; omega
            have hBE := bareEq_read hbr
            have hlen : ((LB.drop pn).take (qn - pn)).length = qn - pn := by rw [List.length_take, List.length_drop]; omega
            have HBE := Lib.hid hBE
            have HMY := Lib.hid hmy
            clear hBE hmy hbr hta HR hq
            obtain ⟨lb, lo, rfl, -⟩ := kTok_at hT7.rb pn (by omega)
            have hrp := row_part hT7.rb pn (qn - pn)
            have HLEN := Lib.hid hlen
            clear hlen
            go_upto_region 17 with (fail)
            obtain ⟨W, hW⟩ : ∃ W, W = w6.alloc (.cells (exL y K6 k6).toArray 40) := ⟨_, rfl⟩
            obtain ⟨n1, hn1⟩ : ∃ n1, n1 = w6.heap.size := ⟨_, rfl⟩
            rw [← hW] at hrY hT7 hrp
            rw [← hW, ← hn1] at BY
            rw [← hW, ← hn1]
            clear hW hn1 hal hf6
            have CY := BY.cell
            have j0 : (0 : Int) ≤ (pn : Int) := by omega
            have j1 : (pn : Int) < (qn : Int) := by omega
            have j2 : (qn : Int) ≤ (LB.length : Int) := by omega
            have j3 : (qn : Int) ≤ (cb : Int) := by omega
            go_wp2_with fail
            refine (tells_yes y K6 k6 W hmY hrY (hsg.mono hT7.bel) HMY.out (by omega)).mono ?_
            rintro e w8 ⟨⟨A8, c8, rfl, hr8⟩, hb8⟩
            have hT8 := hT7.mono hb8
            have hrp8 := hrp.mono hb8
            clear CY
            go_wp2_with fail
            have HB := bareLaw_c ((LB.drop pn).take (qn - pn)) (some ⟨lb, lo + pn * 4, none⟩) (cb - pn) w8 hrp8 (by rw [HLEN.out]; omega)
            have hbl := HBE.out.length
            rw [List.length_map, HLEN.out] at hbl; rw [HLEN.out] at HB
            refine HB.mono ?_
            rintro e w9 ⟨⟨v9, rfl, ho9⟩, hb9⟩
            have ho9' : w9.ownsRow w8.heap.size 50 4 v9 (((LB.drop pn).take (qn - pn)).map bareA).length (cellsOf (((LB.drop pn).take (qn - pn)).map bareA)) := by rw [List.length_map, HLEN.out]; exact ho9
            obtain ⟨a9, c9, rfl, hr9⟩ := own_row ho9' rfl
            have hT9 := hT8.mono hb9
            have HC := Lib.hid (bare_c (tellP y) (((LB.drop pn).take (qn - pn)).map bareA) A8 a9 c8 c9 w9 HBE.out (hr8.mono hb9) hr9 (by omega))
            obtain ⟨m9, hm9⟩ : ∃ m9, m9 = (((LB.drop pn).take (qn - pn)).map bareA).length := ⟨_, rfl⟩
            rw [← hm9] at HC ⊢
            clear HB hbl ho9 ho9' hm9 hr9
            go_wp2_with fail
            refine HC.out.mono ?_
            rintro e w10 ⟨rfl, hb10⟩
            have hT10 := hT9.mono hb10
            go_wp2_with fail
            refine (alive07_c _ (hE.mono hT10.bel) (hsg.mono hT10.bel)).mono ?_
            rintro e w11 ⟨rfl, hb11⟩
            go_wp2_with fail
            go_ret
            exact ⟨rfl, (hT10.mono hb11).bel⟩
end Go.Proofs.YtkflcmengddijaaGreatDoor

namespace Go.Proofs.YtkflcmengddijaaGreatDoor
open Go.ChangeShapes Go.WideShapes Go.ChangeAt Go.RowKit Lx
set_option linter.unusedVariables false
set_option linter.unusedSimpArgs false

theorem slice_cap {P : Program} {t e : TypeId} (ht : P.underlying t = some (.slice e)) {H : Type} {enc : TypeId × Value → H} {w : World} {sp : Nat → Bool} {fuel : Nat} {A : Option Addr} {n c : Nat} {x : DataW H × List MemPlace}
    (h : DataW.trod enc P w 0 sp true fuel t [.slice A n c] = some x) : n ≤ c := by
  rcases DataW.trod_slice ht h with ⟨e1, rfl⟩ | ⟨a, len, cap, elems, rest, m, hfn, e1, rfl, _, hl, hc, hel, hat, _, _⟩
  · injection e1 with e1
    injection e1 with _ h2 h3
    omega
  · injection e1 with e1
    injection e1 with _ h2 h3
    omega
theorem cTok : Tryz.prog.cellsOf 50 = 4 := by kernel_rfl
theorem cInt : Tryz.prog.cellsOf 3 = 1 := by kernel_rfl
set_option maxRecDepth 100000 in
theorem opens_tok (m : Nat) : OpensF Tryz.prog 50 kTok (fun _ => True) m := by
  intro H enc w sp fuel cs x hf h hw
  obtain ⟨hl, n, hfn, hfs⟩ := open_structF Tryz.underlying50 h hw
  rw [cTok] at hl
  obtain ⟨c0, c1, c2, c3, rfl⟩ : ∃ c0 c1 c2 c3, cs = [c0, c1, c2, c3] := by
    match cs, hl with
    | [a, b, c, d], _ => exact ⟨a, b, c, d, rfl⟩
  obtain ⟨y0, h0, w0⟩ := fld hfs 0 _ rfl 5 0 1 rfl rfl cU8
  obtain ⟨y1, h1, w1⟩ := fld hfs 1 _ rfl 9 1 1 rfl rfl cStr
  obtain ⟨y2, h2, w2⟩ := fld hfs 2 _ rfl 37 2 1 rfl rfl cU64
  obtain ⟨y3, h3, w3⟩ := fld hfs 3 _ rfl 3 3 1 rfl rfl cInt
  obtain ⟨k, hk, _, _⟩ := DataW.trod_int Tryz.underlying5 h0
  obtain ⟨s, hs, hsx, _⟩ := DataW.trod_string Tryz.underlying9 h1
  obtain ⟨num, hnum, _, _⟩ := DataW.trod_int Tryz.underlying37 h2
  obtain ⟨o, ho, _, _⟩ := DataW.trod_int Tryz.underlying3 h3
  simp only [List.drop_zero, List.drop_succ_cons, List.take_succ_cons, List.take_zero, List.cons.injEq, and_true] at hk hnum hs ho
  subst hk hnum hs ho
  exact ⟨⟨k, s.data.toList, num, o⟩, rfl, trivial⟩
set_option maxRecDepth 100000 in
/-- A row of tokens that comes in. -/
theorem open_toks {H : Type} {enc : TypeId × Value → H} {w : World} {sp : Nat → Bool} {fuel : Nat} {cs : List Value} {x : DataW H × List MemPlace}
    (h : DataW.trod enc Tryz.prog w 0 sp true fuel 23 cs = some x) (hw : ∀ n ∈ x.1.weights Tryz.prog 23, n ≤ reachBytes) :
    ∃ (L : List STok) (A : Option Addr) (cap : Nat), cs = [.slice A L.length cap] ∧ (A = none → cap = 0) ∧ L.length ≤ cap ∧ kTok.Row w A L := by
  obtain ⟨L, A, cap, rfl, h1, _, h3, _, _⟩ := opensF_slice (k := kTok) (m := fuel) (by decide) (opens_tok fuel) Tryz.underlying23 cTok enc w sp fuel cs x (by omega) h hw
  exact ⟨L, A, cap, rfl, h1, slice_cap Tryz.underlying23 h, h3⟩
end Go.Proofs.YtkflcmengddijaaGreatDoor

namespace Go.Proofs.YtkflcmengddijaaGreatDoor.exprBack
open Go.ChangeShapes Go.WideShapes Go.ChangeAt Go.RowKit
set_option linter.unusedVariables false

set_option maxRecDepth 100000 in
theorem agg_of_cells {W : World} {base : Nat} {v : Value} {l : List Value} (h : Value.okWide Tryz.prog W .any base 40 v) (hc : v.cells.toList = l) : v = .agg l.toArray := by
  obtain ⟨cs, rfl, _⟩ := okWide_struct Tryz.underlying40 h
  have : cs.toList = l := by simpa [Value.cells] using hc
  rw [← this]
set_option maxRecDepth 100000 in
theorem contract (H : Type) (enc : TypeId × Value → H) (W : World) (base : Nat) (args : Array Value) (ds gs : List (DataW H)) (before : List MemPlace)
    (hval0 : ∀ (j : Nat) t v, Tryz.f5.params[j]? = some t → args[j]? = some v → Value.okWide Tryz.prog W .any base t v)
    (hW : DataW.Whole enc Tryz.prog Tryz.f5.params.toList Rows.exprBackSpec.vars false W args.toList ds gs before) (hsz0 : (DataW.weightsEach Tryz.prog (Tryz.f5.params.toList ++ Rows.exprBackSpec.plain.varTypes Tryz.prog) (ds ++ gs)).all (· ≤ reachBytes) = true) (hL : laidMetH Tryz.prog Rows.exprBackRow.laid W) :
    Calls Tryz.prog 5 args W fun e W' => ∃ v, e = .returned v ∧ Rows.exprBackSpec.post enc Tryz.prog Tryz.f5 false true false false W args v W' := by
  obtain ⟨hE, hsg⟩ := env9_of_laid hL
  have hval : ∀ (j : Nat) t v, Tryz.f5.params[j]? = some t → args[j]? = some v → Value.okWide Tryz.prog W .any base t v := hval0
  have hsz : (DataW.weightsEach Tryz.prog (Tryz.f5.params.toList ++ Rows.exprBackSpec.plain.varTypes Tryz.prog) (ds ++ gs)).all (· ≤ reachBytes) = true := hsz0
  have hW' := hW
  obtain ⟨p, q, hA0, hV, rfl, hfz, hnd⟩ := hW
  have hA : DataW.TrodAll enc Tryz.prog W 0 (fun _ => true) true Tryz.f5.params.toList args.toList ds p := hA0
  rw [Tryz.params5] at hA hval hsz
  have hAll := hA
  obtain ⟨v0, vs0, d0, ds0, p0, q0, hargs, rfl, rfl, h0, r0⟩ := trodAll_cons hA
  obtain ⟨v1, vs1, d1, ds1, p1, q1, rfl, rfl, rfl, h1, r1⟩ := trodAll_cons r0
  obtain ⟨v2, vs2, d2, ds2, p2, q2, rfl, rfl, rfl, h2, r2⟩ := trodAll_cons r1
  obtain ⟨v3, vs3, d3, ds3, p3, q3, rfl, rfl, rfl, h3, r3⟩ := trodAll_cons r2
  obtain ⟨rfl, rfl, rfl⟩ := trodAll_nil r3
  obtain rfl : args = #[v0, v1, v2, v3] := by cases args; simp_all
  obtain ⟨rfl, rfl⟩ := trodVars_none hV
  have hw0 : ∀ n ∈ d0.weights Tryz.prog 40, n ≤ reachBytes := fun n hn => by
    have := List.all_eq_true.1 hsz n (DataW.weights_mem_each (j := 0) rfl rfl n hn)
    simpa using this
  obtain ⟨fuel, hf⟩ := h0
  obtain ⟨x, hK, hq⟩ := @opens_ex fuel H enc W _ fuel _ _ (Nat.le_refl _) hf hw0
  obtain ⟨A, c, hcells, hm, hn0, hr⟩ := kEx_iff.1 hK
  have hv0 : v0 = .agg #[.int .u8 x.k, .int .u64 x.num, .string x.name, .int .u8 x.op, .slice A x.kids.length c] := agg_of_cells (hval 0 40 v0 rfl rfl) hcells
  subst hv0
  have hw1 : ∀ n ∈ d1.weights Tryz.prog 23, n ≤ reachBytes := fun n hn => by
    have := List.all_eq_true.1 hsz n (DataW.weights_mem_each (j := 1) rfl rfl n hn)
    simpa using this
  obtain ⟨a1, len1, cap1, rfl⟩ := okWide_slice Tryz.underlying23 (hval 1 23 v1 rfl rfl)
  obtain ⟨fuel1, hf1⟩ := h1
  obtain ⟨LA, A1, c1, he1, hn1, hc1, hr1⟩ := open_toks hf1 hw1
  obtain ⟨rfl, rfl, rfl⟩ : a1 = A1 ∧ len1 = LA.length ∧ cap1 = c1 := by simpa [Value.cells] using he1
  have hw2 : ∀ n ∈ d2.weights Tryz.prog 23, n ≤ reachBytes := fun n hn => by
    have := List.all_eq_true.1 hsz n (DataW.weights_mem_each (j := 2) rfl rfl n hn)
    simpa using this
  obtain ⟨a2, len2, cap2, rfl⟩ := okWide_slice Tryz.underlying23 (hval 2 23 v2 rfl rfl)
  obtain ⟨fuel2, hf2⟩ := h2
  obtain ⟨LB, B1, c2, he2, hn2, hc2, hr2⟩ := open_toks hf2 hw2
  obtain ⟨rfl, rfl, rfl⟩ : a2 = B1 ∧ len2 = LB.length ∧ cap2 = c2 := by simpa [Value.cells] using he2
  obtain ⟨pp, rfl, rfl, rfl, _⟩ := Go.ChangeShapes.open_int Tryz.underlying3 (hval 3 3 v3 rfl rfl) h3
  refine (exprBack_c x A c LA LB _ _ _ _ pp W hE hsg hm hn0 hr hq hr1 hr2 hn1 hn2 hc2).mono fun e W' ⟨he, bel⟩ => ?_
  subst he
  have hAll' := trodAll_below laidOut bel (by intro t ht; rcases (by simpa using ht : t = 40 ∨ t = 23 ∨ t = 3) with rfl | rfl | rfl <;> exact ⟨by kernel_rfl, of_decide_eq_true (by kernel_rfl)⟩) hAll
  exact ⟨_, rfl, _, _, _, [], _, [], hW', trodAll_mk1 (shut_bool Tryz.underlying4 _), hAll', rfl, bel.frame _, fun h => by cases h⟩

set_option maxRecDepth 100000 in
theorem lifted (os : Os) (started : os.Started) (H : Type) (enc : TypeId × Value → H) (F : Stop.Interp) :
    ReturnsInHanded {} Tryz.checked os 5 .any ((OpenSpec.ofChange Rows.exprBackSpec).preRow enc Tryz.prog Tryz.f5 Rows.exprBackRow.domain false Rows.exprBackRow.laid) (((OpenSpec.ofChange Rows.exprBackSpec).at F).post enc Tryz.prog Tryz.f5 false true false false) := by
  have hx : ∃ places, DataW.whole enc Tryz.prog ((laidWorld9 os).forCall (fun _ _ => 0) ⟨#[], #[.agg #[.int .u8 0, .int .u64 0, .string ⟨#[]⟩, .int .u8 0, .slice none 0 0], .slice none 0 0, .slice none 0 0, .int .i64 0], []⟩).memory Tryz.f5.params.toList Rows.exprBackSpec.vars false #[Value.agg #[.int .u8 0, .int .u64 0, .string ⟨#[]⟩, .int .u8 0, .slice none 0 0], Value.slice none 0 0, Value.slice none 0 0, Value.int .i64 0].toList 8 = some ([.agg [.lit (.int .u8 0), .lit (.int .u64 0), .lit (.string []), .lit (.int .u8 0), .nil], .nil, .nil, .lit (.int .i64 0)], [], places) := ⟨[], by kernel_rfl⟩
  obtain ⟨places, hx⟩ := hx
  refine returnsInHanded_of_row (C := Tryz.checked) (s := OpenSpec.ofChange Rows.exprBackSpec) own started (by kernel_rfl) Tryz.func5
    (witness_row_atRef (enc := enc) (C := Tryz.checked) false (laidWorld9 os) #[.agg #[.int .u8 0, .int .u64 0, .string ⟨#[]⟩, .int .u8 0, .slice none 0 0], .slice none 0 0, .slice none 0 0, .int .i64 0] rfl (by kernel_rfl) (by kernel_rfl) (by kernel_rfl)
      (OpenSpec.preRow_of_cond 8 hx (by kernel_rfl) (fun k hk => by cases hk) (by kernel_rfl) (laid_met9 os #[.agg #[.int .u8 0, .int .u64 0, .string ⟨#[]⟩, .int .u8 0, .slice none 0 0], .slice none 0 0, .slice none 0 0, .int .i64 0]))) ?_
  intro W base args ds gs before hval hW _ _ hsz hL _ _
  exact contract H enc W base args ds gs before hval hW hsz hL

theorem said : Rows.ExprBackSaid :=
  OpenClaim.holds_of_cond 5 Tryz.f5 rfl rfl rfl rfl rfl rfl rfl ⟨rfl, rfl, rfl, rfl, rfl⟩ rfl rfl rfl rfl rfl (by kernel_rfl) Tryz.func5 (by kernel_rfl)
    (of_decide_eq_true (by kernel_rfl)) (by unfold Func.isWrapper; first | (rw [if_pos (by decide +kernel)]; kernel_rfl) | (rw [if_neg (by decide +kernel)]; exact ⟨rfl, rfl⟩))
    (fun os started H enc _ F => by rw [OpenClaim.pre_eq_preRow]; exact lifted os started H enc F)

theorem plain (f : FuncId) (fn : Func) (hf : Tryz.pinned.checked.prog.funcNamed "sacristy/sacristylaw07.ExprBack" = some f) (hfn : Tryz.pinned.checked.prog.funcs[f]? = some fn) :
    true = Tryz.pinned.checked.prog.looks [] ∧ ∀ (j : Nat) t, fn.params[j]? = some t → Tryz.pinned.checked.prog.wantsStandIn t = false := by
  obtain rfl : f = 5 := Option.some.inj ((show Tryz.prog.funcNamed "sacristy/sacristylaw07.ExprBack" = some 5 by kernel_rfl).symm.trans hf) |>.symm
  obtain rfl : fn = Tryz.f5 := (Option.some.inj (Tryz.func5.symm.trans hfn)).symm
  refine ⟨by kernel_rfl, fun j t ht => ?_⟩
  rw [Tryz.params5] at ht
  rcases (by simpa using Array.mem_of_getElem? ht : t = 40 ∨ t = 23 ∨ t = 3) with rfl | rfl | rfl <;> kernel_rfl

theorem card : Rows.ExprBackCardSaid :=
  Claim7.holds_tied_plain_at .later [] _ _ _ _ said (fun _ h => by cases h) (by kernel_rfl) (fun _ h => by cases h) exprBack_row_tie rfl ⟨rfl, rfl⟩ (by kernel_rfl) rfl plain (by kernel_rfl)
end Go.Proofs.YtkflcmengddijaaGreatDoor.exprBack
namespace Go.Proofs.YtkflcmengddijaaGreatDoor
theorem exprBack_holds : Rows.ExprBackCardSaid := exprBack.card
end Go.Proofs.YtkflcmengddijaaGreatDoor
