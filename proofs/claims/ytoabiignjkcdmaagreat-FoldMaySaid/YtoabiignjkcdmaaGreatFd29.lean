/-
  Lemmas (texts FoldY), each proved without a condition beyond its own hypotheses.
-/
import Derived.Test.YtoabiignjkcdmaaGreatFd25
namespace Go.Proofs.YtoabiignjkcdmaaGreat
open Go.RowKit
set_option linter.unusedVariables false
set_option linter.unusedSimpArgs false

/-! ### What works is kept -/
def wkS (o : SOp) : Bool := worksB o.k
def kfn (o : SOp) : Int × Int := (o.k, o.fn)
/-- What works of a row of steps: its kinds and functions, in order. -/
def wks (l : List SOp) : List (Int × Int) := (l.filter wkS).map kfn
theorem wks_cons (o : SOp) (l : List SOp) : wks (o :: l) = if worksB o.k = true then (o.k, o.fn) :: wks l else wks l := by
  unfold wks
  rw [List.filter_cons]
  show List.map kfn (if worksB o.k = true then _ else _) = _
  split <;> rfl
theorem fold2_works (f : Fx) (o : SOp) : worksB (fold2 f o).k = worksB o.k ∧ (worksB o.k = true → (fold2 f o).k = o.k ∧ (fold2 f o).fn = o.fn) := by
  unfold fold2
  by_cases e2 : o.k = 2
  · rw [if_pos e2]
    have hw : worksB o.k = false := by rw [e2]; rfl
    rw [hw]
    refine ⟨?_, (fun h => by cases h)⟩
    split
    · rfl
    · exact hw
  rw [if_neg e2]
  by_cases e3 : o.k = 3
  · rw [if_pos e3]
    have hw : worksB o.k = false := by rw [e3]; rfl
    rw [hw]
    refine ⟨?_, (fun h => by cases h)⟩
    split
    · rfl
    · exact hw
  rw [if_neg e3]
  exact ⟨rfl, fun _ => ⟨rfl, rfl⟩⟩
theorem foldO_works (f : Fx) (o : SOp) : worksB (foldO f o).k = worksB o.k ∧ (worksB o.k = true → (foldO f o).k = o.k ∧ (foldO f o).fn = o.fn) := fold2_works f (fold1 f o)
theorem forwardL_wks : ∀ (l : List SOp) (f : Fx), wks (forwardL f l).1 = wks l
  | [], f => rfl
  | o :: l, f => by
    obtain ⟨h1, h2⟩ := foldO_works f o
    have ih := forwardL_wks l (foldF f (foldO f o))
    show wks (foldO f o :: (forwardL (foldF f (foldO f o)) l).1) = _
    rw [wks_cons, wks_cons, ih, h1]
    split
    · rename_i hw
      rw [(h2 hw).1, (h2 hw).2]
    · rfl
theorem backL_wks : ∀ (l : List SOp) (w : Want), wks (backL l w).1 = wks l
  | [], w => rfl
  | o :: l, w => by
    have ih := backL_wks l w
    unfold backL
    cases hs : stays (backL l w).2 o with
    | true =>
      rw [if_pos rfl]
      show wks (o :: (backL l w).1) = _
      rw [wks_cons, wks_cons, ih]
    | false =>
      rw [if_neg (by decide)]
      show wks (backL l w).1 = _
      unfold stays at hs
      rw [Bool.or_eq_false_iff] at hs
      rw [wks_cons, hs.1, ih]
      rfl
theorem fold_wks (ins : Int → Want) (b : SBlock) : wks (cutB ins (forwardS b)).ops = wks b.ops := (backL_wks _ _).trans (forwardL_wks _ _)

/-! ### Nothing is left that may not be -/
def setsD (v : Int) (o : SOp) : Bool := setsB o.k && o.d == v
/-- Is a variable's number known behind steps (the last one first)? -/
def knownP : List SOp → Int → Bool
  | [], _ => false
  | o :: l, v => if setsD v o = true then o.k == 1 else knownP l v
def asksB (o : SOp) (v : Int) : Bool := (asksL o).contains v
/-- Is a variable set again, and asked by nothing between? -/
def againP : List SOp → Int → Bool
  | [], _ => false
  | o :: l, v => if asksB o v = true then false else if setsD v o = true then true else againP l v
def idleP (o : SOp) (l : List SOp) : Bool := if worksB o.k = true then false else againP l o.d
/-- May each step be left? pre: the steps ahead, the last one first. -/
def bareP : List SOp → List SOp → Bool
  | _, [] => true
  | pre, o :: l => !((o.k == 3 && knownP pre o.a && knownP pre o.b) || idleP o l) && bareP (o :: pre) l
theorem asksB_iff {o : SOp} {v : Int} : asksB o v = true ↔ v ∈ asksL o := by simp [asksB]
theorem back_again : ∀ (l : List SOp) (w : Want) (d : Int), (backL l w).2 d = true → againP (backL l w).1 d = false
  | [], w, d, _ => rfl
  | o :: l, w, d, h => by
    have ih := back_again l w d
    unfold backL at h ⊢
    cases hs : stays (backL l w).2 o with
    | true =>
      rw [hs, if_pos rfl] at h
      rw [if_pos rfl]
      have h : backW (backL l w).2 o d = true := h
      show againP (o :: (backL l w).1) d = false
      rw [backW_iff] at h
      unfold againP
      by_cases ha : d ∈ asksL o
      · rw [if_pos (asksB_iff.2 ha)]
      · rw [if_neg (fun e => ha (asksB_iff.1 e))]
        rcases h with h | h
        · rw [if_neg]
          · exact ih h.1
          · intro e
            unfold setsD at e
            rw [Bool.and_eq_true, beq_iff_eq] at e
            exact h.2 e.1 e.2.symm
        · exact absurd h ha
    | false =>
      rw [hs, if_neg (by decide)] at h
      rw [if_neg (by decide)]
      exact ih h
/-- What is known of a variable that is wanted is known. -/
def KnowsW (w : Want) (pre : List SOp) (f : Fx) : Prop := ∀ v, w v = true → knownP pre v = true → (f.nums v).isSome = true
theorem foldF_nums {f : Fx} {o : SOp} {v : Int} (h : setsD v o = false) : (foldF f o).nums v = f.nums v := by
  unfold setsD at h
  rw [Bool.and_eq_false_iff] at h
  unfold foldF
  by_cases hs : setsB o.k = false
  · rw [if_pos hs]
  · rw [if_neg hs]
    have hne : v ≠ o.d := by
      rcases h with h | h
      · exact absurd h hs
      · intro e
        rw [e, beq_self_eq_true] at h
        cases h
    have h0 : (f.set o.d).nums v = f.nums v := by
      unfold Fx.set
      simp only
      rw [if_neg hne]
    split
    · show (if v = o.d then some o.imm else (f.set o.d).nums v) = _
      rw [if_neg hne, h0]
    · split
      · split
        · exact h0
        · exact h0
      · exact h0
theorem foldF_const {f : Fx} {o : SOp} (h : o.k = 1) : ((foldF f o).nums o.d).isSome = true := by
  unfold foldF
  rw [if_neg (by rw [h]; decide), if_pos h]
  show (if o.d = o.d then some o.imm else _).isSome = true
  rw [if_pos rfl]; rfl
theorem fold2_k2 {f : Fx} {o : SOp} (h : (fold2 f o).k = 2) : f.nums (fold2 f o).a = none ∧ (fold2 f o).k = 2 := by
  refine ⟨?_, h⟩
  unfold fold2 at h ⊢
  by_cases e2 : o.k = 2
  · rw [if_pos e2] at h ⊢
    cases e : f.nums o.a with
    | none => rw [e] at h; simp only; exact e
    | some x => rw [e] at h; exact absurd h (show ¬ (1 : Int) = 2 by decide)
  · rw [if_neg e2] at h ⊢
    by_cases e3 : o.k = 3
    · rw [if_pos e3] at h ⊢
      cases e : f.nums o.a with
      | none => rw [e] at h; exact absurd (e3.symm.trans h) (by decide)
      | some x =>
        cases e' : f.nums o.b with
        | none => rw [e, e'] at h; exact absurd (e3.symm.trans h) (by decide)
        | some y => rw [e, e'] at h; exact absurd h (show ¬ (1 : Int) = 2 by decide)
    · rw [if_neg e3] at h; exact absurd h e2
theorem fold2_k3 {f : Fx} {o : SOp} (h : (fold2 f o).k = 3) : ¬ ((f.nums (fold2 f o).a).isSome = true ∧ (f.nums (fold2 f o).b).isSome = true) := by
  unfold fold2 at h ⊢
  by_cases e2 : o.k = 2
  · rw [if_pos e2] at h
    cases e : f.nums o.a with
    | none => rw [e] at h; exact absurd (e2.symm.trans h) (by decide)
    | some x => rw [e] at h; exact absurd h (show ¬ (1 : Int) = 3 by decide)
  · rw [if_neg e2] at h ⊢
    by_cases e3 : o.k = 3
    · rw [if_pos e3] at h ⊢
      cases e : f.nums o.a with
      | none => simp only; rw [e]; simp
      | some x =>
        cases e' : f.nums o.b with
        | none => simp only; rw [e']; simp
        | some y => rw [e, e'] at h; exact absurd h (show ¬ (1 : Int) = 3 by decide)
    · rw [if_neg e3] at h; exact absurd h e3
theorem bare_fold (w : Want) : ∀ (l : List SOp) (f : Fx) (pre : List SOp), KnowsW (backL (forwardL f l).1 w).2 pre f → bareP pre (backL (forwardL f l).1 w).1 = true
  | [], f, pre, _ => rfl
  | o0 :: l, f, pre, h => by
    obtain ⟨o, ho⟩ : ∃ o, foldO f o0 = o := ⟨_, rfl⟩
    have e : (forwardL f (o0 :: l)).1 = o :: (forwardL (foldF f o) l).1 := by rw [← ho]; rfl
    rw [e] at h ⊢
    have ih := bare_fold w l (foldF f o)
    have hag := back_again (forwardL (foldF f o) l).1 w
    generalize (forwardL (foldF f o) l).1 = F at h ih hag ⊢
    unfold backL at h ⊢
    cases hs : stays (backL F w).2 o with
    | true =>
      rw [hs, if_pos rfl] at h
      rw [if_pos rfl]
      have h : KnowsW (backW (backL F w).2 o) pre f := h
      show bareP pre (o :: (backL F w).1) = true
      unfold bareP
      rw [Bool.and_eq_true, Bool.not_eq_true', Bool.or_eq_false_iff]
      refine ⟨⟨?_, ?_⟩, ih (o :: pre) fun v hv hk => ?_⟩
      · cases hc : (o.k == 3 && knownP pre o.a && knownP pre o.b) with
        | false => rfl
        | true =>
          exfalso
          rw [Bool.and_eq_true, Bool.and_eq_true, beq_iff_eq] at hc
          obtain ⟨⟨k3, ka⟩, kb⟩ := hc
          have h3 := fold2_k3 (f := f) (o := fold1 f o0) (by show (foldO f o0).k = 3; rw [ho]; exact k3)
          have e' : fold2 f (fold1 f o0) = o := ho
          rw [e'] at h3
          refine h3 ⟨h _ ((backW_iff _ _ _).2 (.inr (asks_a (by rw [k3]; decide)))) ka, h _ ((backW_iff _ _ _).2 (.inr (asks_b (by rw [k3]; decide)))) kb⟩
      · unfold idleP
        cases hw : worksB o.k with
        | true => rfl
        | false =>
          rw [if_neg (by decide)]
          unfold stays at hs
          rw [hw, Bool.false_or, Bool.and_eq_true] at hs
          exact hag _ hs.1
      · unfold knownP at hk
        cases hsd : setsD v o with
        | true =>
          rw [hsd, if_pos rfl, beq_iff_eq] at hk
          have : o.d = v := by
            unfold setsD at hsd
            rw [Bool.and_eq_true, beq_iff_eq] at hsd
            exact hsd.2
          rw [← this]
          exact foldF_const hk
        | false =>
          rw [hsd, if_neg (by decide)] at hk
          rw [foldF_nums hsd]
          refine h v ((backW_iff _ _ _).2 (.inl ⟨hv, fun hss e => ?_⟩)) hk
          unfold setsD at hsd
          rw [hss, e, beq_self_eq_true] at hsd
          cases hsd
    | false =>
      rw [hs, if_neg (by decide)] at h
      rw [if_neg (by decide)]
      refine ih pre fun v hv hk => ?_
      have h0 := h v hv hk
      cases hsd : setsD v o with
      | false => rw [foldF_nums hsd]; exact h0
      | true =>
        exfalso
        unfold setsD at hsd
        rw [Bool.and_eq_true, beq_iff_eq] at hsd
        unfold stays at hs
        rw [Bool.or_eq_false_iff, hsd.2, hv, Bool.true_and, Bool.not_eq_false', Bool.and_eq_true, beq_iff_eq, beq_iff_eq] at hs
        have h2 := fold2_k2 (f := f) (o := fold1 f o0) (by show (foldO f o0).k = 2; rw [ho]; exact hs.2.1)
        have e' : fold2 f (fold1 f o0) = o := ho
        rw [e', hs.2.2] at h2
        rw [h2.1] at h0
        cases h0
/-- What was folded is bare. -/
theorem fold_bare (ins : Int → Want) (b : SBlock) : bareP [] (cutB ins (forwardS b)).ops = true := bare_fold _ b.ops .z [] (fun v _ h => by cases h)
end Go.Proofs.YtoabiignjkcdmaaGreat
