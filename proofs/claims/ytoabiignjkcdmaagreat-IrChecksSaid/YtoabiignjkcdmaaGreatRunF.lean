/-
  More fuel changes nothing of a run that ended, plainly.
-/
import Derived.Test.YtoabiignjkcdmaaGreatRunP
namespace Go.Proofs.YtoabiignjkcdmaaGreat
open Go.RowKit
set_option linter.unusedVariables false
set_option linter.unusedSimpArgs false

/-- The same with other fuel. -/
def SM.ff (m : SM) (F : Int) : SM := { m with fuel := F }
def Res.ff (r : Res) (F : Int) : Res := match r with | .go m => .go (m.ff F) | .over e m => .over e (m.ff F)
theorem find_ff (m : SM) (F : Int) (i : Int) : (m.ff F).get i = m.get i := rfl
theorem cost_ff (m : SM) (F : Int) (o : SOp) : costS (m.ff F) o = costS m o := rfl
theorem opM_ff (m : SM) (F : Int) (o : SOp) : opM (m.ff F) o = (opM m o).ff F := by
  by_cases e1 : o.k = 1
  · rw [opM_1 _ e1, opM_1 _ e1]; rfl
  by_cases e2 : o.k = 2
  · rw [opM_2 _ e2, opM_2 _ e2]; rfl
  by_cases e3 : o.k = 3
  · rw [opM_3 _ e3, opM_3 _ e3]; rfl
  by_cases e4 : o.k = 4
  · rw [opM_4 _ e4, opM_4 _ e4]
    unfold loadS
    simp only [find_ff]
    have h1 : (m.ff F).handed = m.handed := rfl
    have h2 : (m.ff F).arena = m.arena := rfl
    rw [h1, h2]
    cases m.handed.findIdx? (hits (m.get o.a) o.fn false) with
    | some x => rfl
    | none => cases m.arena.findIdx? (hits (m.get o.a) o.fn false) <;> rfl
  by_cases e5 : o.k = 5
  · rw [opM_5 _ e5, opM_5 _ e5]
    unfold storeS
    simp only [find_ff]
    have h1 : (m.ff F).handed = m.handed := rfl
    have h2 : (m.ff F).arena = m.arena := rfl
    rw [h1, h2]
    cases m.handed.findIdx? (hits (m.get o.a) o.fn true) with
    | some x => rfl
    | none => cases m.arena.findIdx? (hits (m.get o.a) o.fn true) <;> rfl
  by_cases e6 : o.k = 6
  · rw [opM_6 _ e6, opM_6 _ e6]
    show (if m.get o.b ≤ m.get o.a then _ else _) = _
    by_cases h : m.get o.b ≤ m.get o.a
    · rw [if_pos h, if_pos h]; rfl
    · rw [if_neg h, if_neg h]; rfl
  by_cases e7 : o.k = 7
  · rw [opM_7 _ e7, opM_7 _ e7]
    show (if m.get o.b < m.get o.a then _ else _) = _
    by_cases h : m.get o.b < m.get o.a
    · rw [if_pos h, if_pos h]; rfl
    · rw [if_neg h, if_neg h]; rfl
  by_cases e8 : o.k = 8
  · rw [opM_8 _ e8, opM_8 _ e8]
    show (if m.get o.a = 0 then _ else _) = _
    by_cases h : m.get o.a = 0
    · rw [if_pos h, if_pos h]; rfl
    · rw [if_neg h, if_neg h]; rfl
  by_cases e9 : o.k = 9
  · rw [opM_9 _ e9, opM_9 _ e9]
    unfold allocS
    show (if roomB m (m.get o.a) = true then _ else _) = _
    by_cases h : roomB m (m.get o.a) = true
    · rw [if_pos h, if_pos h]; rfl
    · rw [if_neg h, if_neg h]; rfl
  by_cases e10 : o.k = 10
  · rw [opM_10 _ e10, opM_10 _ e10]
    unfold wipeS
    show (match m.arena.findIdx? (fun x => starts (m.get o.a) x && ((x.b.length : Int) == m.get o.b)) with | some i => _ | none => _) = _
    cases m.arena.findIdx? (fun x => starts (m.get o.a) x && ((x.b.length : Int) == m.get o.b)) <;> rfl
  by_cases e11 : o.k = 11
  · rw [opM_11 _ e11, opM_11 _ e11]
    unfold freeS
    show (match m.arena.findIdx? (starts (m.get o.a)) with | some i => _ | none => _) = _
    cases m.arena.findIdx? (starts (m.get o.a)) <;> rfl
  by_cases e12 : o.k = 12
  · rw [opM_12 _ e12, opM_12 _ e12]; rfl
  rw [opM_13 _ (by omega), opM_13 _ (by omega)]; rfl
/-- What a step leaves. -/
def Left (m : SM) : Res → Prop
  | .go m' => m'.fuel = m.fuel ∧ m'.steps = m.steps ∧ m'.en = m.en
  | .over e m' => m'.fuel = m.fuel ∧ m'.steps = m.steps ∧ (e = 40 ∨ e = 0 ∧ m'.en = 4)
theorem opM_left (m : SM) (o : SOp) : Left m (opM m o) := by
  refine opM_ind m o ?_ ?_ ?_ ?_ ?_ ?_ ?_ ?_ ?_ ?_ ?_ ?_ ?_ <;> intro h
  · exact ⟨rfl, rfl, rfl⟩
  · exact ⟨rfl, rfl, rfl⟩
  · exact ⟨rfl, rfl, rfl⟩
  · unfold loadS
    cases m.handed.findIdx? (hits (m.get o.a) o.fn false) with
    | some x => exact ⟨rfl, rfl, rfl⟩
    | none => cases m.arena.findIdx? (hits (m.get o.a) o.fn false) with
      | some x => exact ⟨rfl, rfl, rfl⟩
      | none => exact ⟨rfl, rfl, .inl rfl⟩
  · unfold storeS
    cases m.handed.findIdx? (hits (m.get o.a) o.fn true) with
    | some x => exact ⟨rfl, rfl, rfl⟩
    | none => cases m.arena.findIdx? (hits (m.get o.a) o.fn true) with
      | some x => exact ⟨rfl, rfl, rfl⟩
      | none => exact ⟨rfl, rfl, .inl rfl⟩
  · by_cases h : m.get o.b ≤ m.get o.a
    · rw [if_pos h]; exact ⟨rfl, rfl, .inr ⟨rfl, rfl⟩⟩
    · rw [if_neg h]; exact ⟨rfl, rfl, rfl⟩
  · by_cases h : m.get o.b < m.get o.a
    · rw [if_pos h]; exact ⟨rfl, rfl, .inr ⟨rfl, rfl⟩⟩
    · rw [if_neg h]; exact ⟨rfl, rfl, rfl⟩
  · by_cases h : m.get o.a = 0
    · rw [if_pos h]; exact ⟨rfl, rfl, .inr ⟨rfl, rfl⟩⟩
    · rw [if_neg h]; exact ⟨rfl, rfl, rfl⟩
  · unfold allocS
    by_cases h : roomB m (m.get o.a) = true
    · simp only [if_pos h]; exact ⟨rfl, rfl, rfl⟩
    · simp only [if_neg h]; exact ⟨rfl, rfl, .inr ⟨rfl, rfl⟩⟩
  · unfold wipeS
    cases m.arena.findIdx? (fun x => starts (m.get o.a) x && ((x.b.length : Int) == m.get o.b)) with
    | some x => exact ⟨rfl, rfl, rfl⟩
    | none => exact ⟨rfl, rfl, .inl rfl⟩
  · unfold freeS
    cases m.arena.findIdx? (starts (m.get o.a)) with
    | some x => exact ⟨rfl, rfl, rfl⟩
    | none => exact ⟨rfl, rfl, .inl rfl⟩
  · exact ⟨rfl, rfl, rfl⟩
  · exact ⟨rfl, rfl, rfl⟩
/-- A step that goes on counts nothing itself, and ends nothing. -/
theorem opM_go {m m' : SM} {o : SOp} (h : opM m o = .go m') : m'.fuel = m.fuel ∧ m'.steps = m.steps ∧ m'.en = m.en := by
  have := opM_left m o
  rw [h] at this
  exact this
/-- A step that is over says why. -/
theorem opM_over {m m' : SM} {e : Int} {o : SOp} (h : opM m o = .over e m') : m'.fuel = m.fuel ∧ m'.steps = m.steps ∧ (e = 40 ∨ e = 0 ∧ m'.en = 4) := by
  have := opM_left m o
  rw [h] at this
  exact this

/-- Two ends of one run, with less fuel and with more: alike, or the one with less ran out, and the other one did so too, or took more than the less. -/
def Alike2 (F1 F2 s : Int) (r1 r2 : Int × SM) : Prop :=
  (∃ (e : Int) (m : SM), r1 = (e, m.ff F1) ∧ r2 = (e, m.ff F2) ∧ (e = 40 ∨ e = 0 ∧ m.en ≠ 0) ∧ s < m.steps ∧ m.steps ≤ F1) ∨
  (∃ m1 : SM, r1 = (0, m1) ∧ m1.en = 0 ∧ s ≤ m1.steps ∧ m1.steps ≤ F1 ∧ (r2.1 = 0 ∧ r2.2.en = 0 ∨ F1 < r2.2.steps))
/-- .. of some steps. -/
def AlikeR (F1 F2 s : Int) (r1 r2 : Res) : Prop :=
  (∃ m : SM, r1 = .go (m.ff F1) ∧ r2 = .go (m.ff F2) ∧ m.en = 0 ∧ s ≤ m.steps ∧ m.steps ≤ F1) ∨
  (∃ (e : Int) (m : SM), r1 = .over e (m.ff F1) ∧ r2 = .over e (m.ff F2) ∧ (e = 40 ∨ e = 0 ∧ m.en ≠ 0) ∧ s < m.steps ∧ m.steps ≤ F1) ∨
  (∃ m1 : SM, r1 = .over 0 m1 ∧ m1.en = 0 ∧ s ≤ m1.steps ∧ m1.steps ≤ F1 ∧ ((∃ m2 : SM, r2 = .over 0 m2 ∧ m2.en = 0) ∨ (∃ m2 : SM, r2 = .go m2 ∧ F1 < m2.steps) ∨ (∃ (e : Int) (m2 : SM), r2 = .over e m2 ∧ F1 < m2.steps)))
theorem AlikeR.weak {F1 F2 s t : Int} {r1 r2 : Res} (h : AlikeR F1 F2 t r1 r2) (hs : s ≤ t) : AlikeR F1 F2 s r1 r2 := by
  rcases h with ⟨m, a, b, c, d, e⟩ | ⟨e, m, a, b, c, d, f⟩ | ⟨m, a, b, c, d⟩
  · exact .inl ⟨m, a, b, c, by omega, e⟩
  · exact .inr (.inl ⟨e, m, a, b, c, by omega, f⟩)
  · exact .inr (.inr ⟨m, a, b, by omega, d⟩)
theorem pay_alike (m : SM) (n F1 F2 : Int) (hn : 1 ≤ n) (hF : F1 ≤ F2) (he : m.en = 0) (hs : m.steps ≤ F1) :
    (∃ m' : SM, payS (m.ff F1) n = .go (m'.ff F1) ∧ payS (m.ff F2) n = .go (m'.ff F2) ∧ m'.en = 0 ∧ m.steps < m'.steps ∧ m'.steps ≤ F1) ∨
    (payS (m.ff F1) n = .over 0 (m.ff F1) ∧ ((payS (m.ff F2) n = .over 0 (m.ff F2)) ∨ ∃ m' : SM, payS (m.ff F2) n = .go m' ∧ F1 < m'.steps)) := by
  by_cases h1 : F1 - m.steps < n
  · refine .inr ⟨?_, ?_⟩
    · show (if F1 - m.steps < n then _ else _) = _
      rw [if_pos h1]
    · by_cases h2 : F2 - m.steps < n
      · left
        show (if F2 - m.steps < n then _ else _) = _
        rw [if_pos h2]
      · right
        refine ⟨_, by show (if F2 - m.steps < n then _ else _) = _; rw [if_neg h2], ?_⟩
        show F1 < m.steps + n
        omega
  · refine .inl ⟨{ m with steps := m.steps + n }, ?_, ?_, he, ?_, ?_⟩
    · show (if F1 - m.steps < n then _ else _) = _
      rw [if_neg h1]; rfl
    · show (if F2 - m.steps < n then _ else _) = _
      rw [if_neg (by omega)]; rfl
    · show m.steps < m.steps + n; omega
    · show m.steps + n ≤ F1; omega
/-- Steps never fall. -/
theorem pay_steps {m m' : SM} {n : Int} (hn : 1 ≤ n) (h : payS m n = .go m') : m.steps < m'.steps := by
  unfold payS at h
  split at h
  · cases h
  · cases h; show m.steps < m.steps + n; omega
theorem pay_over {m m' : SM} {n e : Int} (h : payS m n = .over e m') : m' = m ∧ e = 0 := by
  unfold payS at h
  split at h
  · cases h; exact ⟨rfl, rfl⟩
  · cases h
def Res.sm : Res → SM | .go m => m | .over _ m => m
theorem step_steps (m : SM) (o : SOp) : m.steps ≤ (stepS m o).sm.steps := by
  unfold stepS
  cases hp : payS m (costS m o) with
  | over e m' => rw [(pay_over hp).1]; exact Int.le_refl _
  | go m' =>
    have h1 := pay_steps (costS_pos m o) hp
    show m.steps ≤ (opM m' o).sm.steps
    cases ho : opM m' o with
    | go m2 => have := (opM_go ho).2.1; show m.steps ≤ m2.steps; omega
    | over e m2 => have := (opM_over ho).2.1; show m.steps ≤ m2.steps; omega
theorem ops_steps (l : List SOp) : ∀ m, m.steps ≤ (opsS l m).sm.steps := by
  induction l with
  | nil => intro m; exact Int.le_refl _
  | cons o l ih =>
    intro m
    have h1 := step_steps m o
    show m.steps ≤ ((stepS m o).bind (opsS l)).sm.steps
    cases hs : stepS m o with
    | over e m' => rw [hs] at h1; exact h1
    | go m' =>
      rw [hs] at h1
      have h2 := ih m'
      have h1' : m.steps ≤ m'.steps := h1
      show m.steps ≤ (opsS l m').sm.steps
      omega
theorem ops_alike (l : List SOp) (F1 F2 : Int) (hF : F1 ≤ F2) : ∀ m : SM, m.en = 0 → m.steps ≤ F1 → AlikeR F1 F2 m.steps (opsS l (m.ff F1)) (opsS l (m.ff F2)) := by
  induction l with
  | nil => intro m he hs; exact .inl ⟨m, rfl, rfl, he, Int.le_refl _, hs⟩
  | cons o l ih =>
    intro m he hs
    have e1 : opsS (o :: l) (m.ff F1) = (((payS (m.ff F1) (costS m o)).bind fun m => opM m o).bind (opsS l)) := rfl
    have e2 : opsS (o :: l) (m.ff F2) = (((payS (m.ff F2) (costS m o)).bind fun m => opM m o).bind (opsS l)) := rfl
    rw [e1, e2]
    rcases pay_alike m (costS m o) F1 F2 (costS_pos m o) hF he hs with ⟨m', h1, h2, he', hs', hF'⟩ | ⟨h1, h2⟩
    · rw [h1, h2]
      show AlikeR F1 F2 m.steps ((opM (m'.ff F1) o).bind (opsS l)) ((opM (m'.ff F2) o).bind (opsS l))
      rw [opM_ff, opM_ff]
      cases ho : opM m' o with
      | go m2 =>
        obtain ⟨_, a2, a3⟩ := opM_go ho
        exact (ih m2 (by omega) (by omega)).weak (by omega)
      | over e m2 =>
        obtain ⟨_, a2, a3⟩ := opM_over ho
        refine .inr (.inl ⟨e, m2, rfl, rfl, ?_, by omega, by omega⟩)
        rcases a3 with h | ⟨h, h'⟩
        · exact .inl h
        · exact .inr ⟨h, by omega⟩
    · rw [h1]
      refine .inr (.inr ⟨m.ff F1, rfl, he, Int.le_refl _, hs, ?_⟩)
      rcases h2 with h2 | ⟨m', h2, hlt⟩
      · rw [h2]; exact .inl ⟨_, rfl, he⟩
      · rw [h2]
        show _ ∨ (∃ m2, (opM m' o).bind (opsS l) = .go m2 ∧ _) ∨ (∃ e m2, (opM m' o).bind (opsS l) = .over e m2 ∧ _)
        have hb : F1 < ((opM m' o).bind (opsS l)).sm.steps := by
          cases ho : opM m' o with
          | go m2 =>
            have h3 := (opM_go ho).2.1
            have h4 := ops_steps l m2
            show F1 < (opsS l m2).sm.steps
            omega
          | over e m2 =>
            have h3 := (opM_over ho).2.1
            show F1 < m2.steps
            omega
        cases hr : (opM m' o).bind (opsS l) with
        | go m2 => rw [hr] at hb; exact .inr (.inl ⟨m2, rfl, hb⟩)
        | over e m2 => rw [hr] at hb; exact .inr (.inr ⟨e, m2, rfl, hb⟩)
theorem endM_steps {b : SBlock} {m : SM} {r : Int × SM} (h : endM b m = .inr r) : r.2.steps = m.steps ∧ r.2.fuel = m.fuel ∧ r.1 = 0 ∧ r.2.en ≠ 0 := by
  unfold endM at h
  split at h; · cases h
  split at h; · cases h
  split at h
  · cases h; exact ⟨rfl, rfl, rfl, fun h => by cases h⟩
  · cases h; exact ⟨rfl, rfl, rfl, fun h => by cases h⟩
theorem endM_ff (b : SBlock) (m : SM) (F : Int) : endM b (m.ff F) = match endM b m with | .inl a => .inl a | .inr r => .inr (r.1, r.2.ff F) := by
  unfold endM
  split; · rfl
  split; · rfl
  split <;> rfl
theorem goes_steps (p : SIr) : ∀ (n : Nat) (a : Int) (m : SM), m.steps ≤ (goesS p n a m).2.steps
  | 0, _, _ => Int.le_refl _
  | n + 1, a, m => by
    unfold goesS
    have h1 := ops_steps (p.blk.getD a.toNat blockZ).ops m
    cases ho : opsS (p.blk.getD a.toNat blockZ).ops m with
    | over e m1 =>
      rw [ho] at h1
      exact h1
    | go m1 =>
      rw [ho] at h1
      have h1' : m.steps ≤ m1.steps := h1
      show m.steps ≤ (match payS m1 1 with | .over e m => (e, m) | .go m => match endM (p.blk.getD a.toNat blockZ) m with | .inl a2 => goesS p n a2 m | .inr r => r).2.steps
      cases hp : payS m1 1 with
      | over e m2 =>
        rw [(pay_over hp).1]
        exact h1'
      | go m2 =>
        have h2 := pay_steps (Int.le_refl 1) hp
        simp only
        cases he : endM (p.blk.getD a.toNat blockZ) m2 with
        | inl a2 =>
          have := goes_steps p n a2 m2
          show m.steps ≤ (goesS p n a2 m2).2.steps
          omega
        | inr r =>
          have := (endM_steps he).1
          show m.steps ≤ r.2.steps
          omega
theorem goes_alike (p : SIr) (F1 F2 : Int) (hF : F1 ≤ F2) : ∀ (n : Nat) (a : Int) (m : SM), m.en = 0 → m.steps ≤ F1 → F1 - m.steps < n → Alike2 F1 F2 m.steps (goesS p n a (m.ff F1)) (goesS p n a (m.ff F2))
  | 0, a, m, he, hs, hn => by omega
  | n + 1, a, m, he, hs, hn => by
    unfold goesS
    rcases ops_alike (p.blk.getD a.toNat blockZ).ops F1 F2 hF m he hs with ⟨m1, h1, h2, he1, hs1, hf1⟩ | ⟨e, m1, h1, h2, he1, hs1, hf1⟩ | ⟨m1, h1, he1, hs1, hf1, h2⟩
    · rw [h1, h2]
      show Alike2 F1 F2 m.steps (match payS (m1.ff F1) 1 with | .over e m => (e, m) | .go m => match endM (p.blk.getD a.toNat blockZ) m with | .inl a2 => goesS p n a2 m | .inr r => r) (match payS (m1.ff F2) 1 with | .over e m => (e, m) | .go m => match endM (p.blk.getD a.toNat blockZ) m with | .inl a2 => goesS p n a2 m | .inr r => r)
      rcases pay_alike m1 1 F1 F2 (Int.le_refl _) hF he1 hf1 with ⟨m2, q1, q2, he2, hs2, hf2⟩ | ⟨q1, q2⟩
      · rw [q1, q2]
        simp only [endM_ff]
        cases hE : endM (p.blk.getD a.toNat blockZ) m2 with
        | inl a2 =>
          have ih := goes_alike p F1 F2 hF n a2 m2 he2 hf2 (by omega)
          simp only
          rcases ih with ⟨e, m3, a1, a2, a3, a4, a5⟩ | ⟨m3, a1, a2, a3, a4, a5⟩
          · exact .inl ⟨e, m3, a1, a2, a3, by omega, a5⟩
          · exact .inr ⟨m3, a1, a2, by omega, a4, a5⟩
        | inr r =>
          obtain ⟨b1, _, b2, b3⟩ := endM_steps hE
          simp only
          exact .inl ⟨r.1, r.2, rfl, rfl, .inr ⟨b2, b3⟩, by omega, by omega⟩
      · rw [q1]
        refine .inr ⟨m1.ff F1, rfl, he1, hs1, hf1, ?_⟩
        rcases q2 with q2 | ⟨m2, q2, hlt⟩
        · rw [q2]; exact .inl ⟨rfl, he1⟩
        · rw [q2]
          right
          simp only
          cases hE : endM (p.blk.getD a.toNat blockZ) m2 with
          | inl a2 =>
            have := goes_steps p n a2 m2
            simp only
            omega
          | inr r =>
            have := (endM_steps hE).1
            simp only
            omega
    · rw [h1, h2]
      exact .inl ⟨e, m1, rfl, rfl, he1, hs1, hf1⟩
    · rw [h1]
      refine .inr ⟨m1, rfl, he1, hs1, hf1, ?_⟩
      rcases h2 with ⟨m2, h2, he2⟩ | ⟨m2, h2, hlt⟩ | ⟨e, m2, h2, hlt⟩
      · rw [h2]; exact .inl ⟨rfl, he2⟩
      · rw [h2]
        right
        show F1 < (match payS m2 1 with | .over e m => (e, m) | .go m => match endM (p.blk.getD a.toNat blockZ) m with | .inl a2 => goesS p n a2 m | .inr r => r).2.steps
        cases hp : payS m2 1 with
        | over e m3 => rw [(pay_over hp).1]; exact hlt
        | go m3 =>
          have h3 := pay_steps (Int.le_refl 1) hp
          simp only
          cases hE : endM (p.blk.getD a.toNat blockZ) m3 with
          | inl a2 =>
            have := goes_steps p n a2 m3
            simp only
            omega
          | inr r =>
            have := (endM_steps hE).1
            simp only
            omega
      · rw [h2]; exact .inr hlt
theorem pay_go {m m' : SM} {n : Int} (h : payS m n = .go m') : m'.fuel = m.fuel ∧ m'.steps = m.steps + n ∧ m'.steps ≤ m.fuel := by
  unfold payS at h
  split at h
  · cases h
  · cases h
    refine ⟨rfl, rfl, ?_⟩
    show m.steps + n ≤ m.fuel
    omega
theorem ops_go (l : List SOp) : ∀ {m m' : SM}, m.steps ≤ m.fuel → opsS l m = .go m' → m'.fuel = m.fuel ∧ m.steps ≤ m'.steps ∧ m'.steps ≤ m.fuel := by
  induction l with
  | nil => intro m m' hs h; cases h; exact ⟨rfl, Int.le_refl _, hs⟩
  | cons o l ih =>
    intro m m' hs h
    have e1 : opsS (o :: l) m = (((payS m (costS m o)).bind fun m => opM m o).bind (opsS l)) := rfl
    rw [e1] at h
    cases hp : payS m (costS m o) with
    | over e m1 => rw [hp] at h; cases h
    | go m1 =>
      rw [hp] at h
      obtain ⟨a1, a2, a3⟩ := pay_go hp
      have hc := costS_pos m o
      cases ho : opM m1 o with
      | over e m2 =>
        have h' : (opM m1 o).bind (opsS l) = .go m' := h
        rw [ho] at h'
        cases h'
      | go m2 =>
        have h' : (opM m1 o).bind (opsS l) = .go m' := h
        rw [ho] at h'
        obtain ⟨b1, b2, b3⟩ := opM_go ho
        obtain ⟨c1, c2, c3⟩ := ih (m := m2) (by omega) h'
        exact ⟨by omega, by omega, by omega⟩
/-- More rounds than fuel change nothing. -/
theorem goes_more (p : SIr) : ∀ (n : Nat) (a : Int) (m : SM), m.fuel - m.steps < n → m.steps ≤ m.fuel → goesS p (n + 1) a m = goesS p n a m
  | 0, a, m, h, hs => by omega
  | n + 1, a, m, h, hs => by
    rw [goesS, goesS]
    cases ho : opsS (p.blk.getD a.toNat blockZ).ops m with
    | over e m1 => rfl
    | go m1 =>
      obtain ⟨a1, a2, a3⟩ := ops_go _ hs ho
      show (match payS m1 1 with | .over e m => (e, m) | .go m => match endM (p.blk.getD a.toNat blockZ) m with | .inl a2 => goesS p (n + 1) a2 m | .inr r => r) = (match payS m1 1 with | .over e m => (e, m) | .go m => match endM (p.blk.getD a.toNat blockZ) m with | .inl a2 => goesS p n a2 m | .inr r => r)
      cases hp : payS m1 1 with
      | over e m2 => rfl
      | go m2 =>
        obtain ⟨b1, b2, b3⟩ := pay_go hp
        simp only
        cases hE : endM (p.blk.getD a.toNat blockZ) m2 with
        | inl a2 => exact goes_more p n a2 m2 (by omega) (by omega)
        | inr r => rfl
theorem goes_any (p : SIr) (a : Int) (m : SM) (hs : m.steps ≤ m.fuel) (n : Nat) (h : m.fuel - m.steps < n) : ∀ k, goesS p (n + k) a m = goesS p n a m
  | 0 => rfl
  | k + 1 => by rw [← Nat.add_assoc, goes_more p (n + k) a m (by omega) hs, goes_any p a m hs n h k]

theorem layIn_ff (F : Int) : ∀ (l : List SHanded) (ns : List Int) (bs : List ByteArray) (m : SM), layIn l ns bs (m.ff F) = (layIn l ns bs m).ff F
  | [], _, _, _ => rfl
  | h :: l, ns, bs, m => by
    unfold layIn
    split
    · exact layIn_ff F l ns bs.tail { m with handed := m.handed ++ [⟨bufBase + (m.handed.length : Int) * 65536, bytesI (bs.headD ⟨#[]⟩), h.sec, !h.mu⟩], v := (m.v.set h.d.toNat (bufBase + (m.handed.length : Int) * 65536)).set h.len.toNat ((bs.headD ⟨#[]⟩).size : Int) }
    · exact layIn_ff F l ns.tail bs { m with v := m.v.set h.d.toNat (ns.headD 0) }
theorem layIn_keeps : ∀ (l : List SHanded) (ns : List Int) (bs : List ByteArray) (m : SM), (layIn l ns bs m).fuel = m.fuel ∧ (layIn l ns bs m).steps = m.steps ∧ (layIn l ns bs m).en = m.en
  | [], _, _, _ => ⟨rfl, rfl, rfl⟩
  | h :: l, ns, bs, m => by
    unfold layIn
    split
    · exact layIn_keeps l ns bs.tail _
    · exact layIn_keeps l ns.tail bs _
theorem begin_ff (p : SIr) (i : SIn) (arena f F : Int) : beginS p i arena F = (beginS p i arena f).ff F := by
  unfold beginS
  rw [← layIn_ff]
  rfl
theorem outS_ff (m : SM) (F : Int) : outS (m.ff F) = outS m := rfl
theorem endS'_ff (e : Int) (m : SM) (F : Int) : endS' (e, m.ff F) = endS' (e, m) := rfl
/-- Two runs of one program, alike but for fuel. -/
theorem run_alike (p : SIr) (i : SIn) (arena : Int) (f g : Int) (hf : 0 ≤ f) (hfg : f ≤ g) (hg : g ≤ 4194304) (hm : mayRun p i arena f = true) :
    ∃ r1 r2 : Int × SM, Alike2 f g 0 r1 r2 ∧ runS p i arena f = endS' r1 ∧ runS p i arena g = endS' r2 := by
  have hm2 : mayRun p i arena g = true := by
    unfold mayRun at hm ⊢
    simp only [Bool.and_eq_true, decide_eq_true_eq] at hm ⊢
    exact ⟨⟨hm.1.1, by omega⟩, hg⟩
  obtain ⟨k1, k2, k3⟩ := layIn_keeps p.par i.nums i.bufs (mZ p arena f)
  have e1 : (beginS p i arena f).ff f = beginS p i arena f := (begin_ff p i arena f f).symm
  have e2 : (beginS p i arena f).ff g = beginS p i arena g := (begin_ff p i arena f g).symm
  have s0 : (beginS p i arena f).steps = 0 := k2
  have n0 : (beginS p i arena f).en = 0 := k3
  have f0 : (beginS p i arena f).fuel = f := k1
  have h := goes_alike p f g hfg (g.toNat + 2) 0 (beginS p i arena f) n0 (by omega) (by omega)
  rw [e1, e2, s0] at h
  refine ⟨_, _, h, ?_, ?_⟩
  · unfold runS
    rw [if_pos hm]
    have := goes_any p 0 (beginS p i arena f) (by omega) (f.toNat + 2) (by omega) (g.toNat - f.toNat)
    rw [show f.toNat + 2 + (g.toNat - f.toNat) = g.toNat + 2 by omega] at this
    rw [this]
  · unfold runS
    rw [if_pos hm2]
theorem runS_no {p : SIr} {i : SIn} {arena f : Int} (h : mayRun p i arena f = false) : runS p i arena f = (outZ, 2) := by
  unfold runS
  rw [h]
  rfl
theorem mayRun_any {p : SIr} {i : SIn} {arena f g : Int} (hf : 0 ≤ f) (hf2 : f ≤ 4194304) (hg : 0 ≤ g) (hg2 : g ≤ 4194304) : mayRun p i arena f = mayRun p i arena g := by
  unfold mayRun
  simp [hf, hf2, hg, hg2]
/-- THE LAW OF FUEL. -/
theorem fuel_law (p : SIr) (i : SIn) (arena : Int) (n k : Int) (hn : 0 ≤ n) (hk : 0 ≤ k) (hm : n + k ≤ 4194304) :
    ((runS p i arena n).2 ≠ 0 → (runS p i arena n).1 = outZ ∧ (runS p i arena (n + k)).2 = (runS p i arena n).2) ∧
    ((runS p i arena n).2 = 0 → 0 ≤ (runS p i arena n).1.steps ∧ (runS p i arena n).1.steps ≤ n ∧
      ((runS p i arena n).1.en = 0 → (runS p i arena (n + k)).2 ≠ 0 ∨ (runS p i arena (n + k)).1.en = 0 ∨ (runS p i arena n).1.steps < (runS p i arena (n + k)).1.steps) ∧
      ((runS p i arena n).1.en ≠ 0 → runS p i arena (n + k) = runS p i arena n ∧ 1 ≤ (runS p i arena n).1.steps ∧
        runS p i arena (runS p i arena n).1.steps = runS p i arena n ∧ (runS p i arena ((runS p i arena n).1.steps - 1)).2 = 0 ∧ (runS p i arena ((runS p i arena n).1.steps - 1)).1.en = 0)) := by
  cases hmay : mayRun p i arena n with
  | false =>
    have hmay2 : mayRun p i arena (n + k) = false := by rw [← hmay]; exact mayRun_any (by omega) (by omega) (by omega) (by omega)
    rw [runS_no hmay, runS_no hmay2]
    exact ⟨fun _ => ⟨rfl, rfl⟩, fun h => by cases h⟩
  | true =>
    obtain ⟨r1, r2, hA, h1, h2⟩ := run_alike p i arena n (n + k) hn (by omega) hm hmay
    rw [h1, h2]
    rcases hA with ⟨e, m, rfl, rfl, he, hs, hF⟩ | ⟨m1, rfl, he1, hs1, hF1, hor⟩
    · rw [endS'_ff, endS'_ff]
      rw [endS'_ff] at h1
      rcases he with rfl | ⟨rfl, hen⟩
      · exact ⟨fun _ => ⟨rfl, rfl⟩, fun h => by cases h⟩
      · refine ⟨fun h => absurd rfl h, fun _ => ⟨by show 0 ≤ m.steps; omega, hF, fun h => absurd h hen, fun _ => ⟨rfl, by show 1 ≤ m.steps; omega, ?_⟩⟩⟩
        show runS p i arena m.steps = endS' (0, m) ∧ (runS p i arena (m.steps - 1)).2 = 0 ∧ (runS p i arena (m.steps - 1)).1.en = 0
        have hms : mayRun p i arena m.steps = true := by rw [← hmay]; exact mayRun_any (by omega) (by omega) (by omega) (by omega)
        have hmt : mayRun p i arena (m.steps - 1) = true := by rw [← hmay]; exact mayRun_any (by omega) (by omega) (by omega) (by omega)
        have hC : runS p i arena m.steps = endS' (0, m) := by
          obtain ⟨q1, q2, hB, g1, g2⟩ := run_alike p i arena m.steps n (by omega) (by omega) (by omega) hms
          rw [g1]
          rw [h1] at g2
          rcases hB with ⟨e', m', rfl, rfl, he', hs', hF'⟩ | ⟨m', rfl, he', hs', hF', hor'⟩
          · rw [endS'_ff] at g2 ⊢
            exact g2.symm
          · exfalso
            rcases hor' with ⟨z1, z2⟩ | hlt
            · have : (endS' (0, m)).1.en = (endS' q2).1.en := by rw [g2]
              rw [show endS' q2 = (outS q2.2, 0) by unfold endS'; rw [if_pos z1]] at this
              exact hen (this.trans z2)
            · have hz : q2.1 = 0 := by
                rcases Decidable.em (q2.1 = 0) with hz | hz
                · exact hz
                · have : (endS' (0, m)).2 = (endS' q2).2 := by rw [g2]
                  rw [show endS' q2 = (outZ, q2.1) by unfold endS'; rw [if_neg hz]] at this
                  exact absurd this.symm hz
              have : (endS' (0, m)).1.steps = (endS' q2).1.steps := by rw [g2]
              rw [show endS' q2 = (outS q2.2, 0) by unfold endS'; rw [if_pos hz]] at this
              have h5 : m.steps = q2.2.steps := this
              omega
        refine ⟨hC, ?_⟩
        obtain ⟨q1, q2, hB, g1, g2⟩ := run_alike p i arena (m.steps - 1) m.steps (by omega) (by omega) (by omega) hmt
        rw [hC] at g2
        rw [g1]
        rcases hB with ⟨e', m', rfl, rfl, he', hs', hF'⟩ | ⟨m', rfl, he', hs', hF', hor'⟩
        · exfalso
          rw [endS'_ff] at g2
          rcases he' with rfl | ⟨rfl, _⟩
          · have : (endS' (0, m)).2 = (endS' ((40 : Int), m')).2 := by rw [g2]
            cases this
          · have : (endS' (0, m)).1.steps = (endS' ((0 : Int), m')).1.steps := by rw [g2]
            have h5 : m.steps = m'.steps := this
            omega
        · exact ⟨rfl, he'⟩
    · refine ⟨fun h => absurd rfl h, fun _ => ⟨hs1, hF1, fun _ => ?_, fun h => absurd he1 h⟩⟩
      rcases hor with ⟨z1, z2⟩ | hlt
      · right; left
        unfold endS'
        rw [if_pos z1]
        exact z2
      · rcases Decidable.em (r2.1 = 0) with hz | hz
        · right; right
          show m1.steps < (endS' r2).1.steps
          unfold endS'
          rw [if_pos hz]
          show m1.steps < r2.2.steps
          omega
        · left
          unfold endS'
          rw [if_neg hz]
          exact hz
end Go.Proofs.YtoabiignjkcdmaaGreat
