/-
  Blanks ahead of tokens, plainly.
-/
import Derived.Test.YtkflcmengddijaaDoorLexLaw2
namespace Go.Proofs.YtkflcmengddijaaDoor
open Go.RowKit Lx
set_option linter.unusedVariables false
set_option linter.unusedSimpArgs false

/-- A text from place i on, with g's blanks ahead of the tokens' places. -/
def weave (g : Nat → List UInt8) : List Int → Nat → Nat → List UInt8 → List UInt8
  | _, _, _, [] => []
  | [], _, _, c :: cs => c :: cs
  | a :: ls, j, i, c :: cs => if a = i then g j ++ weave g ls (j + 1) i (c :: cs) else c :: weave g (a :: ls) j (i + 1) cs
termination_by ls _ _ s => ls.length + s.length

theorem weave_nil (g : Nat → List UInt8) (ls : List Int) (j i : Nat) : weave g ls j i [] = [] := by rw [weave]
theorem weave_none (g : Nat → List UInt8) (j i : Nat) (s : List UInt8) : weave g [] j i s = s := by
  cases s with
  | nil => rw [weave]
  | cons c cs => rw [weave]
theorem weave_hit (g : Nat → List UInt8) (ls : List Int) (j i : Nat) (c : UInt8) (cs : List UInt8) : weave g ((i : Int) :: ls) j i (c :: cs) = g j ++ weave g ls (j + 1) i (c :: cs) := by
  rw [weave, if_pos rfl]
theorem weave_miss (g : Nat → List UInt8) (a : Int) (ls : List Int) (j i : Nat) (c : UInt8) (cs : List UInt8) (h : a ≠ i) : weave g (a :: ls) j i (c :: cs) = c :: weave g (a :: ls) j (i + 1) cs := by
  rw [weave, if_neg h]
theorem weave_go (g : Nat → List UInt8) (ls : List Int) (j i : Nat) (c : UInt8) (cs : List UInt8) (h : ∀ a, ls.head? = some a → a ≠ i) : weave g ls j i (c :: cs) = c :: weave g ls j (i + 1) cs := by
  cases ls with
  | nil => rw [weave_none, weave_none]
  | cons a ls => exact weave_miss g a ls j i c cs (h a rfl)
theorem weave_skip (g : Nat → List UInt8) (ls : List Int) (j : Nat) : ∀ (x R : List UInt8) (i : Nat), (∀ a, ls.head? = some a → (i : Int) + x.length ≤ a) → weave g ls j i (x ++ R) = x ++ weave g ls j (i + x.length) R
  | [], R, i, h => rfl
  | c :: x, R, i, h => by
    rw [List.cons_append, weave_go g ls j i c (x ++ R) (fun a ha => by have := h a ha; simp at this; omega), weave_skip g ls j x R (i + 1) (fun a ha => by have := h a ha; simp at this; omega)]
    simp [Nat.add_assoc, Nat.add_comm 1]

theorem weave_shape (g : Nat → List UInt8) (hg : ∀ j, ∀ y ∈ g j, isBlank y = true) : ∀ (n : Nat) (ls : List Int) (j i : Nat) (s : List UInt8), ls.length + s.length ≤ n → ∃ Q R R', s = Q ++ R ∧ weave g ls j i s = Q ++ R' ∧ Blank0 R'
  | n, ls, j, i, [], _ => ⟨[], [], [], rfl, by rw [weave_nil]; rfl, fun y hy => by simp at hy⟩
  | 0, ls, j, i, c :: cs, h => by simp at h
  | n + 1, [], j, i, c :: cs, _ => ⟨c :: cs, [], [], by simp, by rw [weave_none]; simp, fun y hy => by simp at hy⟩
  | n + 1, a :: ls, j, i, c :: cs, h => by
    by_cases ha : a = i
    · subst ha
      rw [weave_hit]
      cases hj : g j with
      | nil =>
        obtain ⟨Q, R, R', h1, h2, h3⟩ := weave_shape g hg n ls (j + 1) i (c :: cs) (by simp at h ⊢; omega)
        exact ⟨Q, R, R', h1, by rw [h2]; rfl, h3⟩
      | cons y r =>
        refine ⟨[], c :: cs, _, rfl, rfl, fun z hz => ?_⟩
        simp at hz
        subst hz
        exact hg j _ (by rw [hj]; simp)
    · obtain ⟨Q, R, R', h1, h2, h3⟩ := weave_shape g hg n (a :: ls) j (i + 1) cs (by simp at h ⊢; omega)
      exact ⟨c :: Q, R, R', by rw [h1]; rfl, by rw [weave_miss _ _ _ _ _ _ _ ha, h2]; rfl, h3⟩

theorem weave_length (g : Nat → List UInt8) (hg : ∀ j, (g j).length ≤ 3) : ∀ (n : Nat) (ls : List Int) (j i : Nat) (s : List UInt8), ls.length + s.length ≤ n → (weave g ls j i s).length ≤ s.length + 3 * ls.length
  | n, ls, j, i, [], _ => by rw [weave_nil]; simp
  | 0, ls, j, i, c :: cs, h => by simp at h
  | n + 1, [], j, i, c :: cs, _ => by rw [weave_none]; simp
  | n + 1, a :: ls, j, i, c :: cs, h => by
    by_cases ha : a = i
    · subst ha
      rw [weave_hit, List.length_append]
      have := weave_length g hg n ls (j + 1) i (c :: cs) (by simp at h ⊢; omega)
      have := hg j
      simp at *
      omega
    · rw [weave_miss _ _ _ _ _ _ _ ha]
      have := weave_length g hg n (a :: ls) j (i + 1) cs (by simp at h ⊢; omega)
      simp at *
      omega

theorem weave_toks (g : Nat → List UInt8) (hg : ∀ j, ∀ y ∈ g j, isBlank y = true) (z : List UInt8) (hz : ∀ y ∈ z, isBlank y = true) : ∀ (F : Nat) (s : List UInt8) (k j : Nat) (l : List STok), s.length < F → Lx.scan F s k = .ok l →
    (∃ ts, Toks (weave g (l.map (·.at')) j k s ++ z) ts ∧ l.map bareT = ts.map (fun x => bareT x.1) ++ [(5, [], 0)]) ∧ (∀ a, (l.map (·.at')).head? = some a → (k : Int) ≤ a)
  | 0, s, k, j, l, hF, h => absurd hF (by omega)
  | F + 1, s, k, j, l, hF, h => by
    obtain ⟨hs, hb⟩ := dropWhile_split isBlank s
    have hbl : ∀ y ∈ s.takeWhile isBlank, isBlank y = true := mem_tw s
    simp only [Lx.scan] at h
    generalize s.takeWhile isBlank = b at *
    generalize hr : s.drop b.length = r at *
    split at h
    · rename_i h1
      subst h1
      injection h with h
      subst h
      refine ⟨⟨[], ?_, rfl⟩, fun a ha => by simp at ha; omega⟩
      rw [hs]
      have e := weave_skip g [((k + b.length : Nat) : Int)] j b [] k (fun a ha => by simp at ha; omega)
      simp only [List.map_cons, List.map_nil]
      rw [e, weave_nil, List.append_nil]
      exact .nil _ fun y hy => (List.mem_append.1 hy).elim (hbl y) (hz y)
    · rename_i h1
      cases hn : Lx.next r with
      | error e => rw [hn] at h; cases h
      | ok x =>
        obtain ⟨t, n⟩ := x
        rw [hn] at h
        simp only [] at h
        cases hsc : Lx.scan F (r.drop n) (k + b.length + n) with
        | error e => rw [hsc] at h; cases h
        | ok l' =>
          rw [hsc] at h
          injection h with h
          subst h
          have hn1 := next_len hn
          have hrl : r.length ≤ s.length := by rw [hs]; simp
          obtain ⟨⟨ts, h2, h3⟩, h4⟩ := weave_toks g hg z hz F (r.drop n) _ (j + 1) l' (by rw [List.length_drop]; omega) hsc
          refine ⟨⟨(t, r.take n) :: ts, ?_, ?_⟩, fun a ha => by simp at ha; omega⟩
          · have hr2 : r = r.take n ++ r.drop n := (List.take_append_drop n r).symm
            have hpl : (r.take n).length = n := by rw [List.length_take, Nat.min_eq_left hn1.2]
            have e1 : weave g (((k + b.length : Nat) : Int) :: l'.map (·.at')) j k s = (b ++ g j) ++ (r.take n ++ weave g (l'.map (·.at')) (j + 1) (k + b.length + n) (r.drop n)) := by
              rw [hs, weave_skip g _ j b r k (fun a ha => by simp at ha; omega)]
              cases hrr : r with
              | nil => exact absurd hrr h1
              | cons c cs =>
                rw [weave_hit, ← hrr]
                have e2 := weave_skip g (l'.map (·.at')) (j + 1) (r.take n) (r.drop n) (k + b.length) (fun a ha => by have := h4 a ha; rw [hpl]; omega)
                rw [← hr2, hpl] at e2
                rw [e2, List.append_assoc]
            have e3 : weave g (({ t with at' := ((k + b.length : Nat) : Int) } :: l').map (·.at')) j k s ++ z = (b ++ g j) ++ (r.take n ++ (weave g (l'.map (·.at')) (j + 1) (k + b.length + n) (r.drop n) ++ z)) := by
              rw [List.map_cons, e1]; simp only [List.append_assoc]
            rw [e3]
            obtain ⟨Q, R, R', g1, g2, g3⟩ := weave_shape g hg _ (l'.map (·.at')) (j + 1) (k + b.length + n) (r.drop n) (Nat.le_refl _)
            refine .cons _ _ _ t ts (fun y hy => (List.mem_append.1 hy).elim (hbl y) (hg j y)) ?_ ?_ ?_ h2
            · intro h0
              rw [h0] at hpl
              simp at hpl
              omega
            · intro y hy
              apply hb y
              cases r with
              | nil => exact absurd rfl h1
              | cons z r' =>
                obtain ⟨m, rfl⟩ : ∃ m, n = m + 1 := ⟨n - 1, by omega⟩
                simpa using hy
            · rw [hpl, g2, List.append_assoc, ← List.append_assoc]
              refine next_cut (R := R) ?_ (by rw [List.length_append]; omega) ?_
              · rw [List.append_assoc, ← g1, ← hr2]
                exact hn
              · intro y hy
                cases R' with
                | nil => exact hz y (List.mem_of_head? (by simpa using hy))
                | cons c r => exact g3 y (by simpa using hy)
          · simp only [List.map_cons, List.cons_append, h3]
            rfl

/-- Blanks ahead of tokens and behind the last one change no token. -/
theorem blanks_law {s : List UInt8} {l : List STok} (h : Lx.cut s = .ok l) (hs : s.length ≤ 2048) (g : Nat → List UInt8) (hg : ∀ j, ∀ y ∈ g j, isBlank y = true) (hg3 : ∀ j, (g j).length ≤ 3) :
    (weave g (l.map (·.at')) 0 0 s).length ≤ 10000 ∧ ∃ m, Lx.cut (weave g (l.map (·.at')) 0 0 s ++ [10, 32]) = .ok m ∧ BareEq l m := by
  have hf := cut_facts h
  unfold Lx.cut at h
  rw [if_neg (by omega)] at h
  obtain ⟨⟨ts, h1, h2⟩, _⟩ := weave_toks g hg [10, 32] (by intro y hy; simp at hy; rcases hy with rfl | rfl <;> decide) _ s 0 0 l (by omega) h
  have hl := weave_length g hg3 _ (l.map (·.at')) 0 0 s (Nat.le_refl _)
  rw [List.length_map] at hl
  refine ⟨by omega, ?_⟩
  obtain ⟨m, h4, h5⟩ := scan_of_toks h1 _ 0 (Nat.lt_succ_self _)
  refine ⟨m, ?_, h2.trans h5.symm⟩
  unfold Lx.cut
  rw [if_neg (by rw [List.length_append]; simp; omega)]
  exact h4

/-- The blanks that a number asks for. -/
def blanksOf (m : Nat) : List UInt8 := (List.range (m % 4)).map fun n => if (m / 4 + n) % 2 = 0 then 32 else 10
def gOf (ms : List Nat) (j : Nat) : List UInt8 := (ms[j]?.map blanksOf).getD []
theorem gOf_blank (ms : List Nat) (j : Nat) : ∀ y ∈ gOf ms j, isBlank y = true := by
  intro y hy
  unfold gOf at hy
  cases h : ms[j]? with
  | none => rw [h] at hy; simp at hy
  | some m =>
    rw [h] at hy
    simp only [Option.map_some, Option.getD_some, blanksOf, List.mem_map] at hy
    obtain ⟨n, _, rfl⟩ := hy
    split <;> decide
theorem gOf_len (ms : List Nat) (j : Nat) : (gOf ms j).length ≤ 3 := by
  unfold gOf
  cases h : ms[j]? with
  | none => simp
  | some m =>
    simp [blanksOf]
    omega
end Go.Proofs.YtkflcmengddijaaDoor
