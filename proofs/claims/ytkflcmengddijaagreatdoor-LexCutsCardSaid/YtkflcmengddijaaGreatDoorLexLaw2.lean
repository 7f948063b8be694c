/-
  What was cut, joined and cut again.
-/
import Derived.Test.YtkflcmengddijaaGreatDoorLexLaw
import Derived.Test.YtkflcmengddijaaGreatDoorLexSame
namespace Go.Proofs.YtkflcmengddijaaGreatDoor
open Go.RowKit Lx
set_option linter.unusedVariables false
set_option linter.unusedSimpArgs false

def pieceB (x : Int × List UInt8 × Int) : List (List UInt8) := if x.1 = 3 then [Lib.decDigits x.2.2.toNat] else if x.1 = 1 ∨ x.1 = 2 ∨ x.1 = 4 then [x.2.1] else []
theorem pieceOf_bare (t : STok) : pieceOf t = pieceB (bareT t) := rfl
theorem pieces_bare (l : List STok) : pieces l = (l.map bareT).flatMap pieceB := by
  simp only [pieces, List.flatMap_map]
  rfl
theorem joinS_bare {l m : List STok} (h : l.map bareT = m.map bareT) : joinS l = joinS m := by rw [joinS, joinS, pieces_bare, pieces_bare, h]

theorem piece_of_next {p R : List UInt8} {t : STok} (hp : p ≠ []) (h : Lx.next (p ++ R) = .ok (t, p.length)) : pieceOf t = [p] ∧ (t.k = 3 → 0 ≤ t.num ∧ t.num < 18446744073709551616) := by
  have tk : ∀ q : UInt8 → Bool, ((p ++ R).takeWhile q).length = p.length → (p ++ R).takeWhile q = p := by
    intro q hq
    have h1 : (p ++ R).takeWhile q <+: p ++ R := List.takeWhile_prefix q
    have h2 : (p ++ R).takeWhile q <+: p := List.prefix_of_prefix_length_le h1 (List.prefix_append p R) (by omega)
    exact h2.eq_of_length hq
  unfold Lx.next at h
  simp only [] at h
  split at h
  · cases hu : numOf ((p ++ R).takeWhile isDigit) with
    | none => rw [hu] at h; cases h
    | some u =>
      rw [hu] at h
      simp only [Except.ok.injEq, Prod.mk.injEq] at h
      obtain ⟨rfl, hl⟩ := h
      rw [tk _ hl] at hu
      obtain ⟨h1, h2⟩ := numOf_dec hu
      refine ⟨?_, fun _ => ⟨by simp, by simp only []; omega⟩⟩
      simp [pieceOf, h1]
  · split at h
    · split at h
      · cases h
      · split at h
        · simp only [Except.ok.injEq, Prod.mk.injEq] at h
          obtain ⟨rfl, hl⟩ := h
          exact ⟨by simp [pieceOf, tk _ hl], fun h => by simp at h⟩
        · simp only [Except.ok.injEq, Prod.mk.injEq] at h
          obtain ⟨rfl, hl⟩ := h
          exact ⟨by simp [pieceOf, tk _ hl], fun h => by simp at h⟩
    · split at h
      · cases h
      · rename_i hs
        simp only [Except.ok.injEq, Prod.mk.injEq] at h
        obtain ⟨rfl, hl⟩ := h
        refine ⟨?_, fun h => by simp at h⟩
        have hpre : signOf (p ++ R) <+: p ++ R := by
          unfold signOf at hs ⊢
          cases hf : signs.find? fun x => x.isPrefixOf (p ++ R) with
          | none => simp [hf] at hs
          | some x => exact List.isPrefixOf_iff_prefix.1 (by simpa using List.find?_some hf)
        have h2 : signOf (p ++ R) <+: p := List.prefix_of_prefix_length_le hpre (List.prefix_append p R) (by omega)
        simp [pieceOf, h2.eq_of_length hl]

theorem toks_blank {b s : List UInt8} {ts : List (STok × List UInt8)} (h : Toks s ts) (hb : ∀ y ∈ b, isBlank y = true) : Toks (b ++ s) ts := by
  cases h with
  | nil b' hb' => exact .nil _ fun y hy => (List.mem_append.1 hy).elim (hb y) (hb' y)
  | cons b' p R t ts hb' h1 h2 h3 h4 =>
    rw [← List.append_assoc]
    exact .cons _ p R t ts (fun y hy => (List.mem_append.1 hy).elim (hb y) (hb' y)) h1 h2 h3 h4

theorem toks_pieces {s : List UInt8} {ts : List (STok × List UInt8)} (h : Toks s ts) : (ts.map (fun x => bareT x.1)).flatMap pieceB = ts.map (·.2) ∧ ∀ x ∈ ts, x.1.k = 3 → 0 ≤ x.1.num ∧ x.1.num < 18446744073709551616 := by
  induction h with
  | nil => simp
  | cons b p R t ts hb hp hh hn _ ih =>
    obtain ⟨h1, h2⟩ := piece_of_next hp hn
    rw [pieceOf_bare] at h1
    refine ⟨by simp only [List.map_cons, List.flatMap_cons, h1, ih.1]; rfl, fun x hx => ?_⟩
    rcases List.mem_cons.1 hx with rfl | hx
    · exact h2
    · exact ih.2 x hx

theorem toks_join {s : List UInt8} {ts : List (STok × List UInt8)} (h : Toks s ts) : Toks (Lib.join (ts.map (·.2)) [32]) ts := by
  induction h with
  | nil => exact .nil [] (by simp)
  | cons b p R t ts hb hp hh hn hR ih =>
    cases ts with
    | nil =>
      have e : Lib.join (([(t, p)] : List (STok × List UInt8)).map (·.2)) [32] = [] ++ (p ++ []) := by simp [Lib.join_one]
      rw [e]
      exact .cons [] p [] t [] (by simp) hp hh (next_cut hn (Nat.le_refl _) (by intro y hy; simp at hy)) (.nil [] (by simp))
    | cons x ts =>
      have e : Lib.join (((t, p) :: x :: ts).map (·.2)) [32] = [] ++ (p ++ ([32] ++ Lib.join ((x :: ts).map (·.2)) [32])) := by simp [Lib.join_cons, Lib.joinTail]
      rw [e]
      refine .cons [] p _ t _ (by simp) hp hh (next_cut hn (Nat.le_refl _) ?_) (toks_blank ih ?_)
      · intro y hy
        simp at hy
        subst hy
        decide
      · intro y hy
        simp at hy
        subst hy
        decide

/-- What was cut, joined, and cut again has the same tokens, but for their places. -/
theorem again_law {s : List UInt8} {l : List STok} (h : Lx.cut s = .ok l) (hl : (joinS l).length ≤ 16384) : ∃ m, Lx.cut (joinS l) = .ok m ∧ BareEq l m ∧ joinS m = joinS l := by
  unfold Lx.cut at h
  split at h
  · cases h
  · obtain ⟨ts, h1, h2⟩ := toks_of_scan _ s 0 l (by omega) h
    have hp := (toks_pieces h1).1
    have hj : joinS l = Lib.join (ts.map (·.2)) [32] := by
      rw [joinS, pieces_bare, h2, List.flatMap_append, hp]
      simp [pieceB]
    have h3 := toks_join h1
    rw [← hj] at h3
    obtain ⟨m, h4, h5⟩ := scan_of_toks h3 ((joinS l).length + 1) 0 (by omega)
    refine ⟨m, ?_, ?_, joinS_bare (h5.trans h2.symm)⟩
    · unfold Lx.cut
      rw [if_neg (by omega), h4]
    · exact h2.trans h5.symm

theorem toks_size {s : List UInt8} {ts : List (STok × List UInt8)} (h : Toks s ts) : ts.length ≤ s.length ∧ (Lib.join (ts.map (·.2)) [32]).length ≤ 2 * s.length := by
  induction h with
  | nil => simp [Lib.join]
  | cons b p R t ts hb hp hh hn hR ih =>
    have hp1 : 1 ≤ p.length := List.length_pos_iff.2 hp
    refine ⟨by simp; omega, ?_⟩
    cases ts with
    | nil =>
      have e : Lib.join (([(t, p)] : List (STok × List UInt8)).map (·.2)) [32] = p := by simp [Lib.join_one]
      rw [e]
      simp
      omega
    | cons x ts =>
      have e : Lib.join (((t, p) :: x :: ts).map (·.2)) [32] = p ++ ([32] ++ Lib.join ((x :: ts).map (·.2)) [32]) := by simp [Lib.join_cons, Lib.joinTail]
      rw [e]
      have := ih.2
      simp at this ⊢
      omega

/-- What is needed to join what was cut. -/
theorem cut_facts {s : List UInt8} {l : List STok} (h : Lx.cut s = .ok l) : s.length ≤ 16384 ∧ l.length ≤ s.length + 1 ∧ (∀ t ∈ l, t.k = 3 → 0 ≤ t.num ∧ t.num < 18446744073709551616) ∧ (joinS l).length ≤ 2 * s.length := by
  unfold Lx.cut at h
  split at h
  · cases h
  · rename_i hs
    obtain ⟨ts, h1, h2⟩ := toks_of_scan _ s 0 l (by omega) h
    obtain ⟨hp, hn⟩ := toks_pieces h1
    obtain ⟨z1, z2⟩ := toks_size h1
    have hlen := congrArg List.length h2
    simp only [List.length_map, List.length_append, List.length_cons, List.length_nil] at hlen
    have hj : joinS l = Lib.join (ts.map (·.2)) [32] := by
      rw [joinS, pieces_bare, h2, List.flatMap_append, hp]
      simp [pieceB]
    refine ⟨by omega, by omega, fun t ht hk => ?_, by rw [hj]; exact z2⟩
    have hm : bareT t ∈ ts.map (fun x => bareT x.1) ++ [(5, [], 0)] := by rw [← h2]; exact List.mem_map_of_mem ht
    rcases List.mem_append.1 hm with hm | hm
    · obtain ⟨x, hx, he⟩ := List.mem_map.1 hm
      simp only [bareT, Prod.mk.injEq] at he
      have := hn x hx (by rw [he.1]; exact hk)
      rw [he.2.2] at this
      exact this
    · simp only [List.mem_singleton, bareT, Prod.mk.injEq] at hm
      omega
end Go.Proofs.YtkflcmengddijaaGreatDoor
