/-
  Plain laws of cutting: what is spelled by pieces with blanks between them.
-/
import Derived.Test.YtkflcmengddijaaGreatDoorLexP
import Derived.Lib.ItoaNum
import Derived.Lib.ParseIntBCases
namespace Go.Proofs.YtkflcmengddijaaGreatDoor.Lx
set_option linter.unusedVariables false
set_option linter.unusedSimpArgs false

theorem takeWhile_of_cut {p : UInt8 → Bool} : ∀ {c R R' : List UInt8}, ((c ++ R).takeWhile p).length ≤ c.length → (∀ x, R'.head? = some x → p x = false) → (c ++ R').takeWhile p = (c ++ R).takeWhile p
  | [], R, R', h, hR => by
    have h1 : R.takeWhile p = [] := List.eq_nil_of_length_eq_zero (by simpa using h)
    simp only [List.nil_append]
    rw [h1]
    cases R' with
    | nil => rfl
    | cons x r => rw [List.takeWhile_cons, hR x rfl]; rfl
  | x :: c, R, R', h, hR => by
    simp only [List.cons_append, List.takeWhile_cons] at h ⊢
    cases hx : p x with
    | true =>
      rw [hx] at h
      simp only [if_true, List.length_cons] at h ⊢
      rw [takeWhile_of_cut (R := R) (R' := R') (by omega) hR]
    | false => simp

theorem prefix_of_cut {x c R : List UInt8} (h : x <+: c ++ R) (hl : x.length ≤ c.length) : x <+: c := by
  exact List.prefix_of_prefix_length_le h (List.prefix_append c R) hl
theorem signs_clean : ∀ x ∈ signs, x ≠ [] ∧ ∀ y ∈ x, isBlank y = false := by decide +kernel
/-- A sign that stands ahead of a blank stands within what is ahead of it. -/
theorem sign_within {x c R : List UInt8} (hx : x ∈ signs) (h : x <+: c ++ R) (hR : ∀ y, R.head? = some y → isBlank y = true) : x <+: c := by
  by_cases hl : x.length ≤ c.length
  · exact prefix_of_cut h hl
  · exfalso
    obtain ⟨z, hz⟩ := h
    cases R with
    | nil =>
      have := congrArg List.length hz
      simp at this
      omega
    | cons y r =>
      have hy := hR y rfl
      have h1 : (x ++ z)[c.length]? = some y := by rw [hz, List.getElem?_append_right (Nat.le_refl _)]; simp
      rw [List.getElem?_append_left (by omega)] at h1
      have := (signs_clean x hx).2 y (List.mem_of_getElem? h1)
      rw [this] at hy
      cases hy

def Blank0 (R : List UInt8) : Prop := ∀ y, R.head? = some y → isBlank y = true
theorem blank_digit {y : UInt8} (h : isBlank y = true) : isDigit y = false := by
  simp [isBlank, isDigit] at h ⊢; omega
theorem blank_part {y : UInt8} (h : isBlank y = true) : isPart y = false := by
  simp [isBlank, isDigit, isLetter, isPart] at h ⊢; omega

theorem signOf_cut {c R R' : List UInt8} (h1 : signOf (c ++ R) ≠ []) (h2 : (signOf (c ++ R)).length ≤ c.length) (hR : Blank0 R') : signOf (c ++ R') = signOf (c ++ R) := by
  unfold signOf at *
  cases hf : signs.find? fun x => x.isPrefixOf (c ++ R) with
  | none => simp [hf] at h1
  | some x =>
    rw [hf] at h2
    simp only [Option.getD_some] at h2 ⊢
    rw [List.find?_eq_some_iff_append] at hf
    obtain ⟨hx, as, bs, hs, has⟩ := hf
    have hxm : x ∈ signs := by rw [hs]; simp
    have hxc : x <+: c := prefix_of_cut (List.isPrefixOf_iff_prefix.1 hx) h2
    have : signs.find? (fun x => x.isPrefixOf (c ++ R')) = some x := by
      rw [List.find?_eq_some_iff_append]
      refine ⟨List.isPrefixOf_iff_prefix.2 (hxc.trans (List.prefix_append _ _)), as, bs, hs, fun a ha => ?_⟩
      have h3 := has a ha
      have ham : a ∈ signs := by rw [hs]; simp [ha]
      cases hq : a.isPrefixOf (c ++ R') with
      | false => rfl
      | true =>
        have h4 := sign_within ham (List.isPrefixOf_iff_prefix.1 hq) hR
        have h5 : a.isPrefixOf (c ++ R) = true := List.isPrefixOf_iff_prefix.2 (h4.trans (List.prefix_append _ _))
        simp [h5] at h3
    rw [this]; rfl

/-- The token with which a text begins is the same where a blank follows. -/
theorem next_cut {c R R' : List UInt8} {t : STok} {n : Nat} (h : Lx.next (c ++ R) = .ok (t, n)) (hn : n ≤ c.length) (hR : Blank0 R') : Lx.next (c ++ R') = .ok (t, n) := by
  have hd : ∀ x, R'.head? = some x → isDigit x = false := fun x hx => blank_digit (hR x hx)
  have hp : ∀ x, R'.head? = some x → isPart x = false := fun x hx => blank_part (hR x hx)
  unfold Lx.next at h ⊢
  simp only [] at h ⊢
  by_cases h1 : (c ++ R).takeWhile isDigit ≠ []
  · rw [if_pos h1] at h
    cases hu : numOf ((c ++ R).takeWhile isDigit) with
    | none => rw [hu] at h; cases h
    | some u =>
      rw [hu] at h
      simp only [Except.ok.injEq, Prod.mk.injEq] at h
      rw [takeWhile_of_cut (R := R) (R' := R') (by omega) hd, if_pos h1, hu]
      simp only [h]
  · rw [if_neg h1] at h
    have h1' : (c ++ R).takeWhile isDigit = [] := by simpa using h1
    rw [takeWhile_of_cut (R := R) (R' := R') (by rw [h1']; simp) hd, if_neg h1]
    by_cases h2 : (c ++ R).takeWhile isPart ≠ []
    · rw [if_pos h2] at h
      split at h
      · cases h
      · rename_i h3
        have hlen : ((c ++ R).takeWhile isPart).length = n := by split at h <;> (simp only [Except.ok.injEq, Prod.mk.injEq] at h; exact h.2)
        rw [takeWhile_of_cut (R := R) (R' := R') (by omega) hp, if_pos h2, if_neg h3]
        exact h
    · rw [if_neg h2] at h
      have h2' : (c ++ R).takeWhile isPart = [] := by simpa using h2
      rw [takeWhile_of_cut (R := R) (R' := R') (by rw [h2']; simp) hp, if_neg h2]
      split at h
      · cases h
      · rename_i h3
        simp only [Except.ok.injEq, Prod.mk.injEq] at h
        rw [signOf_cut h3 (by omega) hR, if_neg h3]
        simp only [h]

theorem next_len {s : List UInt8} {t : STok} {n : Nat} (h : Lx.next s = .ok (t, n)) : 1 ≤ n ∧ n ≤ s.length := by
  have tk : ∀ p : UInt8 → Bool, (s.takeWhile p).length ≤ s.length := fun p => (List.takeWhile_prefix p).length_le
  have ps : ∀ l : List UInt8, l ≠ [] → 1 ≤ l.length := fun l hl => List.length_pos_iff.2 hl
  unfold Lx.next at h
  simp only [] at h
  split at h
  · rename_i h1
    split at h
    · injection h with h; injection h with _ h; subst h
      exact ⟨ps _ h1, tk _⟩
    · cases h
  · split at h
    · rename_i h1
      split at h
      · cases h
      · split at h
        · injection h with h; injection h with _ h; subst h
          exact ⟨ps _ h1, tk _⟩
        · injection h with h; injection h with _ h; subst h
          exact ⟨ps _ h1, tk _⟩
    · split at h
      · cases h
      · rename_i h1
        injection h with h; injection h with _ h; subst h
        refine ⟨ps _ h1, ?_⟩
        unfold signOf at h1 ⊢
        cases hf : signs.find? fun x => x.isPrefixOf s with
        | none => simp [hf] at h1
        | some x =>
          have := List.find?_some hf
          simp only [Option.getD_some]
          exact (List.isPrefixOf_iff_prefix.1 this).length_le

/-! ### What is spelled -/
/-- A text is spelled by pieces, each the beginning of a token there, with blanks ahead of them and behind. -/
inductive Toks : List UInt8 → List (STok × List UInt8) → Prop
  | nil (b : List UInt8) : (∀ y ∈ b, isBlank y = true) → Toks b []
  | cons (b p R : List UInt8) (t : STok) (ts : List (STok × List UInt8)) : (∀ y ∈ b, isBlank y = true) → p ≠ [] → (∀ y, p.head? = some y → isBlank y = false) → Lx.next (p ++ R) = .ok (t, p.length) → Toks R ts → Toks (b ++ (p ++ R)) ((t, p) :: ts)

theorem takeWhile_all {p : UInt8 → Bool} : ∀ {b R : List UInt8}, (∀ y ∈ b, p y = true) → (∀ y, R.head? = some y → p y = false) → (b ++ R).takeWhile p = b
  | [], [], _, _ => rfl
  | [], y :: R, _, h => by rw [List.nil_append, List.takeWhile_cons, h y rfl]; rfl
  | x :: b, R, hb, h => by
    rw [List.cons_append, List.takeWhile_cons, hb x (by simp), if_pos rfl, takeWhile_all (fun y hy => hb y (by simp [hy])) h]
theorem mem_tw {p : UInt8 → Bool} : ∀ (s : List UInt8), ∀ y ∈ s.takeWhile p, p y = true
  | [], y, hy => by cases hy
  | x :: s, y, hy => by
    rw [List.takeWhile_cons] at hy
    split at hy
    · rename_i hx
      rcases List.mem_cons.1 hy with rfl | h
      · exact hx
      · exact mem_tw s y h
    · cases hy
theorem dropWhile_split (p : UInt8 → Bool) (s : List UInt8) : s = s.takeWhile p ++ s.drop (s.takeWhile p).length ∧ ∀ y, (s.drop (s.takeWhile p).length).head? = some y → p y = false := by
  induction s with
  | nil => simp
  | cons x r ih =>
    rw [List.takeWhile_cons]
    cases hx : p x with
    | true =>
      simp only [if_true, List.length_cons, List.drop_succ_cons, List.cons_append]
      exact ⟨by rw [← ih.1], ih.2⟩
    | false => simp [hx]

def bareT (t : STok) : Int × List UInt8 × Int := (t.k, t.text, t.num)

/-- What is cut is spelled so. -/
theorem toks_of_scan : ∀ (F : Nat) (s : List UInt8) (k : Nat) (l : List STok), s.length < F → Lx.scan F s k = .ok l → ∃ ts, Toks s ts ∧ l.map bareT = ts.map (fun x => bareT x.1) ++ [(5, [], 0)]
  | 0, s, k, l, hF, h => absurd hF (by omega)
  | F + 1, s, k, l, hF, h => by
    obtain ⟨hs, hb⟩ := dropWhile_split isBlank s
    have hbl : ∀ y ∈ s.takeWhile isBlank, isBlank y = true := mem_tw s
    simp only [Lx.scan] at h
    generalize s.takeWhile isBlank = b at *
    generalize hr : s.drop b.length = r at *
    split at h
    · rename_i h1
      subst h1
      injection h with h
      subst h
      refine ⟨[], ?_, rfl⟩
      rw [hs, List.append_nil]
      exact .nil b hbl
    · rename_i h1
      cases hn : Lx.next r with
      | error e => rw [hn] at h; cases h
      | ok x =>
        obtain ⟨t, n⟩ := x
        rw [hn] at h
        simp only [] at h
        cases hsc : Lx.scan F (r.drop n) (k + b.length + n) with
        | error e => rw [hsc] at h; cases h
        | ok l' =>
          rw [hsc] at h
          injection h with h
          subst h
          have hn1 := next_len hn
          have hrl : r.length ≤ s.length := by rw [hs]; simp
          obtain ⟨ts, h2, h3⟩ := toks_of_scan F (r.drop n) _ l' (by rw [List.length_drop]; omega) hsc
          refine ⟨(t, r.take n) :: ts, ?_, ?_⟩
          · rw [hs]
            have hr2 : r = r.take n ++ r.drop n := (List.take_append_drop n r).symm
            have hc := fun a1 a2 a3 => Toks.cons b (r.take n) (r.drop n) t ts hbl a1 a2 a3 h2
            rw [← hr2] at hc
            refine hc ?_ ?_ ?_
            · intro h0
              have := congrArg List.length h0
              simp at this
              rcases this with h4 | h4
              · omega
              · exact h1 h4
            · intro y hy
              apply hb y
              cases r with
              | nil => exact absurd rfl h1
              | cons z r' =>
                obtain ⟨m, rfl⟩ : ∃ m, n = m + 1 := ⟨n - 1, by omega⟩
                simpa using hy
            · rw [hn, List.length_take, Nat.min_eq_left hn1.2]
          · simp only [List.map_cons, List.cons_append, h3]
            rfl

/-- What is spelled so is cut so. -/
theorem scan_of_toks {s : List UInt8} {ts : List (STok × List UInt8)} (h : Toks s ts) : ∀ (F k : Nat), s.length < F → ∃ l, Lx.scan F s k = .ok l ∧ l.map bareT = ts.map (fun x => bareT x.1) ++ [(5, [], 0)] := by
  induction h with
  | nil b hb =>
    intro F k hF
    obtain ⟨F, rfl⟩ : ∃ m, F = m + 1 := ⟨F - 1, by omega⟩
    have h1 : b.takeWhile isBlank = b := by have := takeWhile_all (p := isBlank) (b := b) (R := []) hb (by simp); simpa using this
    refine ⟨[⟨5, [], 0, ((k + b.length : Nat) : Int)⟩], ?_, rfl⟩
    simp only [Lx.scan, h1, List.drop_length, if_true]
  | cons b p R t ts hb hp hh hn _ ih =>
    intro F k hF
    obtain ⟨F, rfl⟩ : ∃ m, F = m + 1 := ⟨F - 1, by omega⟩
    have hh' : ∀ y, (p ++ R).head? = some y → isBlank y = false := by
      intro y hy
      cases p with
      | nil => exact absurd rfl hp
      | cons z p' => exact hh y (by simpa using hy)
    have h1 : (b ++ (p ++ R)).takeWhile isBlank = b := takeWhile_all hb hh'
    have hp1 : 1 ≤ p.length := List.length_pos_iff.2 hp
    obtain ⟨l, h2, h3⟩ := ih F (k + b.length + p.length) (by simp at hF; omega)
    refine ⟨{ t with at' := ((k + b.length : Nat) : Int) } :: l, ?_, ?_⟩
    · have hne : p ++ R ≠ [] := by simp [hp]
      simp only [Lx.scan, h1, List.drop_left, if_neg hne, hn, h2]
      rfl
    · simp only [List.map_cons, h3, List.cons_append]
      rfl

/-! ### Numbers are spelled in one way -/
theorem dec_snoc (a d : Nat) (ha : 0 < a) (hd : d < 10) : Lib.decDigits (a * 10 + d) = Lib.decDigits a ++ [UInt8.ofNat (48 + d)] := by
  rw [Lib.decDigits, dif_neg (by omega)]
  have h1 : (a * 10 + d) / 10 = a := by omega
  have h2 : (a * 10 + d) % 10 = d := by omega
  rw [h1, h2]
theorem digit_back {c : UInt8} (h1 : 48 ≤ c.toNat) (h2 : c.toNat ≤ 57) : UInt8.ofNat (48 + (c.toNat - 48)) = c := by
  rw [show 48 + (c.toNat - 48) = c.toNat by omega]
  exact UInt8.ofNat_toNat
theorem dec_parse (M : Nat) : ∀ (l : List UInt8) (acc u : Nat), 0 < acc → Lib.parseUintM M acc l = .ok u → Lib.decDigits u = Lib.decDigits acc ++ l
  | [], acc, u, _, h => by
    simp only [Lib.parseUintM] at h
    injection h with h
    subst h
    simp
  | c :: r, acc, u, ha, h => by
    simp only [Lib.parseUintM] at h
    split at h
    · rename_i hc
      split at h
      · cases h
      · split at h
        · cases h
        · have ih := dec_parse M r _ u (by omega) h
          rw [ih, dec_snoc acc _ ha (by omega), digit_back hc.1 hc.2]
          simp
    · cases h
theorem numOf_dec {p : List UInt8} {u : Nat} (h : numOf p = some u) : Lib.decDigits u = p ∧ u < 18446744073709551616 := by
  unfold numOf at h
  cases hp : Lib.parseUintB 64 p with
  | ok v =>
    rw [hp] at h
    simp only [] at h
    split at h
    · cases h
    · rename_i hz
      injection h with h
      subst h
      unfold Lib.parseUintB at hp
      split at hp
      · cases hp
      · rename_i hne
        refine ⟨?_, ?_⟩
        · cases p with
          | nil => exact absurd rfl hne
          | cons c r =>
            simp only [Lib.parseUintM] at hp
            split at hp
            · rename_i hc
              rw [if_neg (by omega)] at hp
              split at hp
              · cases hp
              · simp only [Nat.zero_mul, Nat.zero_add] at hp
                by_cases hc0 : c.toNat = 48
                · have hce : c = 48 := UInt8.toNat_inj.1 hc0
                  subst hce
                  have hr : r = [] := by
                    cases r with
                    | nil => rfl
                    | cons d r' => exact absurd ⟨rfl, by simp⟩ hz
                  subst hr
                  simp only [Lib.parseUintM] at hp
                  injection hp with hp
                  subst hp
                  rw [Lib.decDigits_one (by decide)]
                  rfl
                · have h1 := dec_parse _ r _ v (by omega) hp
                  rw [h1, Lib.decDigits_one (by omega), digit_back hc.1 hc.2]
                  rfl
            · cases hp
        · have := Lib.parseUintM_le _ p 0 v (by omega) hp
          omega
  | _ => rw [hp] at h; cases h
end Go.Proofs.YtkflcmengddijaaGreatDoor.Lx
