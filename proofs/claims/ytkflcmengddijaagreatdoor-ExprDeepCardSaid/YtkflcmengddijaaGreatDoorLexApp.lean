/-
  append of one token to what a call owns; tokens as they lie; the plain side of a scan.
-/
import Derived.Test.YtkflcmengddijaaGreatDoorLex4
import Derived.Laws.OwnMore
namespace Go.Proofs.YtkflcmengddijaaGreatDoor
open Go.RowKit Lx
set_option linter.unusedVariables false
set_option linter.unusedSimpArgs false

def tokCells (t : STok) : List Value := [.int .u8 t.k, .string ⟨t.text.toArray⟩, .int .u64 t.num, .int .i64 t.at']
def kTok : Kd STok := Kd.flat 4 tokCells (fun _ => rfl)
def cellsOf (ts : List STok) : List Value := ts.flatMap tokCells
theorem cellsOf_length (ts : List STok) : (cellsOf ts).length = ts.length * 4 := by
  induction ts with
  | nil => rfl
  | cons t r ih =>
    have : cellsOf (t :: r) = tokCells t ++ cellsOf r := rfl
    rw [this, List.length_append, ih]
    simp [tokCells]
    omega
theorem cellsOf_snoc (ts : List STok) (t : STok) : cellsOf (ts ++ [t]) = cellsOf ts ++ tokCells t := by simp [cellsOf]
theorem cellsOf_get : ∀ (ts : List STok) (i : Nat) (hi : i < ts.length) (j : Nat) (hj : j < 4), (cellsOf ts)[i * 4 + j]? = (tokCells ts[i])[j]?
  | t :: r, 0, _, j, hj => by
    have : cellsOf (t :: r) = tokCells t ++ cellsOf r := rfl
    rw [this, Nat.zero_mul, Nat.zero_add, List.getElem?_append_left (by simpa [tokCells] using hj)]
    rfl
  | t :: r, i + 1, hi, j, hj => by
    have : cellsOf (t :: r) = tokCells t ++ cellsOf r := rfl
    rw [this, List.getElem?_append_right (by simp [tokCells]; omega)]
    have e : (i + 1) * 4 + j - (tokCells t).length = i * 4 + j := by simp [tokCells]; omega
    rw [e, cellsOf_get r i (by simpa using hi) j hj]
    rfl
theorem infoTok : (Tryz.prog.info? 50).map (fun i => (i.zero, i.size, i.bytes)) = some (some (.agg #[.int .u8 0, .string ⟨#[]⟩, .int .u64 0, .int .i64 0]), 4, 40) := by kernel_rfl

/-- out = append(out, t). -/
theorem wpList_append_tok {ops : Array Oper} {rest : List Oper} {o : Oper} {a : Act} {Q : Exit → Act → World → Prop} {w : World} (hgd : o.guard = none) (s x : Operand)
    (ho : o.op = .call { callee := .builtin .append, args := #[s, x], argTypes := #[23, 23] }) (base : Nat) (v : Value) (n : Nat) (xs : List Value) (hs : a.eval s = v) (hown : w.ownsRow base 50 4 v n xs)
    (k : Nat) (c0 c1 c2 c3 : Value) (h1 : c0.oneCell' = true ∧ c1.oneCell' = true ∧ c2.oneCell' = true ∧ c3.oneCell' = true) (hx : a.eval x = .slice (some ⟨k, 0, none⟩) 1 1) (hc : Bk w k #[c0, c1, c2, c3] 50) (hn : n ≤ 1000000000) (hb : base ≤ w.heap.size)
    (h : ∀ v' w', w'.ownsRow base 50 4 v' (n + 1) (xs ++ [c0, c1, c2, c3]) → w.grownBy w' v.ownBlock → wpList Tryz.prog ops Q rest (a.put o.dst v') w') : wpList Tryz.prog ops Q (o :: rest) a w := by
  obtain ⟨i0, hi, hz0, hz1, hz2⟩ := info_parts infoTok
  refine wpList_append_own w hgd s x _ ho base 50 i0 (.agg #[.int .u8 0, .string ⟨#[]⟩, .int .u64 0, .int .i64 0]) 4 40 Tryz.underlying23 hi hz0 hz1 hz2 rfl (by decide) v n xs hs hown ⟨k, 0, none⟩ 1 1 [c0, c1, c2, c3] hx rfl (fun j u hu => ?_) ?_ (by unfold maxLen; omega) (by omega) hb (fun v' w' h1 h2 _ => h v' w' h1 h2)
  · have hj : j < 4 := by
      have := (List.getElem?_eq_some_iff.1 hu).1
      simpa using this
    have := hc.cell j
    rw [show ((⟨k, 0, none⟩ : Addr).add j) = ⟨k, j, none⟩ by simp only [Addr.add]; split <;> simp_all, this]
    rw [← hu]
    simp
  · intro u hu
    obtain ⟨a1, a2, a3, a4⟩ := h1
    simp at hu
    rcases hu with rfl | rfl | rfl | rfl <;> assumption

theorem own_row {w : World} {B n : Nat} {v : Value} {ts : List STok} (h : w.ownsRow B 50 4 v n (cellsOf ts)) (hn : n = ts.length) : ∃ a c, v = .slice a ts.length c ∧ kTok.Row w a ts := by
  rcases h.2 with ⟨rfl, h0⟩ | ⟨g, cap, cur, rfl, _⟩
  · subst h0
    have : ts = [] := List.eq_nil_of_length_eq_zero hn.symm
    subst this
    exact ⟨none, 0, rfl, .inl rfl⟩
  · subst hn
    refine ⟨some ⟨g, 0, none⟩, cap, rfl, .inr ⟨g, 0, rfl, fun i hi => ⟨tokCells ts[i], rfl, fun j hj => ?_⟩⟩⟩
    have hj4 : j < 4 := by simpa [tokCells] using hj
    have hc := World.ownsRow.cellAt h (i * 4 + j) (by omega)
    rw [cellsOf_get ts i hi j hj4] at hc
    show w.cell? ⟨g, 0 + i * 4 + j, none⟩ = _
    rw [Nat.zero_add, hc, List.getElem?_eq_getElem hj]

/-! ### The plain side -/
theorem next_pos {s : List UInt8} {t : STok} {n : Nat} (h : Lx.next s = .ok (t, n)) : 1 ≤ n ∧ n ≤ s.length := by
  have tk : ∀ p : UInt8 → Bool, (s.takeWhile p).length ≤ s.length := fun p => (List.takeWhile_prefix p).length_le
  have ps : ∀ l : List UInt8, l ≠ [] → 1 ≤ l.length := fun l hl => List.length_pos_iff.2 hl
  unfold Lx.next at h
  simp only [] at h
  split at h
  · rename_i h1
    split at h
    · injection h with h; injection h with _ h; subst h
      exact ⟨ps _ h1, tk _⟩
    · cases h
  · split at h
    · rename_i h1
      split at h
      · cases h
      · split at h
        · injection h with h; injection h with _ h; subst h
          exact ⟨ps _ h1, tk _⟩
        · injection h with h; injection h with _ h; subst h
          exact ⟨ps _ h1, tk _⟩
    · split at h
      · cases h
      · rename_i h1
        injection h with h; injection h with _ h; subst h
        refine ⟨ps _ h1, ?_⟩
        unfold signOf at h1 ⊢
        cases hf : signs.find? fun x => x.isPrefixOf s with
        | none => simp [hf] at h1
        | some x =>
          have := List.find?_some hf
          simp only [Option.getD_some]
          exact (List.isPrefixOf_iff_prefix.1 this).length_le
end Go.Proofs.YtkflcmengddijaaGreatDoor
