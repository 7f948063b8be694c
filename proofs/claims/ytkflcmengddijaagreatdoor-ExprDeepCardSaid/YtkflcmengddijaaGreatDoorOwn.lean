/-
  Rows of the call's own, of data that lead elsewhere.
-/
import Derived.Test.YtkflcmengddijaaGreatDoorLexApp
namespace Go.Proofs.YtkflcmengddijaaGreatDoor
open Go.RowKit
set_option linter.unusedVariables false
set_option linter.unusedSimpArgs false

/-- A datum lies as k says, in whatever later world the blocks of F are as they are. -/
def Kd.Foot {α : Type} (k : Kd α) (F : Nat → Prop) (w : World) (x : α) (cs : List Value) : Prop :=
  ∀ w' : World, w.heap.size ≤ w'.heap.size → (∀ n, F n → n < w.heap.size → w'.heap[n]? = w.heap[n]?) → k.K w' x cs
theorem Kd.Foot.here {α : Type} {k : Kd α} {F : Nat → Prop} {w : World} {x : α} {cs : List Value} (h : k.Foot F w x cs) : k.K w x cs := h w (Nat.le_refl _) fun _ _ _ => rfl
theorem Kd.Foot.weak {α : Type} {k : Kd α} {F G : Nat → Prop} {w : World} {x : α} {cs : List Value} (h : k.Foot F w x cs) (hFG : ∀ n, F n → n < w.heap.size → G n) : k.Foot G w x cs :=
  fun w' h1 h2 => h w' h1 fun n hn hl => h2 n (hFG n hn hl) hl
/-- .. seen from a later world. -/
theorem Kd.Foot.later {α : Type} {k : Kd α} {F : Nat → Prop} {w w1 : World} {x : α} {cs : List Value} (h : k.Foot F w x cs) (hs : w.heap.size ≤ w1.heap.size) (hb : ∀ n, F n → n < w.heap.size → w1.heap[n]? = w.heap[n]?) :
    k.Foot (fun n => F n ∧ n < w.heap.size) w1 x cs :=
  fun w' h1 h2 => h w' (Nat.le_trans hs h1) fun n hn hl => (h2 n ⟨hn, hl⟩ (Nat.lt_of_lt_of_le hl hs)).trans (hb n hn hl)

theorem flatten_len {α : Type} {s : Nat} : ∀ (css : List (List α)), (∀ cs ∈ css, cs.length = s) → css.flatten.length = css.length * s
  | [], _ => by simp
  | c :: r, h => by
    rw [List.flatten_cons, List.length_append, h c (by simp), flatten_len r (fun cs hc => h cs (by simp [hc])), List.length_cons, Nat.add_mul]
    omega
theorem flatten_get {α : Type} {s : Nat} : ∀ (css : List (List α)), (∀ cs ∈ css, cs.length = s) → ∀ (i : Nat) (hi : i < css.length) (j : Nat), j < s → css.flatten[i * s + j]? = css[i][j]?
  | c :: r, h, 0, _, j, hj => by
    rw [List.flatten_cons, Nat.zero_mul, Nat.zero_add, List.getElem?_append_left (by rw [h c (by simp)]; exact hj)]
    rfl
  | c :: r, h, i + 1, hi, j, hj => by
    have hc := h c (by simp)
    rw [List.flatten_cons, List.getElem?_append_right (by rw [hc, Nat.add_mul]; omega)]
    have e : (i + 1) * s + j - c.length = i * s + j := by rw [hc, Nat.add_mul]; omega
    rw [e, flatten_get r (fun cs hcs => h cs (by simp [hcs])) i (by simpa using hi) j hj]
    rfl

/-- v owns a row of xs, whose elements lead into F. -/
def Kd.Own {α : Type} (k : Kd α) (e : TypeId) (F : Nat → Prop) (w : World) (base : Nat) (v : Value) (xs : List α) : Prop :=
  ∃ css : List (List Value), css.length = xs.length ∧ (∀ i (h : i < xs.length) (h' : i < css.length), k.Foot F w xs[i] css[i]) ∧ w.ownsRow base e k.sz v xs.length css.flatten
theorem Kd.Own.nil {α : Type} (k : Kd α) (e : TypeId) (F : Nat → Prop) (w : World) (base : Nat) : k.Own e F w base (.slice none 0 0) [] :=
  ⟨[], rfl, fun i h => absurd h (by simp), World.ownsRow_nil ..⟩
/-- The row, read. -/
theorem Kd.Own.row {α : Type} {k : Kd α} {e : TypeId} {F : Nat → Prop} {w : World} {base : Nat} {v : Value} {xs : List α} (h : k.Own e F w base v xs) : ∃ a c, v = .slice a xs.length c ∧ k.Row w a xs := by
  obtain ⟨css, hl, hk, hown⟩ := h
  have hlen : ∀ cs ∈ css, cs.length = k.sz := fun cs hc => by
    obtain ⟨i, hi, rfl⟩ := List.getElem_of_mem hc
    exact k.len (hk i (by omega) hi).here
  rcases hown.2 with ⟨rfl, h0⟩ | ⟨g, cap, cur, rfl, _⟩
  · have : xs = [] := List.eq_nil_of_length_eq_zero h0
    subst this
    exact ⟨none, 0, rfl, .inl rfl⟩
  · refine ⟨some ⟨g, 0, none⟩, cap, rfl, .inr ⟨g, 0, rfl, fun i hi => ⟨css[i]'(by omega), (hk i hi (by omega)).here, fun j hj => ?_⟩⟩⟩
    have hjs : j < k.sz := by rw [← hlen _ (List.getElem_mem (by omega : i < css.length))]; exact hj
    have hlt : i * k.sz + j < xs.length * k.sz := by
      have : (i + 1) * k.sz ≤ xs.length * k.sz := Nat.mul_le_mul_right _ hi
      rw [Nat.add_mul] at this
      omega
    have hc := World.ownsRow.cellAt hown (i * k.sz + j) hlt
    rw [flatten_get css hlen i (by omega) j hjs] at hc
    show w.cell? ⟨g, 0 + i * k.sz + j, none⟩ = _
    rw [Nat.zero_add, hc, List.getElem?_eq_getElem hj]
/-- The row and what it leads to stay while their blocks do. -/
theorem Kd.Own.row_foot {α : Type} {k : Kd α} {e : TypeId} {F : Nat → Prop} {w w' : World} {base : Nat} {v : Value} {xs : List α} (h : k.Own e F w base v xs) (hs : w.heap.size ≤ w'.heap.size)
    (hb : ∀ n, (F n ∨ v.ownBlock = some n) → n < w.heap.size → w'.heap[n]? = w.heap[n]?) : ∃ a c, v = .slice a xs.length c ∧ k.Row w' a xs := by
  obtain ⟨css, hl, hk, hown⟩ := h
  have hown' : w'.ownsRow base e k.sz v xs.length css.flatten := by
    refine ⟨hown.1, ?_⟩
    rcases hown.2 with h0 | ⟨g, cap, cur, rfl, h1, h2, h3⟩
    · exact .inl h0
    · exact .inr ⟨g, cap, cur, rfl, h1, (hb g (.inr rfl) (Array.getElem?_eq_some_iff.1 h2).1).trans h2, h3⟩
  exact Kd.Own.row (F := fun n => F n ∧ n < w.heap.size) ⟨css, hl, fun i hi hi' => (hk i hi hi').later hs fun n hn hl => hb n (.inl hn) hl, hown'⟩
theorem Kd.Own.later {α : Type} {k : Kd α} {e : TypeId} {F : Nat → Prop} {w w' : World} {base : Nat} {v : Value} {xs : List α} (h : k.Own e F w base v xs) (hb : Below w.heap.size w w') : k.Own e (fun n => F n ∧ n < w.heap.size) w' base v xs := by
  obtain ⟨css, hl, hk, hown⟩ := h
  exact ⟨css, hl, fun i hi hi' => (hk i hi hi').later hb.size fun n _ hl => hb.block n hl, own_below hown hb⟩
theorem Kd.Own.weak {α : Type} {k : Kd α} {e : TypeId} {F G : Nat → Prop} {w : World} {base : Nat} {v : Value} {xs : List α} (h : k.Own e F w base v xs) (hFG : ∀ n, F n → n < w.heap.size → G n) : k.Own e G w base v xs := by
  obtain ⟨css, hl, hk, hown⟩ := h
  exact ⟨css, hl, fun i hi hi' => (hk i hi hi').weak hFG, hown⟩
/-- One more. -/
theorem Kd.Own.snoc {α : Type} {k : Kd α} {e : TypeId} {F : Nat → Prop} {w w' : World} {base : Nat} {v v' : Value} {xs : List α} {x : α} {cs : List Value} {css : List (List Value)} (hl : css.length = xs.length) (hk : ∀ i (h : i < xs.length) (h' : i < css.length), k.Foot F w xs[i] css[i])
    (hx : k.Foot F w x cs) (hs : w.heap.size ≤ w'.heap.size) (hb : ∀ n, F n → n < w.heap.size → w'.heap[n]? = w.heap[n]?) (hown : w'.ownsRow base e k.sz v' (xs.length + 1) (css.flatten ++ cs)) : k.Own e (fun n => F n ∧ n < w.heap.size) w' base v' (xs ++ [x]) := by
  refine ⟨css ++ [cs], by simp [hl], fun i hi hi' => ?_, by simpa using hown⟩
  by_cases h : i < xs.length
  · rw [List.getElem_append_left h, List.getElem_append_left (by omega)]
    exact (hk i h (by omega)).later hs hb
  · have e1 : i = xs.length := by simp at hi; omega
    subst e1
    rw [List.getElem_append_right (by omega), List.getElem_append_right (by omega)]
    simp only [hl, Nat.sub_self, List.getElem_cons_zero]
    exact hx.later hs hb
/-- A row's cells, one behind the other. -/
theorem Kd.Row.css {α : Type} {k : Kd α} (hsz : 0 < k.sz) {w : World} {b o : Nat} {xs : List α} (h : k.Row w (some ⟨b, o, none⟩) xs) : ∃ css : List (List Value), css.length = xs.length ∧ (∀ i (hi : i < xs.length) (hi' : i < css.length), k.K w xs[i] css[i]) ∧
    css.flatten.length = xs.length * k.sz ∧ ∀ j u, css.flatten[j]? = some u → w.cell? ⟨b, o + j, none⟩ = some u := by
  have hex : ∀ i (hi : i < xs.length), ∃ cs, k.K w xs[i] cs ∧ ∀ j (hj : j < cs.length), w.cell? ⟨b, o + i * k.sz + j, none⟩ = some cs[j] := by
    intro i hi
    obtain ⟨b', o', cs, e, h1, h2⟩ := h.at i hi
    obtain ⟨rfl, rfl⟩ : b = b' ∧ o = o' := by injection e with e; injection e with e1 e2; exact ⟨e1, e2⟩
    exact ⟨cs, h1, h2⟩
  have : ∃ css : List (List Value), css.length = xs.length ∧ ∀ i (hi : i < xs.length) (hi' : i < css.length), k.K w xs[i] css[i] ∧ ∀ j (hj : j < css[i].length), w.cell? ⟨b, o + i * k.sz + j, none⟩ = some css[i][j] := by
    refine ⟨List.ofFn fun i : Fin xs.length => Classical.choose (hex i.1 i.2), by simp, fun i hi hi' => ?_⟩
    simp only [List.getElem_ofFn]
    exact Classical.choose_spec (hex i hi)
  obtain ⟨css, hl, hc⟩ := this
  have hlen : ∀ cs ∈ css, cs.length = k.sz := fun cs hcs => by
    obtain ⟨i, hi, rfl⟩ := List.getElem_of_mem hcs
    exact k.len (hc i (by omega) hi).1
  have hfl : css.flatten.length = xs.length * k.sz := by rw [flatten_len css hlen, hl]
  refine ⟨css, hl, fun i hi hi' => (hc i hi hi').1, hfl, fun j u hj => ?_⟩
  have hjl : j < xs.length * k.sz := by rw [← hfl]; exact (List.getElem?_eq_some_iff.1 hj).1
  have hd : j / k.sz < xs.length := Nat.div_lt_of_lt_mul (by rw [Nat.mul_comm]; exact hjl)
  have hm : j % k.sz < k.sz := Nat.mod_lt _ hsz
  have e : j / k.sz * k.sz + j % k.sz = j := by rw [Nat.mul_comm]; exact Nat.div_add_mod j k.sz
  have h1 := flatten_get css hlen (j / k.sz) (by omega) (j % k.sz) hm
  rw [e, hj] at h1
  have h2 := (hc (j / k.sz) hd (by omega)).2 (j % k.sz) (by rw [hlen _ (List.getElem_mem _)]; exact hm)
  rw [show o + j / k.sz * k.sz + j % k.sz = o + j by rw [Nat.add_assoc, e]] at h2
  rw [h2, h1, List.getElem?_eq_getElem]
/-- Several more. -/
theorem Kd.Own.append {α : Type} {k : Kd α} {e : TypeId} {F : Nat → Prop} {w w' : World} {base : Nat} {v v' : Value} {xs ys : List α} {css dss : List (List Value)} (hl : css.length = xs.length) (hk : ∀ i (h : i < xs.length) (h' : i < css.length), k.Foot F w xs[i] css[i])
    (hl2 : dss.length = ys.length) (hk2 : ∀ i (h : i < ys.length) (h' : i < dss.length), k.Foot F w ys[i] dss[i])
    (hs : w.heap.size ≤ w'.heap.size) (hb : ∀ n, F n → n < w.heap.size → w'.heap[n]? = w.heap[n]?) (hown : w'.ownsRow base e k.sz v' (xs.length + ys.length) (css.flatten ++ dss.flatten)) : k.Own e (fun n => F n ∧ n < w.heap.size) w' base v' (xs ++ ys) := by
  refine ⟨css ++ dss, by simp [hl, hl2], fun i hi hi' => ?_, by simpa using hown⟩
  by_cases h : i < xs.length
  · rw [List.getElem_append_left h, List.getElem_append_left (by omega)]
    exact (hk i h (by omega)).later hs hb
  · have hi2 : i - xs.length < ys.length := by rw [List.length_append] at hi; omega
    rw [List.getElem_append_right (by omega), List.getElem_append_right (by omega)]
    simp only [hl]
    exact (hk2 (i - xs.length) hi2 (by omega)).later hs hb

/-- v owns a row of xs, whose elements lead to what lay there at the beginning. -/
def Kd.Old {α : Type} (k : Kd α) (e : TypeId) (w0 w : World) (v : Value) (xs : List α) : Prop :=
  ∃ css : List (List Value), css.length = xs.length ∧ (∀ i (h : i < xs.length) (h' : i < css.length), k.K w0 xs[i] css[i]) ∧ w.ownsRow w0.heap.size e k.sz v xs.length css.flatten
theorem Kd.Old.nil {α : Type} (k : Kd α) (e : TypeId) (w0 w : World) : k.Old e w0 w (.slice none 0 0) [] := ⟨[], rfl, fun i h => absurd h (by simp), World.ownsRow_nil ..⟩
/-- An element's cells, where it was and where it is. -/
theorem Kd.Old.at {α : Type} {k : Kd α} {e : TypeId} {w0 w : World} {v : Value} {xs : List α} (h : k.Old e w0 w v xs) (i : Nat) (hi : i < xs.length) :
    ∃ g c cs, v = .slice (some ⟨g, 0, none⟩) xs.length c ∧ k.K w0 xs[i] cs ∧ ∀ j (hj : j < cs.length), w.cell? ⟨g, i * k.sz + j, none⟩ = some cs[j] := by
  obtain ⟨css, hl, hk, hown⟩ := h
  have hlen : ∀ cs ∈ css, cs.length = k.sz := fun cs hc => by
    obtain ⟨i, hi, rfl⟩ := List.getElem_of_mem hc
    exact k.len (hk i (by omega) hi)
  rcases hown.2 with ⟨rfl, h0⟩ | ⟨g, cap, cur, rfl, _⟩
  · omega
  · refine ⟨g, cap, css[i]'(by omega), rfl, hk i hi (by omega), fun j hj => ?_⟩
    have hjs : j < k.sz := by rw [← hlen _ (List.getElem_mem (by omega : i < css.length))]; exact hj
    have hlt : i * k.sz + j < xs.length * k.sz := by
      have : (i + 1) * k.sz ≤ xs.length * k.sz := Nat.mul_le_mul_right _ hi
      rw [Nat.add_mul] at this
      omega
    have hc := World.ownsRow.cellAt hown (i * k.sz + j) hlt
    rw [flatten_get css hlen i (by omega) j hjs] at hc
    rw [hc, List.getElem?_eq_getElem hj]
theorem Kd.Old.shape {α : Type} {k : Kd α} {e : TypeId} {w0 w : World} {v : Value} {xs : List α} (h : k.Old e w0 w v xs) : ∃ a c, v = .slice a xs.length c := by
  obtain ⟨css, hl, hk, hown⟩ := h
  rcases hown.2 with ⟨rfl, h0⟩ | ⟨g, cap, cur, rfl, _⟩
  · exact ⟨none, 0, by rw [h0]⟩
  · exact ⟨_, _, rfl⟩
end Go.Proofs.YtkflcmengddijaaGreatDoor
