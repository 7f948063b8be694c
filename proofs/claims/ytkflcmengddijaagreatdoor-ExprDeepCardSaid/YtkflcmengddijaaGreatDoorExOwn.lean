/-
  Rows of expressions that a call owns; sacristylaw07.Large walked.
-/
import Derived.Test.YtkflcmengddijaaGreatDoorEx
import Derived.Test.YtkflcmengddijaaGreatDoorOwn
import Derived.Deep.AppendLies
import Derived.Laws.AppendOwnNone
namespace Go.Proofs.YtkflcmengddijaaGreatDoor
open Go.RowKit Lx
set_option linter.unusedVariables false
set_option linter.unusedSimpArgs false

abbrev exL (x : Ex) (K : Option Addr) (c : Nat) : List Value := [.int .u8 x.k, .int .u64 x.num, .string x.name, .int .u8 x.op, .slice K x.kids.length c]
theorem infoEx : (Tryz.prog.info? 40).map (fun i => (i.zero, i.size, i.bytes)) = some (some (.agg #[.int .u8 0, .int .u64 0, .string ⟨#[]⟩, .int .u8 0, .slice none 0 0]), 5, 64) := by kernel_rfl
theorem exK_one {w : World} {x : Ex} {cs : List Value} (h : kEx.K w x cs) : ∀ u ∈ cs, u.oneCell' = true := by
  obtain ⟨A, c, rfl, _⟩ := kEx_iff.1 h
  intro u hu
  simp at hu
  rcases hu with rfl | rfl | rfl | rfl | rfl <;> rfl
theorem exK_heap (x : Ex) : ∀ {w w' : World} {cs : List Value}, ExK w x cs → (∀ n, n < w.heap.size → w'.heap[n]? = w.heap[n]?) → ExK w' x cs := by
  refine Ex.ind (P := fun x => ∀ {w w' : World} {cs : List Value}, ExK w x cs → (∀ n, n < w.heap.size → w'.heap[n]? = w.heap[n]?) → ExK w' x cs) (fun x ih => ?_) x
  intro w w' cs h hb
  rw [ExK] at h ⊢
  obtain ⟨A, cap, e, hm, hn, hr⟩ := h
  refine ⟨A, cap, e, hm, hn, ?_⟩
  rcases hr with h0 | ⟨b, o, e1, hc⟩
  · exact .inl h0
  · refine .inr ⟨b, o, e1, fun i hi => ?_⟩
    obtain ⟨ds, h1, h2⟩ := hc i hi
    exact ⟨ds, ih _ (List.getElem_mem hi) h1 hb, fun j hj => (World.cell?_of_block (hb _ (World.block_lt_of_cell? w _ (h2 j hj)))).trans (h2 j hj)⟩
theorem exK_foot {w : World} {x : Ex} {cs : List Value} (h : kEx.K w x cs) : kEx.Foot (fun n => n < w.heap.size) w x cs := fun w' _ hb => exK_heap x h fun n hn => hb n hn hn
theorem row_heap {w w' : World} {A : Option Addr} {xs : List Ex} (h : kEx.Row w A xs) (hb : ∀ n, n < w.heap.size → w'.heap[n]? = w.heap[n]?) : kEx.Row w' A xs := by
  rcases h with h | ⟨b, o, e, hc⟩
  · exact .inl h
  · refine .inr ⟨b, o, e, fun i hi => ?_⟩
    obtain ⟨cs, h1, h2⟩ := hc i hi
    exact ⟨cs, exK_heap _ h1 hb, fun j hj => (World.cell?_of_block (hb _ (World.block_lt_of_cell? w _ (h2 j hj)))).trans (h2 j hj)⟩

/-- l = append(l, ys...), ys as they lay at the beginning. -/
theorem wpList_append_exs {ops : Array Oper} {rest : List Oper} {o : Oper} {a : Act} {Q : Exit → Act → World → Prop} {w0 w : World} (hgd : o.guard = none) (s x : Operand)
    (ho : o.op = .call { callee := .builtin .append, args := #[s, x], argTypes := #[38, 38] }) (v : Value) (xs ys : List Ex) (hs : a.eval s = v) (hown : kEx.Old 40 w0 w v xs)
    (A : Option Addr) (c : Nat) (hx : a.eval x = .slice A ys.length c) (hnil : A = none → c = 0) (hy : kEx.Row w0 A ys) (hb : Below w0.heap.size w0 w) (hn : xs.length + ys.length ≤ 1000000)
    (h : ∀ v' w', kEx.Old 40 w0 w' v' (xs ++ ys) → Below w0.heap.size w0 w' → wpList Tryz.prog ops Q rest (a.put o.dst v') w') : wpList Tryz.prog ops Q (o :: rest) a w := by
  obtain ⟨i0, hi, hz0, hz1, hz2⟩ := info_parts infoEx
  obtain ⟨css, hl, hk, how⟩ := hown
  cases A with
  | none =>
    obtain rfl := hnil rfl
    have hy0 : ys = [] := by
      rcases hy with h | ⟨b, o, e, _⟩
      · exact h
      · cases e
    subst hy0
    refine wpList_append_own_none hgd s x 38 ho w0.heap.size 40 i0 5 Tryz.underlying38 hi v xs.length css.flatten hs how hx ?_
    exact h v w (by simpa using ⟨css, hl, hk, how⟩) hb
  | some ad =>
    have hds : ∃ dss : List (List Value), dss.length = ys.length ∧ (∀ i (hi : i < ys.length) (hi' : i < dss.length), kEx.K w0 ys[i] dss[i]) ∧ dss.flatten.length = ys.length * 5 ∧ ∀ j u, dss.flatten[j]? = some u → w.cell? (ad.add j) = some u := by
      rcases hy with h0 | ⟨b, o, e, hc⟩
      · subst h0
        exact ⟨[], rfl, fun i hi => absurd hi (by simp), rfl, fun j u hj => by simp at hj⟩
      · injection e with e
        subst e
        obtain ⟨dss, h1, h2, h3, h4⟩ := Kd.Row.css (k := kEx) (by decide) (show kEx.Row w0 (some ⟨b, o, none⟩) ys from .inr ⟨b, o, rfl, hc⟩)
        refine ⟨dss, h1, h2, h3, fun j u hj => ?_⟩
        have hadd : (⟨b, o, none⟩ : Addr).add j = ⟨b, o + j, none⟩ := by simp only [Addr.add]; split <;> simp_all
        rw [hadd]
        exact cm (h4 j u hj) hb
    obtain ⟨dss, h1, h2, h3, h4⟩ := hds
    refine wpList_append_own w hgd s x _ ho w0.heap.size 40 i0 (.agg #[.int .u8 0, .int .u64 0, .string ⟨#[]⟩, .int .u8 0, .slice none 0 0]) 5 64 Tryz.underlying38 hi hz0 hz1 hz2 rfl (by decide) v xs.length css.flatten hs how ad ys.length c dss.flatten hx h3 h4 (fun u hu => ?_) (by unfold maxLen; omega) (by omega) hb.size (fun v' w' g1 g2 _ => ?_)
    · obtain ⟨ds, hd, hu⟩ := List.mem_flatten.1 hu
      obtain ⟨i, hi, rfl⟩ := List.getElem_of_mem hd
      exact exK_one (h2 i (by omega) hi) u hu
    · refine h v' w' ⟨css ++ dss, by simp [hl, h1], fun i hi hi' => ?_, ?_⟩ (hb.grown g2 hb.size (own_from how))
      · by_cases hlt : i < xs.length
        · rw [List.getElem_append_left hlt, List.getElem_append_left (by omega)]
          exact hk i hlt (by omega)
        · have hi2 : i - xs.length < ys.length := by rw [List.length_append] at hi; omega
          rw [List.getElem_append_right (by omega), List.getElem_append_right (by omega)]
          simp only [hl]
          exact h2 (i - xs.length) hi2 (by omega)
      · rw [List.length_append, List.flatten_append]
        exact g1
theorem old_at {w0 w : World} {v : Value} {xs : List Ex} (h : kEx.Old 40 w0 w v xs) (i : Nat) (hi : i < xs.length) : ∃ g cc K c, v = .slice (some ⟨g, 0, none⟩) xs.length cc ∧ kEx.Row w0 K xs[i].kids ∧ (K = none → c = 0) ∧
    w.cell? ⟨g, i * 5, none⟩ = some (.int .u8 xs[i].k) ∧ w.cell? ⟨g, i * 5 + 1, none⟩ = some (.int .u64 xs[i].num) ∧ w.cell? ⟨g, i * 5 + 2, none⟩ = some (.string xs[i].name) ∧
    w.cell? ⟨g, i * 5 + 3, none⟩ = some (.int .u8 xs[i].op) ∧ w.cell? ⟨g, i * 5 + 4, none⟩ = some (.slice K xs[i].kids.length c) := by
  obtain ⟨g, cc, cs, e, h1, h2⟩ := h.at i hi
  obtain ⟨K, c, rfl, hm, hn, hr⟩ := kEx_iff.1 h1
  exact ⟨g, cc, K, c, e, hr, hn, h2 0 (by simp), h2 1 (by simp), h2 2 (by simp), h2 3 (by simp), h2 4 (by simp)⟩

/-! ### Nodes -/
def nodesE (x : Ex) : Nat := 1 + (x.kids.attach.map fun y => nodesE y.1).sum
termination_by SizeOf.sizeOf x
decreasing_by exact Ex.kid_lt y.2
def nodesL (l : List Ex) : Nat := (l.map nodesE).sum
theorem nodesE_eq (x : Ex) : nodesE x = 1 + nodesL x.kids := by
  rw [nodesE]
  unfold nodesL
  congr 2
  conv => rhs; rw [← List.attach_map_subtype_val x.kids, List.map_map]
  rfl
theorem nodesL_append (a b : List Ex) : nodesL (a ++ b) = nodesL a + nodesL b := by simp [nodesL]
theorem le_sum : ∀ (l : List Nat) {a : Nat}, a ∈ l → a ≤ l.sum
  | b :: r, a, h => by
    rcases List.mem_cons.1 h with rfl | h
    · simp
    · have := le_sum r h
      simp; omega
theorem nodes_kid {x y : Ex} (h : y ∈ x.kids) : nodesE y < nodesE x := by
  rw [nodesE_eq x]
  have : nodesE y ≤ nodesL x.kids := by
    unfold nodesL
    exact le_sum _ (List.mem_map_of_mem h)
  omega
theorem nodes_len (l : List Ex) : l.length ≤ nodesL l := by
  induction l with
  | nil => simp
  | cons a r ih =>
    have : 1 ≤ nodesE a := by rw [nodesE_eq]; omega
    simp only [nodesL, List.map_cons, List.sum_cons, List.length_cons] at ih ⊢
    omega
/-- Names and rows that are no longer than what comes in may be. -/
def NamesOk (x : Ex) : Prop := x.name.size ≤ 140737488355328 ∧ (x.kids.length ≤ 4503599627370496 ∧ 0 ≤ x.op ∧ x.op < 256) ∧ ∀ y, (h : y ∈ x.kids) → NamesOk y
termination_by SizeOf.sizeOf x
decreasing_by exact Ex.kid_lt h
theorem namesOk_iff (x : Ex) : NamesOk x ↔ x.name.size ≤ 140737488355328 ∧ (x.kids.length ≤ 4503599627370496 ∧ 0 ≤ x.op ∧ x.op < 256) ∧ ∀ y ∈ x.kids, NamesOk y := by rw [NamesOk]
end Go.Proofs.YtkflcmengddijaaGreatDoor
