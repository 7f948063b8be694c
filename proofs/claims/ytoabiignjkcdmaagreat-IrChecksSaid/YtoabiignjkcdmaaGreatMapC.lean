/-
  A map of ints, known entry by entry.
-/
import Derived.Test.YtoabiignjkcdmaaGreatBase
import Derived.Maps.RangeWalk
import Derived.Maps.OwnSet
namespace Go.Proofs.YtoabiignjkcdmaaGreat
open Go.RowKit Go.Maps Go.MapKept
set_option linter.unusedVariables false
set_option linter.unusedSimpArgs false

/-- Block n is the object o. -/
def Ob (w : World) (n : Nat) (o : Obj) : Prop := w.heap[n]? = some o
theorem Ob.lt {w : World} {n : Nat} {o : Obj} (h : Ob w n o) : n < w.heap.size := (Array.getElem?_eq_some_iff.1 h).1
theorem Ob.mono {w w' : World} {n : Nat} {o : Obj} (h : Ob w n o) (hb : Below w.heap.size w w') : Ob w' n o := (hb.block n h.lt).trans h
theorem Ob.new (w : World) (o : Obj) : Ob (w.alloc o) w.heap.size o := heap_alloc_new w _
theorem Ob.newAt {w : World} {n : Nat} (o : Obj) (hn : n = w.heap.size) : Ob (w.alloc o) n o := by subst hn; exact heap_alloc_new w _
theorem Ob.alloc {w : World} {n : Nat} {o : Obj} (h : Ob w n o) (o' : Obj) : Ob (w.alloc o') n o := (Below.heap_alloc w o' n h.lt).trans h
theorem Ob.grown {w w' : World} {n : Nat} {o : Obj} (h : Ob w n o) {row : Option Nat} (hg : w.grownBy w' row) (hr : some n ≠ row) : Ob w' n o := (hg.block n h.lt hr).trans h
theorem Ob.drewN {w : World} {n : Nat} {o : Obj} (h : Ob w n o) (k : Nat) : Ob (w.drewN k) n o := h

/-- w, block r being o. -/
def setOb (w : World) (r : Nat) (o : Obj) : World := { w with heap := w.heap.setIfInBounds r o }
theorem setOb_ob {w : World} {r : Nat} {o o' : Obj} (h : Ob w r o) : Ob (setOb w r o') r o' := (heap_set h).1
theorem setOb_grown {w : World} {r : Nat} (o : Obj) : w.grownBy (setOb w r o) (some r) :=
  ⟨rfl, rfl, rfl, by simp [setOb], fun k _ hk => by
    have : r ≠ k := fun e => hk (by rw [e])
    simp [setOb, this]⟩
theorem run_getObj_ob {P : Program} {w : World} {r : Nat} {o : Obj} (h : Ob w r o) (ho : ∀ c t f, o ≠ .cells c t f) : (getObj r).run P w = .ok o w := by
  unfold Ob at h
  unfold getObj
  simp only [Sem.run, h]
  try (cases o <;> first | rfl | exact absurd rfl (ho _ _ _))
theorem run_setObj_ob {P : Program} {w : World} {r : Nat} {o o' : Obj} (h : Ob w r o) (ho : ∀ c t f, o ≠ .cells c t f) : (setObj r o').run P w = .ok () (setOb w r o') := by
  unfold Ob at h
  unfold setObj
  simp only [Sem.run, h]
  cases o <;> first | rfl | exact absurd rfl (ho _ _ _)

section
variable {P : Program} {ops : Array Oper} {Q : Exit → Act → World → Prop} {rest : List Oper} {a : Act} {w : World} {o : Oper}

theorem wpl_update_new (hg : o.guard = none) (m x v : Operand) (t k e : TypeId) (hop : o.op = .mapUpdate t m x v) (ht : P.underlying t = some (.map k e)) (hk : P.underlying k = some (.int .i64)) (b clk : Nat) (es : Array MapEntry) (key : Int) (val : Value)
    (hm : a.eval m = .map (some b)) (hx : a.eval x = .int .i64 key) (hv : a.eval v = val) (hb : Ob w b (.map es clk)) (hf : Instr.findNow (.int .i64) (.int .i64 key) es.toList 0 = some none)
    (h : ∀ w', Ob w' b (.map (es.push { key := .int .i64 key, val := val, born := clk }) (clk + 1)) → w.grownBy w' (some b) → wpList P ops Q rest (a.put o.dst undef) w') : wpList P ops Q (o :: rest) a w := by
  refine wpList_run0 hg (setOb w b (.map (es.push { key := .int .i64 key, val := val, born := clk }) (clk + 1))) ?_ (h _ (setOb_ob hb) (setOb_grown _))
  unfold execOp
  simp only [hop, hm, hx, hv, Instr.mapUpdate, Sem.run_bind, run_underlying ht, Result.andThen, run_getObj_ob hb (by simp), run_checkKey hk (k := .int .i64 key) rfl, run_findKey hk hf, run_setObj_ob hb (by simp)]
  rfl

theorem wpl_update_old (hg : o.guard = none) (m x v : Operand) (t k e : TypeId) (hop : o.op = .mapUpdate t m x v) (ht : P.underlying t = some (.map k e)) (hk : P.underlying k = some (.int .i64)) (b clk i : Nat) (es : Array MapEntry) (key : Int) (val old : Value)
    (hm : a.eval m = .map (some b)) (hx : a.eval x = .int .i64 key) (hv : a.eval v = val) (hb : Ob w b (.map es clk)) (hf : Instr.findNow (.int .i64) (.int .i64 key) es.toList 0 = some (some (i, old)))
    (hi : ((es[i]?).map (·.key)).getD (.int .i64 key) = .int .i64 key)
    (h : ∀ w', Ob w' b (.map (es.modify i fun e => { e with key := .int .i64 key, val := val }) clk) → w.grownBy w' (some b) → wpList P ops Q rest (a.put o.dst undef) w') : wpList P ops Q (o :: rest) a w := by
  refine wpList_run0 hg (setOb w b (.map (es.modify i fun e => { e with key := .int .i64 key, val := val }) clk)) ?_ (h _ (setOb_ob hb) (setOb_grown _))
  have hs : ∀ w : World, (Instr.keyThatStays (.int .i64 key) (.int .i64 key)).run P w = .ok (.int .i64 key) w := by
    intro w
    simp [Instr.keyThatStays, Instr.sameBits]
  unfold execOp
  simp only [hop, hm, hx, hv, Instr.mapUpdate, Sem.run_bind, run_underlying ht, Result.andThen, run_getObj_ob hb (by simp), run_checkKey hk (k := .int .i64 key) rfl, run_findKey hk hf, hi, hs, run_setObj_ob hb (by simp)]
  rfl

/-- The entries without the one found. -/
def delE (es : Array MapEntry) : Option (Nat × Value) → Array MapEntry
  | some (i, _) => es.eraseIdxIfInBounds i
  | none => es

theorem wpl_delete (hg : o.guard = none) (m x : Operand) (t k e : TypeId) (hop : o.op = Op.call { callee := Callee.builtin Builtin.delete, args := #[m, x], argTypes := #[t, k] }) (ht : P.underlying t = some (.map k e)) (hk : P.underlying k = some (.int .i64)) (b clk : Nat) (es : Array MapEntry) (key : Int) (r : Option (Nat × Value))
    (hm : a.eval m = .map (some b)) (hx : a.eval x = .int .i64 key) (hb : Ob w b (.map es clk)) (hf : Instr.findNow (.int .i64) (.int .i64 key) es.toList 0 = some r)
    (h : ∀ w', Ob w' b (.map (delE es r) clk) → w.grownBy w' (some b) → wpList P ops Q rest (a.put o.dst (.tuple #[])) w') : wpList P ops Q (o :: rest) a w := by
  refine wpList_run hg _ (setOb w b (.map (delE es r) clk)) ?_ (h _ (setOb_ob hb) (setOb_grown _))
  have hrun : (Builtin.delete_ #[t, k] o.type #[.map (some b), .int .i64 key]).run P w = .ok (.tuple #[]) (setOb w b (.map (delE es r) clk)) := by
    cases r <;> simp only [Builtin.delete_, List.getElem?_toArray, List.getElem?_cons_zero, List.getElem?_cons_succ, Sem.run_bind, run_underlying ht, Result.andThen, run_getObj_ob hb (by simp), run_checkKey hk (k := .int .i64 key) rfl, run_findKey hk hf, run_setObj_ob hb (by simp)] <;> rfl
  unfold execOp
  simp [hop, resolve, invoke, builtin, hm, hx, hrun, Result.andThen]

theorem wpl_maplen (hg : o.guard = none) (m : Operand) (t : TypeId) (hop : o.op = Op.call { callee := Callee.builtin Builtin.len, args := #[m], argTypes := #[t] }) (k e : TypeId) (ht : P.underlying t = some (.map k e)) (b clk : Nat) (es : Array MapEntry)
    (hm : a.eval m = .map (some b)) (hb : Ob w b (.map es clk)) (h : wpList P ops Q rest (a.put o.dst (.int .i64 es.size)) w) : wpList P ops Q (o :: rest) a w := by
  refine wpList_run hg _ w ?_ h
  have hrun : (Builtin.len_ #[t] o.type #[.map (some b)]).run P w = .ok (.int .i64 es.size) w := by
    simp [Builtin.len_, Sem.run_bind, run_underlying ht, Result.andThen, run_getObj_ob hb, go_sem]
  unfold execOp
  simp [hop, resolve, invoke, builtin, hm, hrun, Result.andThen]

theorem wpl_range (hg : o.guard = none) (x : Operand) (t k e : TypeId) (hop : o.op = Op.range t x) (ht : P.underlying t = some (.map k e)) (b clk : Nat) (es : Array MapEntry) (hm : a.eval x = .map (some b)) (hb : Ob w b (.map es clk))
    (h : wpList P ops Q rest (a.put o.dst (.pointer (some ⟨w.heap.size, 0, none⟩))) (w.alloc (.mapIter (some b) clk #[] clk))) : wpList P ops Q (o :: rest) a w := by
  refine wpList_run hg _ _ ?_ h
  unfold execOp
  simp only [hop, hm, Instr.range, Sem.run_bind, run_underlying ht, Result.andThen, run_getObj_ob hb (by simp)]
  rfl

theorem wpl_next_none (hg : o.guard = none) (x : Operand) (hop : o.op = Op.next x false) (r b clk since c0 : Nat) (seen : Array Nat) (es : Array MapEntry) (hx : a.eval x = .pointer (some ⟨r, 0, none⟩)) (hr : Ob w r (.mapIter (some b) since seen c0)) (hb : Ob w b (.map es clk))
    (hgap : (!seen.isEmpty && !es.isEmpty && es.all (fun e => decide (e.born ≥ c0))) = false) (hl : (es.filter fun e => !seen.contains e.born) = #[]) (h : wpList P ops Q rest (a.put o.dst (.tuple #[.bool false])) w) : wpList P ops Q (o :: rest) a w := by
  refine wpList_run hg _ w ?_ h
  unfold execOp
  simp only [hop, hx, Instr.next, Sem.run_bind, Result.andThen, run_getObj_ob hr (by simp), run_getObj_ob hb (by simp), hgap, hl, Bool.false_eq_true, if_false]
  simp [choose, Sem.run, Question.forced]

theorem wpl_next_one (hg : o.guard = none) (x : Operand) (hop : o.op = Op.next x false) (r b clk since c0 : Nat) (seen : Array Nat) (es : Array MapEntry) (e : MapEntry) (hx : a.eval x = .pointer (some ⟨r, 0, none⟩)) (hr : Ob w r (.mapIter (some b) since seen c0)) (hb : Ob w b (.map es clk))
    (hgap : (!seen.isEmpty && !es.isEmpty && es.all (fun e => decide (e.born ≥ c0))) = false) (hl : (es.filter fun e => !seen.contains e.born) = #[e]) (he : e.born < since)
    (h : ∀ w', Ob w' r (.mapIter (some b) since (seen.push e.born) clk) → w.grownBy w' (some r) → wpList P ops Q rest (a.put o.dst (.tuple #[.bool true, e.key, e.val])) w') : wpList P ops Q (o :: rest) a w := by
  refine wpList_run hg _ (setOb w r (.mapIter (some b) since (seen.push e.born) clk)) ?_ (h _ (setOb_ob hr) (setOb_grown _))
  have he' : ¬ since ≤ e.born := by omega
  unfold execOp
  simp only [hop, hx, Instr.next, Sem.run_bind, Result.andThen, run_getObj_ob hr (by simp), run_getObj_ob hb (by simp), hgap, hl, Bool.false_eq_true, if_false]
  simp [choose, Sem.run, Question.forced, he, he', run_setObj_ob hr]

theorem wpl_next_two (hg : o.guard = none) (x : Operand) (hop : o.op = Op.next x false) (r b clk since c0 : Nat) (seen : Array Nat) (es : Array MapEntry) (e f : MapEntry) (hx : a.eval x = .pointer (some ⟨r, 0, none⟩)) (hr : Ob w r (.mapIter (some b) since seen c0)) (hb : Ob w b (.map es clk))
    (hgap : (!seen.isEmpty && !es.isEmpty && es.all (fun e => decide (e.born ≥ c0))) = false) (hl : (es.filter fun e => !seen.contains e.born) = #[e, f]) (he : e.born < since) (hf : f.born < since)
    (h1 : ∀ w', Ob w' r (.mapIter (some b) since (seen.push e.born) clk) → w.drew.grownBy w' (some r) → wpList P ops Q rest (a.put o.dst (.tuple #[.bool true, e.key, e.val])) w')
    (h2 : ∀ w', Ob w' r (.mapIter (some b) since (seen.push f.born) clk) → w.drew.grownBy w' (some r) → wpList P ops Q rest (a.put o.dst (.tuple #[.bool true, f.key, f.val])) w') : wpList P ops Q (o :: rest) a w := by
  have he' : ¬ since ≤ e.born := by omega
  have hf' : ¬ since ≤ f.born := by omega
  have hr' : Ob w.drew r (.mapIter (some b) since seen c0) := hr
  have hrun : (∃ w', Ob w' r (.mapIter (some b) since (seen.push e.born) clk) ∧ w.drew.grownBy w' (some r) ∧ (execOp a.eval o).run P w = .ok (.value (.tuple #[.bool true, e.key, e.val])) w') ∨
      (∃ w', Ob w' r (.mapIter (some b) since (seen.push f.born) clk) ∧ w.drew.grownBy w' (some r) ∧ (execOp a.eval o).run P w = .ok (.value (.tuple #[.bool true, f.key, f.val])) w') := by
    unfold execOp
    simp only [hop, hx, Instr.next, Sem.run_bind, Result.andThen, run_getObj_ob hr (by simp), run_getObj_ob hb (by simp), hgap, hl, Bool.false_eq_true, if_false]
    have hc : (Question.mapNext 2).cut (w.tape w.drawn (.mapNext 2)) = 0 ∨ (Question.mapNext 2).cut (w.tape w.drawn (.mapNext 2)) = 1 := by
      simp only [Question.cut]
      omega
    rcases hc with hc | hc
    · refine .inl ⟨setOb w.drew r (.mapIter (some b) since (seen.push e.born) clk), setOb_ob hr', setOb_grown _, ?_⟩
      simp [run_choose_drew, Question.forced, he, he', hf, hf', hc, run_setObj_ob hr']
    · refine .inr ⟨setOb w.drew r (.mapIter (some b) since (seen.push f.born) clk), setOb_ob hr', setOb_grown _, ?_⟩
      simp [run_choose_drew, Question.forced, he, he', hf, hf', hc, run_setObj_ob hr']
  rcases hrun with ⟨w', g1, g2, g3⟩ | ⟨w', g1, g2, g3⟩
  · exact wpList_run hg _ w' g3 (h1 w' g1 g2)
  · exact wpList_run hg _ w' g3 (h2 w' g1 g2)

/-- The equation by which the walk reads the round's key and element. -/
theorem run_entry_c {r b clk since s : Nat} {seen : Array Nat} {es : Array MapEntry} (e : MapEntry) (hr : Ob w r (.mapIter (some b) since seen clk)) (hb : Ob w b (.map es clk))
    (hs : seen.back? = some s) (hf : es.find? (fun e => e.born == s) = some e) : (Instr.entry (.pointer (some ⟨r, 0, none⟩))).run P w = .ok (.tuple #[e.key, e.val]) w := by
  simp only [Instr.entry, Sem.run_bind, Result.andThen, run_getObj_ob hr (by simp), run_getObj_ob hb (by simp), hs, hf]
  simp
end

end Go.Proofs.YtoabiignjkcdmaaGreat
