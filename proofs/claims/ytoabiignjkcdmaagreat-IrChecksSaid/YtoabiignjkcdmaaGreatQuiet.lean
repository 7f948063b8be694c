/-
  A region whose operations only read, and whose callees only read and make memory, walked by a reckoning: what each load and each call yields is handed over.
-/
import Derived.Test.YtoabiignjkcdmaaGreatBase
namespace Go.Proofs.YtoabiignjkcdmaaGreat
open Go.RowKit
set_option linter.unusedVariables false
set_option linter.unusedSimpArgs false

/-- What a step that only reads comes to, the loads yielding these values in order; and where it loaded. -/
def srun {α : Type} (P : Program) : Sem α → List Value → Option (α × List (Addr × Value))
  | .pure a, _ => some (a, [])
  | .load _ a k, v :: vs => (srun P (k v) vs).map fun x => (x.1, (a, v) :: x.2)
  | .program k, vs => srun P (k P) vs
  | .mark _ k, vs => srun P k vs
  | _, _ => none

theorem srun_run {α : Type} {P : Program} (m : Sem α) : ∀ (vs : List Value) (x : α) (l : List (Addr × Value)), srun P m vs = some (x, l) → ∀ w : World, (∀ p ∈ l, w.cell? p.1 = some p.2) → m.run P w = .ok x w := by
  induction m with
  | pure a =>
    intro vs x l h w _
    simp only [srun, Option.some.injEq, Prod.mk.injEq] at h
    rw [Sem.run, h.1]
  | load m a k ih =>
    intro vs x l h w hl
    cases vs with
    | nil => simp [srun] at h
    | cons v vs =>
      simp only [srun, Option.map_eq_some_iff] at h
      obtain ⟨⟨y, l'⟩, h1, h2⟩ := h
      simp only [Prod.mk.injEq] at h2
      obtain ⟨rfl, rfl⟩ := h2
      have hc : w.cell? a = some v := hl (a, v) (by simp)
      rw [Sem.run]
      simp only [hc]
      exact ih v vs y l' h1 w fun p hp => hl p (by simp [hp])
  | program k ih => intro vs x l h w hl; rw [Sem.run]; exact ih P vs x l (by simpa only [srun] using h) w hl
  | mark m k ih => intro vs x l h w hl; rw [Sem.run]; exact ih vs x l (by simpa only [srun] using h) w hl
  | _ => intro vs x l h; simp [srun] at h

/-- What is handed over: what a step's loads yield, from which place on; what a call yields; where an element lies. -/
inductive QH where
  | ld (b o : Nat) (l : List Value)
  | call (f : FuncId) (args : Array Value) (v : Value)
  | at (t : TypeId) (x i v : Value)

/-- What is owed for it. -/
inductive QOb where
  | cell (a : Addr) (v : Value)
  | call (f : FuncId) (args : Array Value) (v : Value)
  | at (t : TypeId) (x i v : Value)
def QOb.Holds (P : Program) (C : World → Prop) : QOb → Prop
  | .cell a v => ∀ w, C w → w.cell? a = some v
  | .call f args v => ∀ w, C w → Calls P f args w fun e w' => e = .returned v ∧ C w'
  | .at t x i v => ∀ w, C w → (Instr.indexAt t x i).run P w = .ok v w
def AllHold (P : Program) (C : World → Prop) : List QOb → Prop
  | [] => True
  | o :: r => o.Holds P C ∧ AllHold P C r
theorem allHold_append {P : Program} {C : World → Prop} : ∀ (l r : List QOb), AllHold P C (l ++ r) → AllHold P C l ∧ AllHold P C r
  | [], r, h => ⟨trivial, h⟩
  | o :: l, r, h => let ⟨h1, h2⟩ := h; let ⟨h3, h4⟩ := allHold_append l r h2; ⟨⟨h1, h3⟩, h4⟩
def cellObs : List (Addr × Value) → List QOb
  | [] => []
  | p :: r => .cell p.1 p.2 :: cellObs r
theorem cells_of {P : Program} {C : World → Prop} : ∀ (l : List (Addr × Value)), AllHold P C (cellObs l) → ∀ w, C w → ∀ p ∈ l, w.cell? p.1 = some p.2
  | [], _, _, _, p, hp => by cases hp
  | q :: r, h, w, hw, p, hp => by
    rcases List.mem_cons.1 hp with rfl | hp
    · exact h.1 w hw
    · exact cells_of r h.2 w hw p hp

/-- The lexical walk, reckoned. -/
def evQ (P : Program) (ops : Array Oper) : List Oper → List QH → Act → Option (Act × List QOb)
  | [], _, a => some (a, [])
  | o :: rest, hs, a =>
    match Region.wanted o (yielded ops a.tmps) with
    | false => evQ P ops rest hs (a.put o.dst undef)
    | true =>
      match o.op, hs with
      | .indexAddr t x i, .at _ _ _ v :: hs => (evQ P ops rest hs (a.put o.dst v)).map fun y => (y.1, .at t (a.eval x) (a.eval i) v :: y.2)
      | _, hs =>
      match srun P (execOp a.eval o) [] with
      | some (.value v, _) => evQ P ops rest hs (a.put o.dst v)
      | some (.enter f args, _) =>
        match hs with
        | .call _ _ v :: hs => (evQ P ops rest hs (a.put o.dst v)).map fun x => (x.1, .call f args v :: x.2)
        | _ => none
      | some _ => none
      | none =>
        match hs with
        | .ld _ _ l :: hs =>
          match srun P (execOp a.eval o) l with
          | some (.value v, m) => (evQ P ops rest hs (a.put o.dst v)).map fun x => (x.1, cellObs m ++ x.2)
          | _ => none
        | _ => none

theorem srun_nil {α : Type} {P : Program} (m : Sem α) : ∀ (x : α) (l : List (Addr × Value)), srun P m [] = some (x, l) → l = [] := by
  induction m with
  | pure a => intro x l h; simp only [srun, Option.some.injEq, Prod.mk.injEq] at h; exact h.2.symm
  | load m a k ih => intro x l h; simp [srun] at h
  | program k ih => intro x l h; exact ih P x l (by simpa only [srun] using h)
  | mark m k ih => intro x l h; exact ih x l (by simpa only [srun] using h)
  | _ => intro x l h; simp [srun] at h

theorem evQ_quiet {P : Program} {ops : Array Oper} {C : World → Prop} {Q : Act → Prop} : ∀ (l : List Oper) (hs : List QH) (a a' : Act) (obs : List QOb), evQ P ops l hs a = some (a', obs) → AllHold P C obs → Q a' → wpQuiet P ops C Q l a
  | [], hs, a, a', obs, h, _, hq => by
    simp only [evQ, Option.some.injEq, Prod.mk.injEq] at h
    obtain ⟨rfl, _⟩ := h
    exact hq
  | o :: rest, hs, a, a', obs, h, hobs, hq => by
    unfold evQ at h
    unfold wpQuiet
    cases hw : Region.wanted o (yielded ops a.tmps) with
    | false =>
      rw [hw] at h
      simp only [Bool.false_eq_true, if_false]
      exact evQ_quiet rest hs _ a' obs h hobs hq
    | true =>
      rw [hw] at h
      simp only [if_true]
      simp only at h
      split at h
      · rename_i t x i _ _ _ v hs' ho
        simp only [Option.map_eq_some_iff, Prod.mk.injEq] at h
        obtain ⟨⟨a2, obs2⟩, h1, h2, h3⟩ := h
        simp only at h2 h3
        subst h2; subst h3
        refine ⟨v, fun w hC => ?_, evQ_quiet rest hs' _ a2 obs2 h1 hobs.2 hq⟩
        have hx : (execOp a.eval o).run P w = .ok (.value v) w := by
          unfold execOp
          simp only [ho, Sem.run_bind]
          rw [show (Instr.indexAt t (a.eval x) (a.eval i)).run P w = .ok v w from hobs.1 w hC]
          rfl
        unfold Oper.quietAt
        rw [hx]
        exact ⟨rfl, rfl⟩
      · rename_i hs0 hno
        clear hno
        split at h
        · rename_i v l0 hr
          obtain rfl := srun_nil _ _ _ hr
          refine ⟨v, fun w hC => ?_, evQ_quiet rest _ _ a' obs h hobs hq⟩
          unfold Oper.quietAt
          rw [srun_run _ _ _ _ hr w (by simp)]
          exact ⟨rfl, rfl⟩
        · rename_i f args l0 hr
          obtain rfl := srun_nil _ _ _ hr
          split at h
          · rename_i _ _ v hs'
            simp only [Option.map_eq_some_iff, Prod.mk.injEq] at h
            obtain ⟨⟨a2, obs2⟩, h1, h2, h3⟩ := h
            simp only at h2 h3
            subst h2; subst h3
            refine ⟨v, fun w hC => ?_, evQ_quiet rest hs' _ a2 obs2 h1 hobs.2 hq⟩
            unfold Oper.quietAt
            rw [srun_run _ _ _ _ hr w (by simp)]
            exact ⟨rfl, hobs.1 w hC⟩
          · cases h
        · cases h
        · split at h
          · rename_i _ _ l1 hs'
            split at h
            · rename_i v m hr
              simp only [Option.map_eq_some_iff, Prod.mk.injEq] at h
              obtain ⟨⟨a2, obs2⟩, h1, h2, h3⟩ := h
              simp only at h2 h3
              subst h2; subst h3
              obtain ⟨g1, g2⟩ := allHold_append _ _ hobs
              refine ⟨v, fun w hC => ?_, evQ_quiet rest hs' _ a2 obs2 h1 g2 hq⟩
              unfold Oper.quietAt
              rw [srun_run _ _ _ _ hr w (cells_of m g1 w hC)]
              exact ⟨rfl, rfl⟩
            · cases h
          · cases h

/-- What the hints owe. -/
def ldObs (b o : Nat) : List Value → List QOb
  | [] => []
  | v :: r => .cell ⟨b, o, none⟩ v :: ldObs b (o + 1) r
def hintObs : List QH → List QOb
  | [] => []
  | .ld b o l :: r => ldObs b o l ++ hintObs r
  | .call f args v :: r => .call f args v :: hintObs r
  | .at t x i v :: r => .at t x i v :: hintObs r
/-- The slots asked for, and what is owed. -/
def evQs (P : Program) (ops : Array Oper) (l : List Oper) (hs : List QH) (a : Act) (ks : List Nat) : Option (List Value × List QOb) :=
  (evQ P ops l hs a).map fun x => (ks.map fun k => x.1.tmps.getD k undef, x.2)

def writes (l : List Oper) (j : Nat) : Bool := l.any fun o => o.dst == some j
theorem put_other {a : Act} {d : Option Tmp} {v : Value} {j : Nat} (h : (d == some j) = false) : (a.put d v).tmps[j]? = a.tmps[j]? := by
  cases d with
  | none => rfl
  | some d =>
    have : d ≠ j := by simpa using h
    simp [Act.put, Array.getElem?_setIfInBounds, this]
theorem put_size {a : Act} {d : Option Tmp} {v : Value} : (a.put d v).tmps.size = a.tmps.size := by cases d <;> simp [Act.put]
theorem put_defers {a : Act} {d : Option Tmp} {v : Value} : (a.put d v).defers = a.defers := by cases d <;> rfl

theorem evQ_keeps {P : Program} {ops : Array Oper} : ∀ (l : List Oper) (hs : List QH) (a a' : Act) (obs : List QOb), evQ P ops l hs a = some (a', obs) →
    a'.tmps.size = a.tmps.size ∧ a'.defers = a.defers ∧ ∀ j, writes l j = false → a'.tmps[j]? = a.tmps[j]?
  | [], hs, a, a', obs, h => by
    simp only [evQ, Option.some.injEq, Prod.mk.injEq] at h
    obtain ⟨rfl, _⟩ := h
    exact ⟨rfl, rfl, fun _ _ => rfl⟩
  | o :: rest, hs, a, a', obs, h => by
    have key : ∀ (v : Value) (hs' : List QH) (a2 : Act) (obs2 : List QOb), evQ P ops rest hs' (a.put o.dst v) = some (a2, obs2) →
        a2.tmps.size = a.tmps.size ∧ a2.defers = a.defers ∧ ∀ j, writes (o :: rest) j = false → a2.tmps[j]? = a.tmps[j]? := by
      intro v hs' a2 obs2 h
      obtain ⟨h1, h2, h3⟩ := evQ_keeps rest hs' _ a2 obs2 h
      refine ⟨h1.trans put_size, h2.trans put_defers, fun j hj => ?_⟩
      simp only [writes, List.any_cons, Bool.or_eq_false_iff] at hj
      exact (h3 j hj.2).trans (put_other hj.1)
    unfold evQ at h
    split at h
    · exact key _ _ _ _ h
    · split at h
      · simp only [Option.map_eq_some_iff, Prod.mk.injEq] at h
        obtain ⟨⟨a2, obs2⟩, h1, h2, h3⟩ := h
        simp only at h2; subst h2
        exact key _ _ _ _ h1
      · split at h
        · exact key _ _ _ _ h
        · split at h
          · simp only [Option.map_eq_some_iff, Prod.mk.injEq] at h
            obtain ⟨⟨a2, obs2⟩, h1, h2, h3⟩ := h
            simp only at h2; subst h2
            exact key _ _ _ _ h1
          · cases h
        · cases h
        · split at h
          · split at h
            · simp only [Option.map_eq_some_iff, Prod.mk.injEq] at h
              obtain ⟨⟨a2, obs2⟩, h1, h2, h3⟩ := h
              simp only at h2; subst h2
              exact key _ _ _ _ h1
            · cases h
          · cases h

/-- The frame behind: what was asked for; something in the other slots that were written; the rest as it was. -/
def frameOf (t : List Value) (w : Nat → Bool) (g : Nat → Value) : Nat → List Value
  | i => match t with
    | [] => []
    | v :: r => (if w i then g i else v) :: frameOf r w g (i + 1)
theorem frameOf_eq (w : Nat → Bool) (T : Array Value) : ∀ (t : List Value) (i : Nat), i + t.length = T.size → (∀ j, j < t.length → w (i + j) = false → T[i + j]? = t[j]?) →
    frameOf t w (fun j => T.getD j undef) i = T.toList.drop i
  | [], i, h, _ => by simp [frameOf]; simp at h; omega
  | v :: r, i, h, hk => by
    have hi : i < T.size := by simp at h; omega
    have ih := frameOf_eq w T r (i + 1) (by simp at h; omega) (fun j hj hw => by
      have := hk (j + 1) (by simp; omega) (by rw [← hw]; congr 1; omega)
      rw [show i + 1 + j = i + (j + 1) by omega, this]
      simp)
    have hd : T.toList.drop i = T[i] :: T.toList.drop (i + 1) := by
      rw [List.drop_eq_getElem_cons (by simpa using hi)]
      simp
    rw [frameOf, ih, hd]
    congr 1
    split
    · simp [hi]
    · rename_i hw
      have := hk 0 (by simp) (by simpa using hw)
      simp at this
      rw [Array.getElem?_eq_getElem hi] at this
      simpa using this.symm

/-- A region that draws its order, by the reckoning. -/
theorem wp_evQ {P : Program} {id : Nat} {l : List Oper} {Q : Exit → Act → World → Prop} {t : List Value} {ds : List Deferred} {w : World} (C : World → Prop) (hs : List QH) (ks : List Nat) (vs : List Value)
    (hm : P.follows .mixedOrders = true) (hB : Region.lexB .any l.toArray = true) (h : evQs P l.toArray l hs ⟨t.toArray, ds⟩ ks = some (vs, hintObs hs)) (hC : C { w with drawn := w.drawn + 1 }) (hobs : AllHold P C (hintObs hs))
    (hK : ∀ w' (g : Nat → Value), C w' → ks.map g = vs → Q .normal ⟨(frameOf t (writes l) g 0).toArray, ds⟩ w') : (Code.region id l.toArray true).wp P Q ⟨t.toArray, ds⟩ w := by
  simp only [evQs, Option.map_eq_some_iff, Prod.mk.injEq] at h
  obtain ⟨⟨a', obs⟩, h1, h2, h3⟩ := h
  simp only at h2 h3
  subst h3
  obtain ⟨k1, k2, k3⟩ := evQ_keeps _ _ _ _ _ h1
  refine wp_region_quiet hm hB hC (evQ_quiet _ hs _ a' _ (by simpa using h1) hobs fun w' hw' => ?_)
  have e := frameOf_eq (writes l) a'.tmps t 0 (by rw [k1]; simp) (fun j hj hw => by
    have := k3 j (by simpa using hw)
    simpa using this)
  have := hK w' (fun j => a'.tmps.getD j undef) hw' h2
  rw [e] at this
  have e2 : (⟨(a'.tmps.toList.drop 0).toArray, ds⟩ : Act) = a' := by
    cases a'
    simp only at k2
    simp [k2]
  rw [e2] at this
  exact this

/-- The same frame, the slots that are written being lo to lo + n - 1, and es. -/
def frameIn (t : List Value) (lo n : Nat) (es : List Nat) (g : Nat → Value) : List Value :=
  es.foldl (fun t j => t.set j (g j)) (t.take lo ++ ((List.range' lo n).map g ++ t.drop (lo + n)))
def inRange (lo n : Nat) (es : List Nat) (l : List Oper) : Bool := l.all fun o => match o.dst with | none => true | some d => (Nat.ble lo d && Nat.blt d (lo + n)) || es.contains d

theorem foldl_set_length (g : Nat → Value) : ∀ (es : List Nat) (t : List Value), (es.foldl (fun t j => t.set j (g j)) t).length = t.length
  | [], _ => rfl
  | e :: es, t => by rw [List.foldl_cons, foldl_set_length g es]; simp
theorem foldl_set_get (g : Nat → Value) : ∀ (es : List Nat) (t : List Value) (j : Nat), (es.foldl (fun t j => t.set j (g j)) t)[j]? = if es.contains j then (t[j]?).map (fun _ => g j) else t[j]?
  | [], _, _ => by simp
  | e :: es, t, j => by
    rw [List.foldl_cons, foldl_set_get g es, List.getElem?_set]
    by_cases h : e = j
    · subst h
      by_cases hl : e < t.length
      · simp [hl]
      · simp [hl]
    · have h' : (j == e) = false := by simp; exact fun e' => h e'.symm
      have h2 : ¬ j = e := fun e' => h e'.symm
      simp [h, h2]
theorem frameOf_length (w : Nat → Bool) (g : Nat → Value) : ∀ (t : List Value) (i : Nat), (frameOf t w g i).length = t.length
  | [], _ => rfl
  | v :: r, i => by simp [frameOf, frameOf_length w g r]
theorem frameOf_get (w : Nat → Bool) (g : Nat → Value) : ∀ (t : List Value) (i j : Nat), (frameOf t w g i)[j]? = (t[j]?).map fun v => if w (i + j) then g (i + j) else v
  | [], _, _ => by simp [frameOf]
  | v :: r, i, 0 => by simp [frameOf]
  | v :: r, i, j + 1 => by
    rw [frameOf, List.getElem?_cons_succ, frameOf_get w g r, List.getElem?_cons_succ]
    rw [show i + 1 + j = i + (j + 1) by omega]

/-- A frame that differs in the written slots alone is one of those. -/
theorem frameOf_in {t : List Value} {l : List Oper} {lo n : Nat} {es : List Nat} (hr : inRange lo n es l = true) (hn : lo + n ≤ t.length) (g : Nat → Value) :
    frameOf t (writes l) g 0 = frameIn t lo n es (fun j => (frameOf t (writes l) g 0).getD j undef) := by
  apply List.ext_getElem?
  intro j
  have hlen : (t.take lo ++ ((List.range' lo n).map (fun j => (frameOf t (writes l) g 0).getD j undef) ++ t.drop (lo + n))).length = t.length := by simp; omega
  rw [frameIn, foldl_set_get]
  by_cases hj : j < t.length
  · have hf : (frameOf t (writes l) g 0)[j]? = some ((frameOf t (writes l) g 0).getD j undef) := by
      have : j < (frameOf t (writes l) g 0).length := by rw [frameOf_length]; exact hj
      simp [this]
    have hx : ∃ x, (t.take lo ++ ((List.range' lo n).map (fun j => (frameOf t (writes l) g 0).getD j undef) ++ t.drop (lo + n)))[j]? = some x := ⟨_, List.getElem?_eq_getElem (by rw [hlen]; exact hj)⟩
    by_cases he : es.contains j = true
    · obtain ⟨x, hx⟩ := hx
      rw [if_pos he, hx, hf]
      rfl
    · rw [if_neg he]
      by_cases h1 : lo ≤ j ∧ j < lo + n
      · rw [hf, List.getElem?_append_right (by simp; omega), List.getElem?_append_left (by simp; omega)]
        have : (List.range' lo n)[j - min lo t.length]? = some j := by
          rw [List.getElem?_range' (by omega)]
          simp; omega
        simp [this]
      · have hw : writes l j = false := by
          unfold writes
          rw [List.any_eq_false]
          intro o ho hd
          have := List.all_eq_true.1 hr o ho
          have hd' : o.dst = some j := by simpa using hd
          rw [hd'] at this
          simp only [Bool.or_eq_true, Bool.and_eq_true, Nat.ble_eq, Nat.blt_eq] at this
          rcases this with ⟨a, b⟩ | a
          · exact h1 ⟨a, b⟩
          · exact he a
        rw [frameOf_get]
        simp only [Nat.zero_add, hw, Bool.false_eq_true, if_false, Option.map_id']
        by_cases h2 : j < lo
        · rw [List.getElem?_append_left (by simp; omega), List.getElem?_take_of_lt h2]
        · rw [List.getElem?_append_right (by simp; omega), List.getElem?_append_right (by simp; omega), List.getElem?_drop]
          simp
          congr 1
          omega
  · rw [List.getElem?_eq_none (by rw [frameOf_length]; omega), List.getElem?_eq_none (by rw [hlen]; omega)]
    simp

theorem wp_evQ' {P : Program} {id : Nat} {l : List Oper} {Q : Exit → Act → World → Prop} {t : List Value} {ds : List Deferred} {w : World} (C : World → Prop) (hs : List QH) (ks : List Nat) (vs : List Value) (lo n : Nat) (es : List Nat)
    (hm : P.follows .mixedOrders = true) (hB : Region.lexB .any l.toArray = true) (hr : inRange lo n es l = true) (hn : Nat.ble (lo + n) t.length = true) (hks : (ks.all fun k => Nat.blt k t.length && writes l k) = true)
    (h : evQs P l.toArray l hs ⟨t.toArray, ds⟩ ks = some (vs, hintObs hs)) (hC : C { w with drawn := w.drawn + 1 }) (hobs : AllHold P C (hintObs hs))
    (hK : ∀ w' (g : Nat → Value), C w' → ks.map g = vs → Q .normal ⟨(frameIn t lo n es g).toArray, ds⟩ w') : (Code.region id l.toArray true).wp P Q ⟨t.toArray, ds⟩ w :=
  wp_evQ C hs ks vs hm hB h hC hobs fun w' g hw hg => by
    rw [frameOf_in hr (by simpa using hn) g]
    refine hK w' _ hw ?_
    rw [← hg]
    apply List.map_congr_left
    intro k hk
    have h1 := List.all_eq_true.1 hks k hk
    simp only [Bool.and_eq_true, Nat.blt_eq] at h1
    rw [List.getD_eq_getElem?_getD, frameOf_get]
    simp [h1.1, h1.2]

end Go.Proofs.YtoabiignjkcdmaaGreat
