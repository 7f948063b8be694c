/-
  Lemmas (texts FoldD FoldW1 FoldW2 FoldW3), each proved without a condition beyond its own hypotheses.
-/
import Derived.Test.YtoabiignjkcdmaaGreatFd25
import Derived.Maps.Ext
import Derived.Lib.SlMapFilter
import Derived.Lib.SlMapMerge
import Derived.Test.YtoabiignjkcdmaaGreatFd1
import Derived.Maps.OwnSet
import Derived.Test.YtoabiignjkcdmaaGreatFd21
import Derived.Test.YtoabiignjkcdmaaGreatFd5
namespace Go.Proofs.YtoabiignjkcdmaaGreat
open Go.RowKit Go.Maps
set_option linter.unusedVariables false
set_option linter.unusedSimpArgs false

abbrev DI := DataW Unit
def kI (x : Int) : Lit := .int .i64 x
theorem isKey (x : Int) : WideAt.IsKeyLit (kI x) := True.intro
theorem kI_inj {x y : Int} (h : kI x = kI y) : x = y := by cases h; rfl
theorem kI_ne {x y : Int} (h : x ≠ y) : kI x ≠ kI y := fun e => h (kI_inj e)
/-- A map's datum reads as g: at key x stands what g says. -/
structure Reads {α : Type} (E : α → DI) (D : DI) (g : Int → Option α) : Prop where
  t : ∃ es, D = .map es ∧ es.Pairwise (fun p q => p.1 ≠ q.1) ∧ (∀ p ∈ es, ∃ x y, g x = some y ∧ p = (kI x, E y)) ∧ ∀ x y, g x = some y → (kI x, E y) ∈ es
section
variable {α : Type} {E : α → DI} {D : DI} {g : Int → Option α}
theorem Reads.z : Reads E (.map []) (fun _ => (none : Option α)) := ⟨[], rfl, List.Pairwise.nil, (fun _ h => by cases h), (fun _ _ h => by cases h)⟩
theorem Reads.tidy (h : Reads E D g) : Tidy D := by obtain ⟨es, e, h1, -⟩ := h.t; exact ⟨es, e, h1⟩
theorem Reads.at_some (h : Reads E D g) {x : Int} {y : α} (e : g x = some y) (z : DI) : D.atKey (kI x) z = E y := by
  obtain ⟨es, rfl, h1, h2, h3⟩ := h.t
  exact WideAt.atKey_mem z (isKey x) h1 (h3 x y e)
theorem Reads.has_some (h : Reads E D g) {x : Int} {y : α} (e : g x = some y) : Maps.has D (kI x) = true := by
  obtain ⟨es, rfl, h1, h2, h3⟩ := h.t
  rw [Maps.has_eq, List.any_eq_true]
  exact ⟨_, h3 x y e, WideAt.sameKey_self (isKey x)⟩
theorem Reads.has_none (h : Reads E D g) {x : Int} (e : g x = none) : Maps.has D (kI x) = false := by
  obtain ⟨es, rfl, h1, h2, h3⟩ := h.t
  rw [Maps.has_eq, List.any_eq_false]
  intro p hp hs
  obtain ⟨x', y, e1, rfl⟩ := h2 p hp
  have := kI_inj (WideAt.sameKey_eq hs)
  subst this
  rw [e] at e1; cases e1
theorem Reads.has_eq (h : Reads E D g) (x : Int) : Maps.has D (kI x) = (g x).isSome := by
  cases e : g x with
  | some y => exact h.has_some e
  | none => exact h.has_none e
theorem Reads.at_none (h : Reads E D g) {x : Int} (e : g x = none) (z : DI) : D.atKey (kI x) z = z := atKey_of_not_has (h.has_none e) z
theorem Reads.congr (h : Reads E D g) {g' : Int → Option α} (e : ∀ x, g x = g' x) : Reads E D g' := by
  have : g = g' := funext e
  exact this ▸ h
theorem Reads.put (h : Reads E D g) (d : Int) (v : α) : Reads E (D.put (kI d) (E v)) (fun k => if k = d then some v else g k) := by
  have ht := h.tidy.put (isKey d) (E v)
  obtain ⟨es, rfl, h1, h2, h3⟩ := h.t
  obtain ⟨es', e', h1'⟩ := ht
  refine ⟨es', e', h1', ?_⟩
  have e2 : DataW.insert (kI d, E v) (es.filter fun p => !p.1.sameKey (kI d)) = es' := by
    have : DataW.map (DataW.insert (kI d, E v) (es.filter fun p => !p.1.sameKey (kI d))) = .map es' := e'
    injection this
  have hm : ∀ p, p ∈ es' ↔ p = (kI d, E v) ∨ (p ∈ es ∧ p.1 ≠ kI d) := by
    intro p
    rw [← e2, ChangeMaps.mem_insert_iff, List.mem_filter]
    constructor
    · rintro (h | ⟨h, hs⟩)
      · exact .inl h
      · refine .inr ⟨h, fun e => ?_⟩
        rw [e, WideAt.sameKey_self (isKey d)] at hs
        cases hs
    · rintro (h | ⟨h, hs⟩)
      · exact .inl h
      · exact .inr ⟨h, by rw [sameKey_ne hs]; rfl⟩
  constructor
  · intro p hp
    rcases (hm p).1 hp with rfl | ⟨hp, hne⟩
    · exact ⟨d, v, if_pos rfl, rfl⟩
    · obtain ⟨x, y, e1, rfl⟩ := h2 p hp
      exact ⟨x, y, by rw [if_neg (fun e => hne (by rw [e]))]; exact e1, rfl⟩
  · intro x y hx
    by_cases e : x = d
    · rw [if_pos e] at hx; cases hx
      exact (hm _).2 (.inl (by rw [e]))
    · rw [if_neg e] at hx
      exact (hm _).2 (.inr ⟨h3 x y hx, kI_ne e⟩)
theorem Reads.filter (h : Reads E D g) {f : Lit × DI → Bool} {fb : Int → α → Bool} (hf : ∀ x y, f (kI x, E y) = fb x y) :
    ∃ es, D = .map es ∧ Reads E (.map (es.filter f)) (fun k => (g k).filter (fb k)) := by
  obtain ⟨es, rfl, h1, h2, h3⟩ := h.t
  refine ⟨es, rfl, es.filter f, rfl, h1.filter _, ?_, ?_⟩
  · intro p hp
    obtain ⟨hp, hpf⟩ := List.mem_filter.1 hp
    obtain ⟨x, y, e1, rfl⟩ := h2 p hp
    rw [hf] at hpf
    exact ⟨x, y, by simp [e1, hpf], rfl⟩
  · intro x y hx
    simp only [Option.filter_eq_some_iff] at hx
    exact List.mem_filter.2 ⟨h3 x y hx.1, by rw [hf]; exact hx.2⟩
theorem Reads.del (h : Reads E D g) (d : Int) : Reads E (D.del (kI d)) (fun k => if k = d then none else g k) := by
  obtain ⟨es, rfl, h1⟩ := h.filter (f := fun p => !p.1.sameKey (kI d)) (fb := fun x _ => decide (x ≠ d)) (fun x y => by
    by_cases e : x = d
    · subst e; simp [WideAt.sameKey_self (isKey x)]
    · simp [sameKey_ne (kI_ne e), e])
  refine Reads.congr (D := (DataW.map es).del (kI d)) h1 fun x => ?_
  by_cases e : x = d
  · rw [if_pos e]; cases g x <;> simp [e]
  · rw [if_neg e]; cases g x <;> simp [e]
theorem Reads.strike (h : Reads E D g) {pd : Lit → DI → Bool} {pb : Int → α → Bool} (hp : ∀ x y, pd (kI x) (E y) = pb x y) :
    Reads E (Lib.deleteFuncD pd D) (fun k => (g k).filter (fun y => !pb k y)) := by
  obtain ⟨es, rfl, h1⟩ := h.filter (f := fun p => !pd p.1 p.2) (fb := fun x y => !pb x y) (fun x y => by simp only [hp])
  exact h1
theorem Reads.foldPut : ∀ (es : List (Lit × DI)) (D : DI) (g g2 : Int → Option α), Reads E D g → es.Pairwise (fun p q => p.1 ≠ q.1) → (∀ p ∈ es, ∃ x y, g2 x = some y ∧ p = (kI x, E y)) →
    Reads E (es.foldl (fun D p => D.put p.1 p.2) D) (fun k => if es.any (fun p => p.1.sameKey (kI k)) then g2 k else g k)
  | [], D, g, g2, h, _, _ => h
  | a :: r, D, g, g2, h, hp, h2 => by
    obtain ⟨x, y, e1, rfl⟩ := h2 a (by simp)
    have ih := Reads.foldPut r _ _ g2 (h.put x y) (List.pairwise_cons.1 hp).2 (fun p hp => h2 p (List.mem_cons_of_mem _ hp))
    refine Reads.congr (D := List.foldl (fun D p => D.put p.1 p.2) (D.put (kI x) (E y)) r) ih fun k => ?_
    by_cases e : k = x
    · subst e
      rw [List.any_cons, WideAt.sameKey_self (isKey k)]
      simp only [if_true, Bool.true_or, ite_true]
      split <;> simp [e1]
    · rw [List.any_cons, sameKey_ne (kI_ne (Ne.symm e)), Bool.false_or, if_neg e]
theorem Reads.merge {D2 : DI} {g2 : Int → Option α} (h : Reads E D g) (h2 : Reads E D2 g2) : Reads E (Lib.mergeD D D2) (fun k => (g2 k).or (g k)) := by
  obtain ⟨es, rfl, q1, q2, q3⟩ := h2.t
  have := Reads.foldPut es D g g2 h q1 q2
  refine Reads.congr (D := es.foldl (fun D p => D.put p.1 p.2) D) this fun k => ?_
  have hh := h2.has_eq k
  rw [Maps.has_eq] at hh
  rw [hh]
  cases e : g2 k <;> simp
theorem length_le_of_sub : ∀ (l l' : List Int), l.Nodup → (∀ x ∈ l, x ∈ l') → l.length ≤ l'.length
  | [], l', _, _ => Nat.zero_le _
  | a :: l, l', hn, h => by
    obtain ⟨h1, h2⟩ := List.nodup_cons.1 hn
    have ha := h a (by simp)
    have := length_le_of_sub l (l'.erase a) h2 (fun x hx => by
      have hxa : x ≠ a := fun e => h1 (e ▸ hx)
      exact (List.mem_erase_of_ne hxa).2 (h x (by simp [hx])))
    have e := List.length_erase_of_mem ha
    have hp : 0 < l'.length := List.length_pos_of_mem ha
    rw [List.length_cons]
    omega
/-- How many entries there are. -/
theorem Reads.size (h : Reads E D g) {n : Nat} (hn : ∀ x y, g x = some y → 0 ≤ x ∧ x < (n : Int)) : Maps.size D = ((List.range n).filter fun (i : Nat) => (g (i : Int)).isSome).length := by
  obtain ⟨es, rfl, h1, h2, h3⟩ := h.t
  have e0 : ∃ l : List Int, es.map (·.1) = l.map kI ∧ (∀ x, x ∈ l ↔ (g x).isSome = true) ∧ l.Nodup ∧ l.length = es.length := by
    refine ⟨es.map fun p => match p.1 with | .int _ x => x | _ => 0, ?_, ?_, ?_, by simp⟩
    · rw [List.map_map]
      refine List.map_congr_left fun p hp => ?_
      obtain ⟨x, y, e1, rfl⟩ := h2 p hp
      rfl
    · intro x
      rw [List.mem_map, Option.isSome_iff_exists]
      constructor
      · rintro ⟨p, hp, e⟩
        obtain ⟨x', y, e1, rfl⟩ := h2 p hp
        have e : x' = x := e
        subst e
        exact ⟨y, e1⟩
      · rintro ⟨y, e⟩
        exact ⟨_, h3 x y e, rfl⟩
    · unfold List.Nodup
      rw [List.pairwise_map]
      refine h1.imp_of_mem fun {p q} hp hq hne => ?_
      obtain ⟨x, y, e1, rfl⟩ := h2 p hp
      obtain ⟨x', y', e1', rfl⟩ := h2 q hq
      intro e
      have e : x = x' := e
      exact hne (by rw [e])
  obtain ⟨l, -, hl, hnd, hlen⟩ := e0
  have hr : ∀ x, x ∈ (((List.range n).filter fun (i : Nat) => (g (i : Int)).isSome).map fun (i : Nat) => (i : Int)) ↔ (g x).isSome = true := by
    intro x
    rw [List.mem_map]
    constructor
    · rintro ⟨i, hi, rfl⟩
      simpa using (List.mem_filter.1 hi).2
    · intro hx
      obtain ⟨y, hy⟩ := Option.isSome_iff_exists.1 hx
      obtain ⟨h0, h1⟩ := hn x y hy
      have e : ((x.toNat : Nat) : Int) = x := by omega
      exact ⟨x.toNat, List.mem_filter.2 ⟨List.mem_range.2 (by omega), by rw [e]; exact hx⟩, e⟩
  have hnr : (((List.range n).filter fun (i : Nat) => (g (i : Int)).isSome).map fun (i : Nat) => (i : Int)).Nodup := by
    unfold List.Nodup
    rw [List.pairwise_map]
    have : (List.range n).Nodup := List.nodup_range
    exact (List.Pairwise.filter _ this).imp fun hne e => hne (by omega)
  have a1 := length_le_of_sub _ _ hnd (fun x hx => (hr x).2 ((hl x).1 hx))
  have a2 := length_le_of_sub _ _ hnr (fun x hx => (hl x).2 ((hr x).1 hx))
  rw [List.length_map] at a1 a2
  show es.length = _
  omega
theorem Reads.size_le (h : Reads E D g) {n : Nat} (hn : ∀ x y, g x = some y → 0 ≤ x ∧ x < (n : Int)) : Maps.size D ≤ n := by
  rw [h.size hn]
  exact Nat.le_trans (List.length_filter_le _ _) (by simp)
end

/-! ### wants -/
def wantG (w : Want) : Int → Option Unit := fun k => if w k = true then some () else none
def eT : Unit → DI := fun _ => .lit (.bool true)
abbrev ReadsW (D : DI) (w : Want) : Prop := Reads eT D (wantG w)
abbrev ReadsI (q : IntKind) (D : DI) (g : Int → Option Int) : Prop := Reads (fun y => .lit (.int q y)) D g
theorem ReadsW.z : ReadsW (.map []) (fun _ => false) := Reads.z.congr fun _ => rfl
theorem ReadsW.put {D : DI} {w : Want} (h : ReadsW D w) (d : Int) : ReadsW (D.put (kI d) (.lit (.bool true))) (w.add d) :=
  (Reads.put h d ()).congr fun x => by
    unfold wantG Want.add
    by_cases e : x = d
    · simp [e]
    · simp [e]
theorem ReadsW.del {D : DI} {w : Want} (h : ReadsW D w) (d : Int) : ReadsW (D.del (kI d)) (w.del d) :=
  (Reads.del h d).congr fun x => by
    unfold wantG Want.del
    by_cases e : x = d
    · simp [e]
    · simp [e]
theorem ReadsW.merge {D D2 : DI} {w w2 : Want} (h : ReadsW D w) (h2 : ReadsW D2 w2) : ReadsW (Lib.mergeD D D2) (fun k => w k || w2 k) :=
  (Reads.merge h h2).congr fun x => by
    show (wantG w2 x).or (wantG w x) = if (w x || w2 x) = true then some () else none
    unfold wantG
    cases w x <;> cases w2 x <;> rfl
theorem ReadsW.size {D : DI} {w : Want} (h : ReadsW D w) {n : Nat} (hn : w.In n) : Maps.size D = w.sz n := by
  rw [Reads.size h (n := n) (fun x y e => hn x (by
    unfold wantG at e
    split at e
    · assumption
    · cases e))]
  unfold Want.sz
  congr 1
  refine List.filter_congr fun i _ => ?_
  unfold wantG
  cases w (i : Int) <;> rfl
theorem ReadsW.at {D : DI} {w : Want} (h : ReadsW D w) (x : Int) : D.atKey (kI x) (.lit (.bool false)) = .lit (.bool (w x)) := by
  cases e : w x with
  | true => exact Reads.at_some h (by unfold wantG; rw [if_pos e]) _
  | false => exact Reads.at_none h (by unfold wantG; rw [if_neg (by rw [e]; decide)]) _
/-! ### facts -/
theorem readsI_set {q : IntKind} {D D2 : DI} {f : Fx} (h : ReadsI q D f.nums) (h2 : ReadsI .i64 D2 f.same) (v : Int) {pd : Lit → DI → Bool} (hp : ∀ x y, pd (kI x) (.lit (.int .i64 y)) = (y == v)) :
    ReadsI q (D.del (kI v)) (f.set v).nums ∧ ReadsI .i64 (Lib.deleteFuncD pd (D2.del (kI v))) (f.set v).same := by
  refine ⟨(Reads.del h v).congr fun _ => rfl, (Reads.strike (Reads.del h2 v) (pb := fun _ y => y == v) hp).congr fun x => ?_⟩
  show Option.filter _ (if x = v then none else f.same x) = if x = v then none else if f.same x = some v then none else f.same x
  by_cases e : x = v
  · rw [if_pos e, if_pos e]; rfl
  · rw [if_neg e, if_neg e]
    cases e2 : f.same x with
    | none => rfl
    | some y =>
      by_cases e3 : y = v
      · simp [e3]
      · simp [e3]
end Go.Proofs.YtoabiignjkcdmaaGreat

namespace Go.Proofs.YtoabiignjkcdmaaGreat
open Go.RowKit
set_option linter.unusedVariables false
set_option linter.unusedSimpArgs false

set_option maxHeartbeats 400000 in
theorem works_c (k fn d a b imm : Int) (w : World) : Calls Tryz.prog 79 #[.agg #[.int .u8 k, .int .u8 fn, .int .i64 d, .int .i64 a, .int .i64 b, .int .u64 imm]] w fun e w' => e = .returned (.bool (worksB k)) ∧ Below w.heap.size w w' := by
  go_enter Tryz.func79, Tryz.ntmps79
  go_wp2
  all_goals
    go_ret
    refine ⟨?_, (Below.refl _ _).alloc (Nat.le_refl _) _⟩
    simp [worksB, *]
    try omega
set_option maxHeartbeats 400000 in
theorem sets_c (k fn d a b imm : Int) (w : World) : Calls Tryz.prog 76 #[.agg #[.int .u8 k, .int .u8 fn, .int .i64 d, .int .i64 a, .int .i64 b, .int .u64 imm]] w fun e w' => e = .returned (.bool (setsB k)) ∧ Below w.heap.size w w' := by
  go_enter Tryz.func76, Tryz.ntmps76
  go_wp2
  all_goals
    go_ret
    refine ⟨?_, (Below.refl _ _).alloc (Nat.le_refl _) _⟩
    simp [setsB, *]
    try omega
/-- The list of what a step asks, of the call's own. -/
def AsksPost (o : SOp) (w : World) (e : Ending) (w' : World) : Prop :=
  ∃ A c, e = .returned (.slice A (asksL o).length c) ∧ Below w.heap.size w w' ∧ ∀ i (h : i < (asksL o).length), ∃ b, A = some ⟨b, 0, none⟩ ∧ w.heap.size ≤ b ∧ w'.cell? ⟨b, i, none⟩ = some (.int .i64 (asksL o)[i])
set_option maxHeartbeats 2000000 in
theorem asks_lit (k : Int) (hk : k = 1 ∨ k = 2 ∨ k = 3 ∨ k = 4 ∨ k = 5 ∨ k = 6 ∨ k = 7 ∨ k = 8 ∨ k = 9 ∨ k = 10 ∨ k = 11 ∨ k = 12 ∨ k = 13) (fn d a b imm : Int) (w : World) :
    Calls Tryz.prog 74 #[.agg #[.int .u8 k, .int .u8 fn, .int .i64 d, .int .i64 a, .int .i64 b, .int .u64 imm]] w (AsksPost ⟨k, fn, d, a, b, imm⟩ w) := by
  have hb1 : ∀ x : Obj, Below w.heap.size w (w.alloc x) := fun x => (Below.refl w.heap.size w).alloc (Nat.le_refl _) _
  have hb2 : ∀ x y : Obj, Below w.heap.size w ((w.alloc x).alloc y) := fun x y => ((Below.refl w.heap.size w).alloc (Nat.le_refl _) _).alloc (by simp) _
  have hB2 : ∀ x : Obj, Bk ((w.alloc x).alloc (.cells #[.int .i64 a, .int .i64 b] 3)) (w.heap.size + 1) #[.int .i64 a, .int .i64 b] 3 := fun x => Bk.newAt _ _ (by simp)
  rcases hk with rfl | rfl | rfl | rfl | rfl | rfl | rfl | rfl | rfl | rfl | rfl | rfl | rfl
  all_goals
    go_enter Tryz.func74, Tryz.ntmps74
    go_wp2
    go_ret
    first
      | exact ⟨none, 0, rfl, hb1 _, fun i h => absurd h (Nat.not_lt_zero _)⟩
      | exact ⟨some ⟨w.heap.size + 1, 0, none⟩, 1, rfl, hb2 _ _, fun i h => ⟨w.heap.size + 1, rfl, Nat.le_succ _, by
          have : i = 0 := by have : i < 1 := h; omega
          subst this
          exact (Bk.newAt (w := w.alloc _) (n := w.heap.size + 1) #[.int .i64 a] 3 (by simp)).cell 0⟩⟩
      | exact ⟨some ⟨w.heap.size + 1, 0, none⟩, 2, rfl, hb2 _ _, fun i h => ⟨w.heap.size + 1, rfl, Nat.le_succ _, by
          have h2 : i < 2 := h
          rcases (show i = 0 ∨ i = 1 by omega) with rfl | rfl
          · exact (hB2 _).cell 0
          · exact (hB2 _).cell 1⟩⟩
end Go.Proofs.YtoabiignjkcdmaaGreat

namespace Go.Proofs.YtoabiignjkcdmaaGreat
open Go.RowKit Go.Maps
set_option linter.unusedVariables false
set_option linter.unusedSimpArgs false

/-- w' is w but for the blocks of S, and new ones. -/
structure TB (S : Nat → Prop) (w w' : World) : Prop where
  os : w'.os = w.os
  tape : w'.tape = w.tape
  output : w'.output = w.output
  size : w.heap.size ≤ w'.heap.size
  block : ∀ k, k < w.heap.size → ¬ S k → w'.heap[k]? = w.heap[k]?
section
variable {S S' : Nat → Prop} {w w' w'' : World}
theorem TB.refl (S : Nat → Prop) (w : World) : TB S w w := ⟨rfl, rfl, rfl, Nat.le_refl _, fun _ _ _ => rfl⟩
theorem TB.trans (h : TB S w w') (k : TB S w' w'') : TB S w w'' :=
  ⟨k.os.trans h.os, k.tape.trans h.tape, k.output.trans h.output, Nat.le_trans h.size k.size, fun i hi hs => (k.block i (Nat.lt_of_lt_of_le hi h.size) hs).trans (h.block i hi hs)⟩
theorem TB.mono (h : TB S w w') (hs : ∀ k, k < w.heap.size → S k → S' k) : TB S' w w' := ⟨h.os, h.tape, h.output, h.size, fun k hk hn => h.block k hk (fun e => hn (hs k hk e))⟩
theorem TB.of_below (h : Below w.heap.size w w') : TB S w w' := ⟨h.os, h.tape, h.output, h.size, fun k hk _ => h.block k hk⟩
theorem TB.of_belowB {B : Nat} (h : Below B w w') (hs : ∀ k, B ≤ k → S k) : TB S w w' := ⟨h.os, h.tape, h.output, h.size, fun k hk hn => h.block k (Nat.lt_of_not_le fun e => hn (hs k e))⟩
theorem TB.of_grown {row : Option Nat} (h : w.grownBy w' row) (hs : ∀ k, row = some k → S k) : TB S w w' := ⟨h.os, h.tape, h.output, h.size, fun k hk hn => h.block k hk (fun e => hn (hs k e.symm))⟩
theorem TB.below {B : Nat} (h : TB S w w') (hB : B ≤ w.heap.size) (hs : ∀ k, S k → B ≤ k) : Below B w w' := ⟨h.os, h.tape, h.output, h.size, fun k hk => h.block k (Nat.lt_of_lt_of_le hk hB) (fun e => Nat.not_lt_of_le (hs k e) hk)⟩
theorem TB.alloc (h : TB S w w') (o : Obj) : TB S w (w'.alloc o) := h.trans (TB.of_below ((Below.refl _ _).alloc (Nat.le_refl _) _))
theorem TB.drew (h : TB S w w') : TB S w w'.drew := ⟨h.os, h.tape, h.output, h.size, h.block⟩
theorem TB.cell (h : TB S w w') {a : Addr} {v : Value} (hc : w.cell? a = some v) (hn : ¬ S a.block) : w'.cell? a = some v := (World.cell?_of_block (h.block _ (World.block_lt_of_cell? w a hc) hn)).trans hc
theorem Bk.tb {n : Nat} {cs : Array Value} {t : TypeId} (h : Bk w n cs t) (ht : TB S w w') (hn : ¬ S n) : Bk w' n cs t := (ht.block n h.lt hn).trans h
theorem map_tb {H : Type} {P : Program} {k : TypeId} {R : Value → Option (DataW H × List MemPlace)} {b n : Nat} {D : DataW H} (h : w.ownsMap P k R b n D) (ht : TB S w w') (hn : ¬ S b) : w'.ownsMap P k R b n D := by
  have hlt := h.lt
  obtain ⟨es, clock, hb, r⟩ := h
  exact ⟨es, clock, (ht.block b hlt hn).trans hb, r⟩
theorem map_fit {H : Type} {P : Program} {k : TypeId} {R : Value → Option (DataW H × List MemPlace)} {b n : Nat} {D : DataW H} (h : w.ownsMap P k R b n D) : w.ownsMap P k R b (Maps.size D) D := by
  obtain ⟨es, clock, hb, F, hs, rfl⟩ := h
  exact ⟨es, clock, hb, F, by simp [Maps.size, length_sorted], rfl⟩
theorem own_tb {base sz n : Nat} {e : TypeId} {v : Value} {xs : List Value} (h : w.ownsRow base e sz v n xs) (ht : TB S w w') (hn : ∀ k, v.ownBlock = some k → ¬ S k) : w'.ownsRow base e sz v n xs := by
  refine ⟨h.1, ?_⟩
  rcases h.2 with hz | ⟨g, cap, cur, rfl, hb, hgg, rest⟩
  · exact .inl hz
  · exact .inr ⟨g, cap, cur, rfl, hb, (ht.block g (Array.getElem?_eq_some_iff.1 hgg).1 (hn g rfl)).trans hgg, rest⟩
end

/-! ### What is known within a block -/
theorem kInt_law : Keyed Tryz.prog 3 := int_keyed Tryz.underlying3
def NumsAt (w : World) (b : Nat) (g : Int → Option Int) : Prop := ∃ D : DI, w.ownsMap Tryz.prog 3 (plainElem Tryz.prog 46) b (Maps.size D) D ∧ ReadsI .u64 D g
def SameAt (w : World) (b : Nat) (g : Int → Option Int) : Prop := ∃ D : DI, w.ownsMap Tryz.prog 3 (plainElem Tryz.prog 3) b (Maps.size D) D ∧ ReadsI .i64 D g
structure Fx.St (f : Fx) (n : Nat) : Prop where
  nums : ∀ k x, f.nums k = some x → (0 ≤ k ∧ k < (n : Int)) ∧ 0 ≤ x ∧ x < 18446744073709551616
  same : ∀ k x, f.same k = some x → (0 ≤ k ∧ k < (n : Int)) ∧ 0 ≤ x ∧ x < (n : Int)
structure Fcts (w : World) (p bn bs n : Nat) (f : Fx) : Prop where
  pc : Bk w p #[.map (some bn), .map (some bs)] 107
  nm : NumsAt w bn f.nums
  sm : SameAt w bs f.same
  st : f.St n
  ne : p ≠ bn ∧ p ≠ bs ∧ bn ≠ bs
theorem NumsAt.tb {S : Nat → Prop} {w w' : World} {b : Nat} {g : Int → Option Int} (h : NumsAt w b g) (ht : TB S w w') (hn : ¬ S b) : NumsAt w' b g := by
  obtain ⟨D, h1, h2⟩ := h
  exact ⟨D, map_tb h1 ht hn, h2⟩
theorem SameAt.tb {S : Nat → Prop} {w w' : World} {b : Nat} {g : Int → Option Int} (h : SameAt w b g) (ht : TB S w w') (hn : ¬ S b) : SameAt w' b g := by
  obtain ⟨D, h1, h2⟩ := h
  exact ⟨D, map_tb h1 ht hn, h2⟩
theorem NumsAt.lt {w : World} {b : Nat} {g : Int → Option Int} (h : NumsAt w b g) : b < w.heap.size := by obtain ⟨D, h1, h2⟩ := h; exact h1.lt
theorem SameAt.lt {w : World} {b : Nat} {g : Int → Option Int} (h : SameAt w b g) : b < w.heap.size := by obtain ⟨D, h1, h2⟩ := h; exact h1.lt
theorem Fcts.below {w w' : World} {p bn bs n : Nat} {f : Fx} (h : Fcts w p bn bs n f) (hb : Below w.heap.size w w') : Fcts w' p bn bs n f :=
  ⟨h.pc.mono hb, h.nm.tb (S := fun _ => False) (TB.of_below hb) id, h.sm.tb (S := fun _ => False) (TB.of_below hb) id, h.st, h.ne⟩
theorem Fx.St.set {f : Fx} {n : Nat} (h : f.St n) (d : Int) : (f.set d).St n where
  nums := fun k x hk => by
    unfold Fx.set at hk
    simp only at hk
    split at hk
    · cases hk
    · exact h.nums k x hk
  same := fun k x hk => by
    unfold Fx.set at hk
    simp only at hk
    split at hk
    · cases hk
    · split at hk
      · cases hk
      · exact h.same k x hk
theorem Fx.St.of {f : Fx} {n : Nat} (h : f.St n) {v : Int} (hv : 0 ≤ v ∧ v < (n : Int)) : 0 ≤ f.of v ∧ f.of v < (n : Int) := by
  unfold Fx.of
  cases e : f.same v with
  | none => exact hv
  | some x => exact (h.same v x e).2
end Go.Proofs.YtoabiignjkcdmaaGreat

namespace Go.Proofs.YtoabiignjkcdmaaGreat
open Go.RowKit Go.Maps Go.Shelf Go.Proofs.YtoabiignjkcdmaaGreatW.PrintLast
set_option linter.unusedVariables false
set_option linter.unusedSimpArgs false

theorem wf64 {x : Int} (h0 : -9223372036854775808 ≤ x) (h1 : x < 9223372036854775808) : (Lit.int .i64 x).wf = true := WalkArith.wf_i64 ⟨h0, by omega⟩
theorem keyI {x : Int} (h0 : -9223372036854775808 ≤ x) (h1 : x < 9223372036854775808) : keyOf Tryz.prog 3 (.int .i64 x) = some (kI x) := keyOf_int_mk Tryz.underlying3 (wf64 h0 h1)

/-! ### Steps of a region that draws its order -/
section
variable {P : Program} {ops : Array Oper} {Q : Exit → Act → World → Prop} {oi : Oper} {N : Option Tmp} {a : Act} {w : World} {K : Act → World → Prop}
/-- A key is struck out of a map. -/
theorem delete_ (hw : Region.wanted oi (yielded ops a.tmps) = true) (hN : oi.dst = none) (m x : Operand) (t k : TypeId) (hop : oi.op = Op.call { callee := Callee.builtin Builtin.delete, args := #[m, x], argTypes := #[t, k] }) (e : TypeId) (K0 : Keyed P k) (ht : P.underlying t = some (.map k e))
    (R : Value → Option (DI × List MemPlace)) (b n : Nat) (D : DI) (hm : a.eval m = .map (some b)) (hown : w.ownsMap P k R b n D) (key : Value) (kl : Lit) (hx : a.eval x = key) (hkey : keyOf P k key = some kl)
    (h : ∀ w', w'.ownsMap P k R b n (D.del kl) → w.mapTurned w' b → K a w') : if Region.wanted oi (yielded ops a.tmps) = true then Oper.wp P oi a w K Q else K (a.put none undef) w := by
  obtain ⟨w', hrun, r1, r2⟩ := hown.drop K0 ht hkey oi.type
  refine value_ (w1 := w') (v := .tuple #[]) hw hN ?_ (h w' r1 r2)
  unfold execOp
  simp [hop, resolve, invoke, builtin, hm, hx, hrun, Result.andThen]
/-- A key is put into a map. -/
theorem update_ (hw : Region.wanted oi (yielded ops a.tmps) = true) (hN : oi.dst = none) (m x v : Operand) (t : TypeId) (hop : oi.op = Op.mapUpdate t m x v) (k e : TypeId) (K0 : Keyed P k) (ht : P.underlying t = some (.map k e))
    (R : Value → Option (DI × List MemPlace)) (b n : Nat) (D : DI) (hm : a.eval m = .map (some b)) (hown : w.ownsMap P k R b n D) (hn : n < maxLen) (key val : Value) (kl : Lit) (hx : a.eval x = key) (hv : a.eval v = val) (hkey : keyOf P k key = some kl) (d : DI) (ps : List MemPlace) (hval : R val = some (d, ps))
    (h : ∀ w', w'.ownsMap P k R b (n + 1) (D.put kl d) → w.mapTurned w' b → K a w') : if Region.wanted oi (yielded ops a.tmps) = true then Oper.wp P oi a w K Q else K (a.put none undef) w := by
  obtain ⟨w', hrun, r1, r2⟩ := hown.store K0 ht hn hkey hval
  refine skip_ (w1 := w') hw hN ?_ (h w' r1 r2)
  unfold execOp
  simp [hop, hm, hx, hv, hrun, Result.andThen]
/-- What stands at a key of a map of numbers. -/
theorem look_run {q : IntKind} {k e t : TypeId} (K0 : Keyed P k) (ht : P.underlying t = some (.map k e)) (he : P.underlying e = some (.int q)) (hz : (zeroValue e).run P w = .ok (.int q 0) w) {b n : Nat} {D : DI} (hown : w.ownsMap P k (plainElem P e) b n D) {g : Int → Option Int} (hr : ReadsI q D g)
    {x : Int} (hkey : keyOf P k (.int .i64 x) = some (kI x)) : (Instr.lookup t (.map (some b)) (.int .i64 x) true).run P w = .ok (.tuple #[.int q ((g x).getD 0), .bool (g x).isSome]) w := by
  have hw0 : (Lit.int q 0).wf = true := by cases q <;> decide
  obtain ⟨v, ps, hrun, hv⟩ := hown.look_ok K0 ht hz (plainElem_int he hw0) hkey
  obtain ⟨c, rfl, hc, -⟩ := plainElem_int_inv he hv
  simp only [Prod.mk.injEq] at hc
  rw [hrun, hr.has_eq]
  cases e : g x with
  | none =>
    have := hr.at_none e (.lit (.int q 0))
    rw [this] at hc
    cases hc.1
    rfl
  | some y =>
    have := hr.at_some e (.lit (.int q 0))
    rw [this] at hc
    cases hc.1
    rfl
theorem look_ {q : IntKind} (hw : Region.wanted oi (yielded ops a.tmps) = true) (hN : oi.dst = N) (m x : Operand) (t : TypeId) (hop : oi.op = Op.lookup t m x true) (k e : TypeId) (K0 : Keyed P k) (ht : P.underlying t = some (.map k e)) (he : P.underlying e = some (.int q)) (hz : (zeroValue e).run P w = .ok (.int q 0) w)
    (b n : Nat) (D : DI) (hm : a.eval m = .map (some b)) (hown : w.ownsMap P k (plainElem P e) b n D) (g : Int → Option Int) (hr : ReadsI q D g) (y : Int) (hx : a.eval x = .int .i64 y) (hkey : keyOf P k (.int .i64 y) = some (kI y))
    (h : K (a.put N (.tuple #[.int q ((g y).getD 0), .bool (g y).isSome])) w) : if Region.wanted oi (yielded ops a.tmps) = true then Oper.wp P oi a w K Q else K (a.put N undef) w := by
  refine value_ (w1 := w) hw hN ?_ h
  unfold execOp
  simp [hop, hm, hx, look_run K0 ht he hz hown hr hkey, Result.andThen]
end

/-! ### The variable that stands for one -/
set_option maxRecDepth 100000 in
set_option maxHeartbeats 1000000 in
theorem of_c {w : World} {p bn bs n : Nat} {f : Fx} (h : Fcts w p bn bs n f) (v : Int) (h0 : -9223372036854775808 ≤ v) (h1 : v < 9223372036854775808) :
    Calls Tryz.prog 56 #[.pointer (some ⟨p, 0, none⟩), .int .i64 v] w fun e w' => e = .returned (.int .i64 (f.of v)) ∧ Below w.heap.size w w' := by
  obtain ⟨D, hown, hr⟩ := h.sm
  have c1 : w.cell? ⟨p, 1, none⟩ = some (.map (some bs)) := h.pc.cell 1
  have hl := look_run (t := 105) kInt_law Tryz.underlying105 Tryz.underlying3 (Tryz.zeroValue3 w) hown hr (keyI h0 h1)
  unfold Fx.of
  clear h hr
  cases e : f.same v with
  | none =>
    rw [e] at hl
    have hl : (Instr.lookup 105 (.map (some bs)) (.int .i64 v) true).run Tryz.prog w = .ok (.tuple #[.int .i64 0, .bool false]) w := hl
    go_enter Tryz.func56, Tryz.ntmps56
    go_wp2
    go_ret
    exact ⟨rfl, Below.refl _ _⟩
  | some x =>
    rw [e] at hl
    have hl : (Instr.lookup 105 (.map (some bs)) (.int .i64 v) true).run Tryz.prog w = .ok (.tuple #[.int .i64 x, .bool true]) w := hl
    go_enter Tryz.func56, Tryz.ntmps56
    go_wp2
    go_ret
    exact ⟨rfl, Below.refl _ _⟩

/-! ### What is forgotten -/
def isV (v : Int) (_ : Lit) : DI → Bool
  | .lit (.int _ x) => x == v
  | _ => false
set_option maxHeartbeats 400000 in
theorem setDel_c (k : Value) (x v : Int) (bx : Nat) (W : World) (hx : W.cell? ⟨bx, 0, none⟩ = some (.int .i64 v)) :
    Calls Tryz.prog 110 (#[k, .int .i64 x] ++ #[.pointer (some ⟨bx, 0, none⟩)]) W fun e w' => e = .returned (.bool (x == v)) ∧ w' = W := by
  go_enter Tryz.func110, Tryz.ntmps110
  go_wp2
  go_ret
  exact ⟨rfl, rfl⟩
set_option maxRecDepth 100000 in
set_option maxHeartbeats 2000000 in
theorem set_c {w : World} {p bn bs n : Nat} {f : Fx} (h : Fcts w p bn bs n f) (v : Int) (h0 : -9223372036854775808 ≤ v) (h1 : v < 9223372036854775808) :
    Calls Tryz.prog 77 #[.pointer (some ⟨p, 0, none⟩), .int .i64 v] w fun e w' => e = .returned (.tuple #[]) ∧ Fcts w' p bn bs n (f.set v) ∧ TB (fun k => k = bn ∨ k = bs) w w' := by
  obtain ⟨D, hown, hr⟩ := h.nm
  obtain ⟨D2, hown2, hr2⟩ := h.sm
  have hk := keyI h0 h1
  have hpc := h.pc
  obtain ⟨n1, n2, n3⟩ := h.ne
  have hst := h.st.set v
  have hR := readsI_set hr hr2 v (pd := isV v) (fun x y => rfl)
  have ltn := hown.lt
  have lts := hown2.lt
  have ltp := hpc.lt
  have eg : ∀ args w, (callFunc 110 args).run Tryz.prog w = .ok (.enter 110 args) w := enters_of Tryz.func110 (by kernel_rfl) rfl
  have hcon : ∀ W : World, W.ownsMap Tryz.prog 3 (plainElem Tryz.prog 3) bs (Maps.size D2) (D2.del (kI v)) → W.cell? ⟨w.heap.size, 0, none⟩ = some (.int .i64 v) →
      Calls Tryz.prog 109 #[.map (some bs), .func (.func 110) #[] #[.pointer (some ⟨w.heap.size, 0, none⟩)]] W (fun e w' => e = .returned (.tuple #[]) ∧ w'.ownsMap Tryz.prog 3 (plainElem Tryz.prog 3) bs (Maps.size D2) (Lib.deleteFuncD (isV v) (D2.del (kI v))) ∧ W.grownBy w' (some bs)) := fun W hoW hxW =>
    AnyDf.maps_DeleteFunc Tryz.delN kInt_law (plainElem Tryz.prog 3) (isV v) 110 _ bs (Maps.size D2) (D2.del (kI v)) W eg hoW (fun W2 key val kl yd yp hgW _ hv => by
      obtain ⟨c, rfl, hy, _⟩ := plainElem_int_inv Tryz.underlying3 hv
      obtain rfl : yd = .lit (.int .i64 c) := by simpa using (congrArg Prod.fst hy)
      refine (setDel_c key c v w.heap.size W2 (hgW.cell hxW (fun e => ?_))).mono fun _ _ ⟨he, hw⟩ => ⟨he, hw ▸ World.grownBy.refl _ _⟩
      have := Option.some.inj e
      simp at this
      omega)
  have HC := Lib.hid hcon
  clear hcon h hr hr2 eg
  have hp0 := hpc.alloc (.cells #[.int .i64 v] 3)
  have o1 := hown.alloc (.cells #[.int .i64 v] 3)
  have o2 := hown2.alloc (.cells #[.int .i64 v] 3)
  have b0 := Bk.new w #[.int .i64 v] 3
  have T0 : TB (fun k => k = bn ∨ k = bs) w (w.alloc (.cells #[.int .i64 v] 3)) := (TB.refl _ _).alloc _
  have g0 : w.heap.size < (w.alloc (.cells #[.int .i64 v] 3)).heap.size := by simp
  clear hown hown2 hpc
  go_enter Tryz.func77, Tryz.ntmps77
  go_upto_region 1 with (fail)
  generalize w.alloc (.cells #[.int .i64 v] 3) = W0 at hp0 o1 o2 b0 T0 g0 ⊢
  have c0 := hp0.cell 0
  have cb := b0.cell 0
  refine start_ (n := 6) (S := fun w' => w'.cell? ⟨p, 0, none⟩ = some (.map (some bn)) ∧ w'.cell? ⟨w.heap.size, 0, none⟩ = some (.int .i64 v)) (ds := [5]) (bz 6 0) (by kernel_rfl) rfl rfl ⟨c0, cb⟩ (fun hHeld => ?_)
  refine pure_ (i := 0) (N := (some 4)) (v := ?_) (a' := ?_) (bz 6 1) rfl rfl (by kernel_rfl) (fun _ _ _ h => h) (Or.inl ⟨by rfl, ?_⟩) ?_ ?_
  rotate_left
  · intro w'
    go_simp
    with_reducible rfl
  rotate_left
  · simp only [Act.put, sa_, sb_, sc_]
    rfl
  refine pure_ (i := 1) (N := (some 5)) (v := ?_) (a' := ?_) (bz 6 3) rfl rfl (by kernel_rfl) (fun _ _ _ h => h) (Or.inl ⟨by rfl, ?_⟩) ?_ ?_
  rotate_left
  · intro w'
    go_simp
    with_reducible rfl
  rotate_left
  · simp only [Act.put, sa_, sb_, sc_]
    rfl
  refine pure_ (i := 2) (N := (some 6)) (v := ?_) (a' := ?_) (bz 6 7) rfl rfl (by kernel_rfl) (fun _ _ _ h => h) (Or.inl ⟨by rfl, ?_⟩) ?_ ?_
  rotate_left
  · intro w'
    go_simp
    with_reducible rfl
  rotate_left
  · simp only [Act.put, sa_, sb_, sc_]
    rfl
  refine take_ (i := 3) (N := (some 7)) (v := ?_) (a' := ?_) (bz 6 15) rfl rfl (by kernel_rfl) (fun _ _ _ h => h) (Or.inl ⟨by rfl, ?_⟩) hHeld ?_ ?_
  rotate_left
  · rintro w' ⟨s0, s1⟩
    go_simp
    with_reducible rfl
  rotate_left
  · simp only [Act.put, sa_, sb_, sc_]
    rfl
  refine take_ (i := 4) (N := (some 8)) (v := ?_) (a' := ?_) (bz 6 31) rfl rfl (by kernel_rfl) (fun _ _ _ h => h) (Or.inl ⟨by rfl, ?_⟩) hHeld ?_ ?_
  rotate_left
  · rintro w' ⟨s0, s1⟩
    go_simp
    with_reducible rfl
  rotate_left
  · simp only [Act.put, sa_, sb_, sc_]
    rfl
  refine last_ (i := 5) (N := none) (bz 6 63) rfl rfl (by kernel_rfl) (by decide) (fun K hK => ?_)
  refine delete_ (by rfl) rfl _ _ 104 3 rfl 46 kInt_law Tryz.underlying104 _ bn _ D rfl (World.ownsMap.drew o1) _ _ rfl hk (fun w1 o3 ht1 => ?_)
  refine hK.out _ _ ?_
  clear hK K
  refine done_ (by kernel_rfl) ?_
  have G1 := ht1.grown
  have T1 : TB (fun k => k = bn ∨ k = bs) W0 w1 := (TB.refl _ _).drew.trans (TB.of_grown G1 (fun k e => by cases e; exact .inl rfl))
  have hp1 : Bk w1 p #[.map (some bn), .map (some bs)] 107 := hp0.tb T1 (by rintro (e | e) <;> omega)
  have b1 : Bk w1 w.heap.size #[.int .i64 v] 3 := b0.tb T1 (by rintro (e | e) <;> omega)
  have o4 : w1.ownsMap Tryz.prog 3 (plainElem Tryz.prog 3) bs (Maps.size D2) D2 := map_tb (w := W0.drew) o2 (TB.of_grown (S := fun k => k = bn) G1 (fun k e => by cases e; rfl)) (fun e => n3 e.symm)
  have c0 := hp1.cell 1
  have cb := b1.cell 0
  go_upto_region 2 with (fail)
  refine start_ (n := 6) (S := fun w' => w'.cell? ⟨p, 1, none⟩ = some (.map (some bs)) ∧ w'.cell? ⟨w.heap.size, 0, none⟩ = some (.int .i64 v)) (ds := [5]) (bz 6 0) (by kernel_rfl) rfl rfl ⟨c0, cb⟩ (fun hHeld => ?_)
  refine pure_ (i := 0) (N := (some 9)) (v := ?_) (a' := ?_) (bz 6 1) rfl rfl (by kernel_rfl) (fun _ _ _ h => h) (Or.inl ⟨by rfl, ?_⟩) ?_ ?_
  rotate_left
  · intro w'
    go_simp
    with_reducible rfl
  rotate_left
  · simp only [Act.put, sa_, sb_, sc_]
    rfl
  refine pure_ (i := 1) (N := (some 10)) (v := ?_) (a' := ?_) (bz 6 3) rfl rfl (by kernel_rfl) (fun _ _ _ h => h) (Or.inl ⟨by rfl, ?_⟩) ?_ ?_
  rotate_left
  · intro w'
    go_simp
    with_reducible rfl
  rotate_left
  · simp only [Act.put, sa_, sb_, sc_]
    rfl
  refine pure_ (i := 2) (N := (some 11)) (v := ?_) (a' := ?_) (bz 6 7) rfl rfl (by kernel_rfl) (fun _ _ _ h => h) (Or.inl ⟨by rfl, ?_⟩) ?_ ?_
  rotate_left
  · intro w'
    go_simp
    with_reducible rfl
  rotate_left
  · simp only [Act.put, sa_, sb_, sc_]
    rfl
  refine take_ (i := 3) (N := (some 12)) (v := ?_) (a' := ?_) (bz 6 15) rfl rfl (by kernel_rfl) (fun _ _ _ h => h) (Or.inl ⟨by rfl, ?_⟩) hHeld ?_ ?_
  rotate_left
  · rintro w' ⟨s0, s1⟩
    go_simp
    with_reducible rfl
  rotate_left
  · simp only [Act.put, sa_, sb_, sc_]
    rfl
  refine take_ (i := 4) (N := (some 13)) (v := ?_) (a' := ?_) (bz 6 31) rfl rfl (by kernel_rfl) (fun _ _ _ h => h) (Or.inl ⟨by rfl, ?_⟩) hHeld ?_ ?_
  rotate_left
  · rintro w' ⟨s0, s1⟩
    go_simp
    with_reducible rfl
  rotate_left
  · simp only [Act.put, sa_, sb_, sc_]
    rfl
  refine last_ (i := 5) (N := none) (bz 6 63) rfl rfl (by kernel_rfl) (by decide) (fun K hK => ?_)
  refine delete_ (by rfl) rfl _ _ 105 3 rfl 3 kInt_law Tryz.underlying105 _ bs _ D2 rfl (World.ownsMap.drew o4) _ _ rfl hk (fun w2 o5 ht2 => ?_)
  refine hK.out _ _ ?_
  clear hK K
  refine done_ (by kernel_rfl) ?_
  have G2 := ht2.grown
  have T2 : TB (fun k => k = bn ∨ k = bs) w1 w2 := (TB.refl _ _).drew.trans (TB.of_grown G2 (fun k e => by cases e; exact .inr rfl))
  have T2' : TB (fun k => k = bs) w1 w2 := (TB.refl _ _).drew.trans (TB.of_grown G2 (fun k e => by cases e; rfl))
  have hp2 : Bk w2 p #[.map (some bn), .map (some bs)] 107 := hp1.tb T2 (by rintro (e | e) <;> omega)
  have b2 : Bk w2 w.heap.size #[.int .i64 v] 3 := b1.tb T2 (by rintro (e | e) <;> omega)
  have o6 : w2.ownsMap Tryz.prog 3 (plainElem Tryz.prog 46) bn (Maps.size D) (D.del (kI v)) := map_tb o3 T2' n3
  have c0 := hp2.cell 1
  have hcall := HC.out w2 o5 (b2.cell 0)
  go_wp2_with (go_at_call 109; go_must (refine hcall.mono ?_); rintro e w3 ⟨rfl, o7, G3⟩)
  go_end0
  have T3 : TB (fun k => k = bn ∨ k = bs) w2 w3 := TB.of_grown G3 (fun k e => by cases e; exact .inr rfl)
  have T3' : TB (fun k => k = bs) w2 w3 := TB.of_grown G3 (fun k e => by cases e; rfl)
  exact ⟨rfl, ⟨hp2.tb T3 (by rintro (e | e) <;> omega), ⟨_, map_fit (map_tb o6 T3' n3), hR.1⟩, ⟨_, map_fit o7, hR.2⟩, hst, n1, n2, n3⟩, ((T0.trans T1).trans T2).trans T3⟩
end Go.Proofs.YtoabiignjkcdmaaGreat
