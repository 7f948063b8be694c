/-
  Lemmas (texts RunM), each proved without a condition beyond its own hypotheses.
-/
import Derived.Test.YtoabiignjkcdmaaGreatFd2
namespace Go.Proofs.YtoabiignjkcdmaaGreat
open Go.RowKit
set_option linter.unusedVariables false
set_option linter.unusedSimpArgs false

theorem set_grown (w : World) (b i : Nat) (v : Value) : w.grownBy (w.setCell ⟨b, i, none⟩ v) (some b) := ⟨rfl, rfl, rfl, by simp, fun n hn hr => heap_setCell_other w ⟨b, i, none⟩ n v (fun e => hr (by rw [e]))⟩
theorem grown_trans {w w1 w2 : World} {r : Option Nat} (h : w.grownBy w1 r) (k : w1.grownBy w2 r) : w.grownBy w2 r :=
  ⟨k.os.trans h.os, k.tape.trans h.tape, k.output.trans h.output, Nat.le_trans h.size k.size, fun n hn hr => (k.block n (Nat.lt_of_lt_of_le hn h.size) hr).trans (h.block n hn hr)⟩
theorem grown_below {w w' : World} {r : Option Nat} {B : Nat} (h : w.grownBy w' r) (hB : B ≤ w.heap.size) (hr : ∀ k, r = some k → B ≤ k) : Below B w w' :=
  ⟨h.os, h.tape, h.output, h.size, fun n hn => h.block n (Nat.lt_of_lt_of_le hn hB) (fun e => by have := hr n e.symm; omega)⟩

/-! ### MRows of the call's own: where they stand -/
theorem own_type {w : World} {b n s : Nat} {e : TypeId} {v : Value} {xs : List Value} (h : w.ownsRow b e s v n xs) {g : Nat} (hg : v.ownBlock = some g) : ∃ cur fz, w.heap[g]? = some (.cells cur e fz) := by
  rcases h.2 with ⟨rfl, _⟩ | ⟨g', cap, cur, rfl, _, hh, _⟩
  · simp [Value.ownBlock] at hg
  · obtain rfl : g' = g := by simpa [Value.ownBlock] using hg
    exact ⟨cur, _, hh⟩
theorem own_not {w : World} {b n s : Nat} {e e' : TypeId} {v : Value} {xs : List Value} (h : w.ownsRow b e s v n xs) {g : Nat} {cur : Array Value} {fz : Nat × Nat} (hg : w.heap[g]? = some (.cells cur e' fz)) (hne : e ≠ e') : v.ownBlock ≠ some g := by
  intro he
  obtain ⟨cur', fz', hh⟩ := own_type h he
  rw [hg] at hh
  injection hh with hh
  injection hh with _ ht _
  exact hne ht.symm
theorem own_ge {w : World} {b n s : Nat} {e : TypeId} {v : Value} {xs : List Value} (h : w.ownsRow b e s v n xs) {g : Nat} (hg : g < b) : v.ownBlock ≠ some g := fun he => by
  have := own_from h g he
  omega
theorem own_kept {w w' : World} {b n s : Nat} {e : TypeId} {v : Value} {xs : List Value} {row : Option Nat} (h : w.ownsRow b e s v n xs) (hg : w.grownBy w' row) (hr : ∀ g, row = some g → v.ownBlock ≠ some g) : w'.ownsRow b e s v n xs := by
  refine h.kept hg ?_
  cases row with
  | none => cases hv : v.ownBlock with
    | none => exact .inl rfl
    | some k => exact .inr (fun e => by cases e)
  | some g => exact .inr (hr g rfl)

/-! ### MRows of bytes -/
/-- A row of bytes; none of them is frozen. -/
def ByRow (w : World) (base : Nat) (bv : Value) (xs : List Int) : Prop :=
  ∃ g cap cur lo hi, bv = .slice (some ⟨g, 0, none⟩) xs.length cap ∧ base ≤ g ∧ w.heap[g]? = some (.cells cur 5 (lo, hi)) ∧ (xs.length ≤ lo ∨ hi = 0) ∧ ∀ j (h : j < xs.length), cur[j]? = some (.int .u8 xs[j])
theorem ByRow.shape {w : World} {base : Nat} {bv : Value} {xs : List Int} (h : ByRow w base bv xs) : ∃ g cap, bv = .slice (some ⟨g, 0, none⟩) xs.length cap ∧ base ≤ g ∧ g < w.heap.size ∧
    (∀ j (h : j < xs.length), w.cell? ⟨g, j, none⟩ = some (.int .u8 xs[j])) ∧ ∀ j, j < xs.length → w.frozen? ⟨g, j, none⟩ = false := by
  obtain ⟨g, cap, cur, lo, hi, e, h1, h2, h3, h4⟩ := h
  refine ⟨g, cap, e, h1, (Array.getElem?_eq_some_iff.1 h2).1, fun j hj => ?_, fun j hj => ?_⟩
  · simp only [World.cell?, h2]
    exact h4 j hj
  · simp only [World.frozen?, h2]
    rcases h3 with h3 | h3
    · have : ¬ lo ≤ j := by omega
      simp [this]
    · subst h3
      simp
theorem ByRow.not {w : World} {base : Nat} {bv : Value} {xs : List Int} (h : ByRow w base bv xs) {g : Nat} {e' : TypeId} {cur : Array Value} {fz : Nat × Nat} (hg : w.heap[g]? = some (.cells cur e' fz)) (hne : 5 ≠ e') : bv.ownBlock ≠ some g := by
  obtain ⟨g', cap, cur', lo, hi, rfl, h1, h2, h3, h4⟩ := h
  intro he
  obtain rfl : g' = g := by simpa [Value.ownBlock] using he
  rw [hg] at h2
  injection h2 with h2
  injection h2 with _ ht _
  exact hne ht.symm
theorem ByRow.ge {w : World} {base : Nat} {bv : Value} {xs : List Int} (h : ByRow w base bv xs) {g : Nat} (hg : g < base) : bv.ownBlock ≠ some g := by
  obtain ⟨g', cap, rfl, h1, _⟩ := h.shape
  intro he
  obtain rfl : g' = g := by simpa [Value.ownBlock] using he
  omega
theorem ByRow.kept {w w' : World} {base : Nat} {bv : Value} {xs : List Int} {row : Option Nat} (h : ByRow w base bv xs) (hg : w.grownBy w' row) (hr : ∀ g, row = some g → bv.ownBlock ≠ some g) : ByRow w' base bv xs := by
  obtain ⟨g, cap, cur, lo, hi, rfl, h1, h2, h3⟩ := h
  refine ⟨g, cap, cur, lo, hi, rfl, h1, ?_, h3⟩
  rw [hg.block g (Array.getElem?_eq_some_iff.1 h2).1 (fun e => hr g e.symm rfl)]
  exact h2
theorem ByRow.set {w : World} {base g c : Nat} {xs : List Int} {n : Nat} (h : ByRow w base (.slice (some ⟨g, 0, none⟩) n c) xs) (i : Nat) (x : Int) : ByRow (w.setCell ⟨g, i, none⟩ (.int .u8 x)) base (.slice (some ⟨g, 0, none⟩) n c) (xs.set i x) := by
  obtain ⟨g', cap, cur, lo, hi, e, h1, h2, h3, h4⟩ := h
  injection e with e1 e2 e3
  injection e1 with e1
  injection e1 with e1 _ _
  subst e1 e2 e3
  refine ⟨g, c, cur.setIfInBounds i (.int .u8 x), lo, hi, by simp, h1, ?_, by simpa using h3, fun j hj => ?_⟩
  · unfold World.setCell
    simp only [Array.getElem?_modify, if_true, h2, Option.map_some]
    try rfl
  · simp only [List.length_set] at hj
    rw [Array.getElem?_setIfInBounds]
    by_cases e : i = j
    · subst e
      have := h4 i hj
      rw [if_pos rfl, if_pos (Array.getElem?_eq_some_iff.1 this).1, List.getElem_set_self]
    · rw [if_neg e, List.getElem_set_ne e]
      exact h4 j hj
theorem ByRow.lt {w : World} {base : Nat} {bv : Value} {xs : List Int} (h : ByRow w base bv xs) : ∀ g, bv.ownBlock = some g → g < w.heap.size := by
  obtain ⟨g', cap, rfl, h1, h2, _⟩ := h.shape
  intro g he
  obtain rfl : g' = g := by simpa [Value.ownBlock] using he
  exact h2

/-- Two values in blocks of their own. -/
def Apart (v v' : Value) : Prop := ∀ k, v.ownBlock = some k → v'.ownBlock ≠ some k
theorem Apart.symm {v v' : Value} (h : Apart v v') : Apart v' v := fun k h1 h2 => h k h2 h1

/-! ### The machine -/
def objC (x : SObj) (bv : Value) : List Value := [.int .u64 x.at', bv, .bool x.sec, .bool x.fixed]
def objsC (xs : List SObj) (bvs : List Value) : List Value := (List.zipWith objC xs bvs).flatten
abbrev mC (m : SM) (vv hv av lv tv : Value) : Array Value :=
  #[vv, hv, av, lv, .int .i64 m.taken, .int .i64 m.size, .int .i64 m.fuel, .int .u8 m.en, .int .i64 m.trap, .int .u64 m.ret, .slice none 0 0, tv, .int .i64 m.steps]

structure MRows (w : World) (base B2 : Nat) (m : SM) (vv hv av lv tv : Value) (hbs abs : List Value) : Prop where
  le : base ≤ B2
  sz : B2 ≤ w.heap.size
  v : w.ownsRow base 46 1 vv m.v.length (m.v.map (Value.int .u64))
  vB : ∀ k, vv.ownBlock = some k → k < B2
  h : w.ownsRow base 85 4 hv m.handed.length (objsC m.handed hbs)
  hB : ∀ k, hv.ownBlock = some k → k < B2
  a : w.ownsRow B2 85 4 av m.arena.length (objsC m.arena abs)
  l : w.ownsRow B2 3 1 lv m.left.length (m.left.map (Value.int .i64))
  t : w.ownsRow B2 46 1 tv m.told.length (m.told.map (Value.int .u64))
  hl : hbs.length = m.handed.length
  al : abs.length = m.arena.length
  hb : ∀ i (h1 : i < m.handed.length) (h2 : i < hbs.length), ByRow w base hbs[i] m.handed[i].b ∧ ∀ k, hbs[i].ownBlock = some k → k < B2
  ab : ∀ i (h1 : i < m.arena.length) (h2 : i < abs.length), ByRow w B2 abs[i] m.arena[i].b
  hp : hbs.Pairwise Apart
  ap : abs.Pairwise Apart

section
variable {w w' : World} {base B2 : Nat} {m : SM} {vv hv av lv tv : Value} {hbs abs : List Value}
/-- What is done elsewhere leaves the rows. -/
theorem MRows.kept (h : MRows w base B2 m vv hv av lv tv hbs abs) {row : Option Nat} (hg : w.grownBy w' row)
    (hr : ∀ g, row = some g → vv.ownBlock ≠ some g ∧ hv.ownBlock ≠ some g ∧ av.ownBlock ≠ some g ∧ lv.ownBlock ≠ some g ∧ tv.ownBlock ≠ some g ∧ (∀ b ∈ hbs, b.ownBlock ≠ some g) ∧ ∀ b ∈ abs, b.ownBlock ≠ some g) : MRows w' base B2 m vv hv av lv tv hbs abs where
  le := h.le
  sz := Nat.le_trans h.sz hg.size
  v := own_kept h.v hg fun g e => (hr g e).1
  vB := h.vB
  h := own_kept h.h hg fun g e => (hr g e).2.1
  hB := h.hB
  a := own_kept h.a hg fun g e => (hr g e).2.2.1
  l := own_kept h.l hg fun g e => (hr g e).2.2.2.1
  t := own_kept h.t hg fun g e => (hr g e).2.2.2.2.1
  hl := h.hl
  al := h.al
  hb := fun i h1 h2 => ⟨(h.hb i h1 h2).1.kept hg fun g e => (hr g e).2.2.2.2.2.1 _ (List.getElem_mem h2), (h.hb i h1 h2).2⟩
  ab := fun i h1 h2 => (h.ab i h1 h2).kept hg fun g e => (hr g e).2.2.2.2.2.2 _ (List.getElem_mem h2)
  hp := h.hp
  ap := h.ap
theorem MRows.below (h : MRows w base B2 m vv hv av lv tv hbs abs) (hb : Below w.heap.size w w') : MRows w' base B2 m vv hv av lv tv hbs abs :=
  h.kept (grown_of_below hb none) fun g e => by cases e
theorem MRows.alloc (h : MRows w base B2 m vv hv av lv tv hbs abs) (o : Obj) : MRows (w.alloc o) base B2 m vv hv av lv tv hbs abs := h.below ((Below.refl _ _).alloc (Nat.le_refl _) _)
theorem MRows.drew (h : MRows w base B2 m vv hv av lv tv hbs abs) : MRows w.drew base B2 m vv hv av lv tv hbs abs := h.below (Below.refl _ _).drew
/-- A block of another kind is none of them. -/
theorem MRows.other (h : MRows w base B2 m vv hv av lv tv hbs abs) {g : Nat} {cur : Array Value} {t : TypeId} {fz : Nat × Nat} (hg : w.heap[g]? = some (.cells cur t fz)) (h1 : 46 ≠ t) (h2 : 85 ≠ t) (h3 : 3 ≠ t) (h4 : 5 ≠ t) :
    vv.ownBlock ≠ some g ∧ hv.ownBlock ≠ some g ∧ av.ownBlock ≠ some g ∧ lv.ownBlock ≠ some g ∧ tv.ownBlock ≠ some g ∧ (∀ b ∈ hbs, b.ownBlock ≠ some g) ∧ ∀ b ∈ abs, b.ownBlock ≠ some g := by
  refine ⟨own_not h.v hg h1, own_not h.h hg h2, own_not h.a hg h2, own_not h.l hg h3, own_not h.t hg h1, fun b hb => ?_, fun b hb => ?_⟩
  · obtain ⟨i, hi, rfl⟩ := List.getElem_of_mem hb
    exact (h.hb i (by rw [← h.hl]; exact hi) hi).1.not hg h4
  · obtain ⟨i, hi, rfl⟩ := List.getElem_of_mem hb
    exact (h.ab i (by rw [← h.al]; exact hi) hi).not hg h4
theorem MRows.mach (h : MRows w base B2 m vv hv av lv tv hbs abs) {mb : Nat} {cs : Array Value} (hb : Bk w mb cs 81) (i : Nat) (x : Value) : MRows (w.setCell ⟨mb, i, none⟩ x) base B2 m vv hv av lv tv hbs abs :=
  h.kept (set_grown w mb i x) fun g e => by cases e; exact h.other hb (by decide) (by decide) (by decide) (by decide)
/-- Only the rows count. -/
theorem MRows.like (h : MRows w base B2 m vv hv av lv tv hbs abs) {m' : SM} (e1 : m'.v = m.v) (e2 : m'.handed = m.handed) (e3 : m'.arena = m.arena) (e4 : m'.left = m.left) (e5 : m'.told = m.told) : MRows w base B2 m' vv hv av lv tv hbs abs := by
  obtain ⟨v, ha, ar, lf, tk, sz, fu, en, tr, re, st, tl⟩ := m
  obtain ⟨v', ha', ar', lf', tk', sz', fu', en', tr', re', st', tl'⟩ := m'
  simp only at e1 e2 e3 e4 e5
  subst e1 e2 e3 e4 e5
  exact ⟨h.le, h.sz, h.v, h.vB, h.h, h.hB, h.a, h.l, h.t, h.hl, h.al, h.hb, h.ab, h.hp, h.ap⟩
/-- A variable is set. -/
theorem MRows.set_v {g n cap : Nat} (h : MRows w base B2 m (.slice (some ⟨g, 0, none⟩) n cap) hv av lv tv hbs abs) (i : Nat) (hi : i < m.v.length) (x : Int) :
    MRows (w.setCell ⟨g, i, none⟩ (.int .u64 x)) base B2 { m with v := m.v.set i x } (.slice (some ⟨g, 0, none⟩) n cap) hv av lv tv hbs abs := by
  have hn : n = m.v.length := by
    rcases h.v.2 with ⟨e, _⟩ | ⟨g', c', cur, e, _⟩
    · cases e
    · injection e
  obtain ⟨cur, fz, hg⟩ := own_type h.v (g := g) rfl
  have hgB := h.vB g rfl
  have hgr := set_grown w g i (.int .u64 x)
  have hv' := h.v
  rw [← hn] at hv'
  exact {
    le := h.le
    sz := Nat.le_trans h.sz hgr.size
    v := by
      have := hv'.stored i (.int .u64 x)
      have e : (m.v.set i x).map (Value.int .u64) = (m.v.map (Value.int .u64)).set i (.int .u64 x) := by rw [List.map_set]
      rw [e, List.length_set, ← hn]
      exact this.1
    vB := h.vB
    h := own_kept h.h hgr fun g' e => by cases e; exact own_not h.h hg (by decide)
    hB := h.hB
    a := own_kept h.a hgr fun g' e => by cases e; exact own_ge h.a hgB
    l := own_kept h.l hgr fun g' e => by cases e; exact own_ge h.l hgB
    t := own_kept h.t hgr fun g' e => by cases e; exact own_ge h.t hgB
    hl := h.hl
    al := h.al
    hb := fun i h1 h2 => ⟨(h.hb i h1 h2).1.kept hgr fun g' e => by cases e; exact (h.hb i h1 h2).1.not hg (by decide), (h.hb i h1 h2).2⟩
    ab := fun i h1 h2 => (h.ab i h1 h2).kept hgr fun g' e => by cases e; exact (h.ab i h1 h2).ge hgB
    hp := h.hp
    ap := h.ap }
theorem objsC_cons (x : SObj) (xs : List SObj) (b : Value) (bs : List Value) : objsC (x :: xs) (b :: bs) = objC x b ++ objsC xs bs := rfl
/-- The bytes do not stand in the row. -/
theorem objsC_modify (f : SObj → SObj) (hf : ∀ x, (f x).at' = x.at' ∧ (f x).sec = x.sec ∧ (f x).fixed = x.fixed) : ∀ (xs : List SObj) (bs : List Value) (i : Nat), objsC (xs.modify i f) bs = objsC xs bs
  | [], _, i => by cases i <;> rfl
  | x :: xs, [], i => by cases i <;> simp [objsC]
  | x :: xs, b :: bs, 0 => by
    rw [List.modify_zero_cons, objsC_cons, objsC_cons]
    obtain ⟨h1, h2, h3⟩ := hf x
    simp only [objC, h1, h2, h3]
  | x :: xs, b :: bs, i + 1 => by
    rw [List.modify_succ_cons, objsC_cons, objsC_cons, objsC_modify f hf xs bs i]
theorem objsC_get : ∀ (xs : List SObj) (bs : List Value) (i : Nat) (h1 : i < xs.length) (h2 : i < bs.length) (j : Nat), j < 4 → (objsC xs bs)[i * 4 + j]? = (objC xs[i] bs[i])[j]?
  | x :: xs, b :: bs, 0, h1, h2, j, hj => by
    rw [objsC_cons, Nat.zero_mul, Nat.zero_add, List.getElem?_append_left (by simp [objC]; omega)]
    rfl
  | x :: xs, b :: bs, i + 1, h1, h2, j, hj => by
    rw [objsC_cons, List.getElem?_append_right (by simp [objC]; omega)]
    have e : (i + 1) * 4 + j - (objC x b).length = i * 4 + j := by simp [objC]; omega
    rw [e, objsC_get xs bs i (by simpa using h1) (by simpa using h2) j hj]
    rfl
theorem objsC_append : ∀ (xs ys : List SObj) (bs cs : List Value), bs.length = xs.length → objsC (xs ++ ys) (bs ++ cs) = objsC xs bs ++ objsC ys cs
  | [], ys, [], cs, _ => rfl
  | x :: xs, ys, b :: bs, cs, h => by
    rw [List.cons_append, List.cons_append, objsC_cons, objsC_cons, objsC_append xs ys bs cs (by simpa using h), List.append_assoc]
theorem objsC_take : ∀ (xs : List SObj) (bs : List Value) (k : Nat), bs.length = xs.length → (objsC xs bs).take (k * 4) = objsC (xs.take k) (bs.take k)
  | [], [], k, _ => by simp [objsC]
  | x :: xs, b :: bs, 0, h => by simp [objsC]
  | x :: xs, b :: bs, k + 1, h => by
    rw [objsC_cons, List.take_succ_cons, List.take_succ_cons, objsC_cons]
    have e : (k + 1) * 4 = (objC x b).length + k * 4 := by simp [objC]; omega
    rw [e, List.take_append, List.take_of_length_le (by omega), Nat.add_sub_cancel_left, objsC_take xs bs k (by simpa using h)]
/-- A byte of an object of the arena is turned, or all of them. -/
theorem MRows.put_ab (h : MRows w base B2 m vv hv av lv tv hbs abs) (f : SObj → SObj) (hf : ∀ x, (f x).at' = x.at' ∧ (f x).sec = x.sec ∧ (f x).fixed = x.fixed) {g : Nat} (hg : w.grownBy w' (some g)) (i : Nat) (h1 : i < m.arena.length) (h2 : i < abs.length)
    (hgi : abs[i].ownBlock = some g) (hby : ByRow w' B2 abs[i] (f m.arena[i]).b) : MRows w' base B2 { m with arena := m.arena.modify i f } vv hv av lv tv hbs abs := by
  obtain ⟨g0, cap, cur, lo, hi, e0, hge, hty, _⟩ := h.ab i h1 h2
  have eg : g0 = g := by rw [e0] at hgi; simpa [Value.ownBlock] using hgi
  subst eg
  exact {
    le := h.le
    sz := Nat.le_trans h.sz hg.size
    v := own_kept h.v hg fun g' e => by cases e; exact own_not h.v hty (by decide)
    vB := h.vB
    h := own_kept h.h hg fun g' e => by cases e; exact own_not h.h hty (by decide)
    hB := h.hB
    a := by
      have := own_kept h.a hg fun g' e => by cases e; exact own_not h.a hty (by decide)
      simp only [List.length_modify, objsC_modify f hf]
      exact this
    l := own_kept h.l hg fun g' e => by cases e; exact own_not h.l hty (by decide)
    t := own_kept h.t hg fun g' e => by cases e; exact own_not h.t hty (by decide)
    hl := h.hl
    al := by simpa using h.al
    hb := fun k k1 k2 => ⟨(h.hb k k1 k2).1.kept hg fun g' e he => by cases e; have := (h.hb k k1 k2).2 _ he; omega, (h.hb k k1 k2).2⟩
    ab := fun k k1 k2 => by
      simp only [List.length_modify] at k1
      by_cases e : i = k
      · subst e
        simp only [List.getElem_modify, if_true]
        exact hby
      · simp only [List.getElem_modify, if_neg e]
        refine (h.ab k k1 k2).kept hg fun g' e' => ?_
        cases e'
        have hpw := List.pairwise_iff_getElem.1 h.ap
        rcases Nat.lt_or_ge i k with hlt | hge'
        · exact hpw i k h2 k2 hlt _ hgi
        · exact (hpw k i k2 h2 (by omega)).symm _ hgi
    hp := h.hp
    ap := h.ap }
/-- A byte of an object that was handed in is turned. -/
theorem MRows.put_hb (h : MRows w base B2 m vv hv av lv tv hbs abs) (f : SObj → SObj) (hf : ∀ x, (f x).at' = x.at' ∧ (f x).sec = x.sec ∧ (f x).fixed = x.fixed) {g : Nat} (hg : w.grownBy w' (some g)) (i : Nat) (h1 : i < m.handed.length) (h2 : i < hbs.length)
    (hgi : hbs[i].ownBlock = some g) (hby : ByRow w' base hbs[i] (f m.handed[i]).b) : MRows w' base B2 { m with handed := m.handed.modify i f } vv hv av lv tv hbs abs := by
  obtain ⟨g0, cap, cur, lo, hi, e0, hge, hty, _⟩ := (h.hb i h1 h2).1
  have eg : g0 = g := by rw [e0] at hgi; simpa [Value.ownBlock] using hgi
  subst eg
  have hgB := (h.hb i h1 h2).2 _ hgi
  exact {
    le := h.le
    sz := Nat.le_trans h.sz hg.size
    v := own_kept h.v hg fun g' e => by cases e; exact own_not h.v hty (by decide)
    vB := h.vB
    h := by
      have := own_kept h.h hg fun g' e => by cases e; exact own_not h.h hty (by decide)
      simp only [List.length_modify, objsC_modify f hf]
      exact this
    hB := h.hB
    a := own_kept h.a hg fun g' e => by cases e; exact own_not h.a hty (by decide)
    l := own_kept h.l hg fun g' e => by cases e; exact own_not h.l hty (by decide)
    t := own_kept h.t hg fun g' e => by cases e; exact own_not h.t hty (by decide)
    hl := by simpa using h.hl
    al := h.al
    hb := fun k k1 k2 => by
      simp only [List.length_modify] at k1
      by_cases e : i = k
      · subst e
        simp only [List.getElem_modify, if_true]
        exact ⟨hby, (h.hb i h1 h2).2⟩
      · simp only [List.getElem_modify, if_neg e]
        refine ⟨(h.hb k k1 k2).1.kept hg fun g' e' => ?_, (h.hb k k1 k2).2⟩
        cases e'
        have hpw := List.pairwise_iff_getElem.1 h.hp
        rcases Nat.lt_or_ge i k with hlt | hge'
        · exact hpw i k h2 k2 hlt _ hgi
        · exact (hpw k i k2 h2 (by omega)).symm _ hgi
    ab := fun k k1 k2 => (h.ab k k1 k2).kept hg fun g' e => by cases e; exact (h.ab k k1 k2).ge hgB
    hp := h.hp
    ap := h.ap }
/-- An object more in the arena. -/
theorem MRows.add_a (h : MRows w base B2 m vv hv av lv tv hbs abs) (x : SObj) (bv av' : Value) (hg : w.grownBy w' av.ownBlock) (ha : w'.ownsRow B2 85 4 av' (m.arena.length + 1) (objsC m.arena abs ++ objC x bv))
    (hby : ByRow w B2 bv x.b) (hfr : ∀ b ∈ abs, Apart b bv) : MRows w' base B2 { m with arena := m.arena ++ [x] } vv hv av' lv tv hbs (abs ++ [bv]) := by
  have hne : ∀ g, av.ownBlock = some g → B2 ≤ g ∧ ∃ cur fz, w.heap[g]? = some (.cells cur 85 fz) := fun g e => ⟨own_from h.a g e, own_type h.a e⟩
  exact {
    le := h.le
    sz := Nat.le_trans h.sz hg.size
    v := own_kept h.v hg fun g e he => by obtain ⟨h1, _⟩ := hne g e; have := h.vB g he; omega
    vB := h.vB
    h := own_kept h.h hg fun g e he => by obtain ⟨h1, _⟩ := hne g e; have := h.hB g he; omega
    hB := h.hB
    a := by
      rw [List.length_append, objsC_append _ _ _ _ h.al]
      simpa [objsC] using ha
    l := own_kept h.l hg fun g e => by obtain ⟨_, cur, fz, h1⟩ := hne g e; exact own_not h.l h1 (by decide)
    t := own_kept h.t hg fun g e => by obtain ⟨_, cur, fz, h1⟩ := hne g e; exact own_not h.t h1 (by decide)
    hl := h.hl
    al := by simp [h.al]
    hb := fun k k1 k2 => ⟨(h.hb k k1 k2).1.kept hg fun g e => by obtain ⟨_, cur, fz, h1⟩ := hne g e; exact (h.hb k k1 k2).1.not h1 (by decide), (h.hb k k1 k2).2⟩
    ab := fun k k1 k2 => by
      by_cases e : k < m.arena.length
      · have e2 : k < abs.length := by rw [h.al]; exact e
        rw [List.getElem_append_left e, List.getElem_append_left e2]
        exact (h.ab k e e2).kept hg fun g e' => by obtain ⟨_, cur, fz, h1⟩ := hne g e'; exact (h.ab k e e2).not h1 (by decide)
      · have hk : k = m.arena.length := by simp at k1; omega
        subst hk
        rw [List.getElem_append_right (Nat.le_refl _), List.getElem_append_right (by rw [h.al]; exact Nat.le_refl _)]
        simp only [Nat.sub_self, h.al, List.getElem_cons_zero]
        exact hby.kept hg fun g e => by obtain ⟨_, cur, fz, h1⟩ := hne g e; exact hby.not h1 (by decide)
    hp := h.hp
    ap := List.pairwise_append.2 ⟨h.ap, by simp, fun c hc b hb => by simp at hb; subst hb; exact hfr c hc⟩ }
/-- A number more in left. -/
theorem MRows.add_l (h : MRows w base B2 m vv hv av lv tv hbs abs) (x : Int) (lv' : Value) (hg : w.grownBy w' lv.ownBlock) (ha : w'.ownsRow B2 3 1 lv' (m.left.length + 1) (m.left.map (Value.int .i64) ++ [.int .i64 x])) :
    MRows w' base B2 { m with left := m.left ++ [x] } vv hv av lv' tv hbs abs := by
  have hne : ∀ g, lv.ownBlock = some g → ∃ cur fz, w.heap[g]? = some (.cells cur 3 fz) := fun g e => own_type h.l e
  exact {
    le := h.le
    sz := Nat.le_trans h.sz hg.size
    v := own_kept h.v hg fun g e => by obtain ⟨cur, fz, h1⟩ := hne g e; exact own_not h.v h1 (by decide)
    vB := h.vB
    h := own_kept h.h hg fun g e => by obtain ⟨cur, fz, h1⟩ := hne g e; exact own_not h.h h1 (by decide)
    hB := h.hB
    a := own_kept h.a hg fun g e => by obtain ⟨cur, fz, h1⟩ := hne g e; exact own_not h.a h1 (by decide)
    l := by simpa using ha
    t := own_kept h.t hg fun g e => by obtain ⟨cur, fz, h1⟩ := hne g e; exact own_not h.t h1 (by decide)
    hl := h.hl
    al := h.al
    hb := fun k k1 k2 => ⟨(h.hb k k1 k2).1.kept hg fun g e => by obtain ⟨cur, fz, h1⟩ := hne g e; exact (h.hb k k1 k2).1.not h1 (by decide), (h.hb k k1 k2).2⟩
    ab := fun k k1 k2 => (h.ab k k1 k2).kept hg fun g e => by obtain ⟨cur, fz, h1⟩ := hne g e; exact (h.ab k k1 k2).not h1 (by decide)
    hp := h.hp
    ap := h.ap }
/-- A number more told. -/
theorem MRows.add_t (h : MRows w base B2 m vv hv av lv tv hbs abs) (x : Int) (tv' : Value) (hg : w.grownBy w' tv.ownBlock) (ha : w'.ownsRow B2 46 1 tv' (m.told.length + 1) (m.told.map (Value.int .u64) ++ [.int .u64 x])) :
    MRows w' base B2 { m with told := m.told ++ [x] } vv hv av lv tv' hbs abs := by
  have hne : ∀ g, tv.ownBlock = some g → B2 ≤ g ∧ ∃ cur fz, w.heap[g]? = some (.cells cur 46 fz) := fun g e => ⟨own_from h.t g e, own_type h.t e⟩
  exact {
    le := h.le
    sz := Nat.le_trans h.sz hg.size
    v := own_kept h.v hg fun g e he => by obtain ⟨h1, _⟩ := hne g e; have := h.vB g he; omega
    vB := h.vB
    h := own_kept h.h hg fun g e => by obtain ⟨_, cur, fz, h1⟩ := hne g e; exact own_not h.h h1 (by decide)
    hB := h.hB
    a := own_kept h.a hg fun g e => by obtain ⟨_, cur, fz, h1⟩ := hne g e; exact own_not h.a h1 (by decide)
    l := own_kept h.l hg fun g e => by obtain ⟨_, cur, fz, h1⟩ := hne g e; exact own_not h.l h1 (by decide)
    t := by simpa using ha
    hl := h.hl
    al := h.al
    hb := fun k k1 k2 => ⟨(h.hb k k1 k2).1.kept hg fun g e => by obtain ⟨_, cur, fz, h1⟩ := hne g e; exact (h.hb k k1 k2).1.not h1 (by decide), (h.hb k k1 k2).2⟩
    ab := fun k k1 k2 => (h.ab k k1 k2).kept hg fun g e => by obtain ⟨_, cur, fz, h1⟩ := hne g e; exact (h.ab k k1 k2).not h1 (by decide)
    hp := h.hp
    ap := h.ap }
theorem own_take {B n s k : Nat} {e : TypeId} {g c : Nat} {xs : List Value} (h : w.ownsRow B e s (.slice (some ⟨g, 0, none⟩) n c) n xs) (hk : k ≤ n) : w.ownsRow B e s (.slice (some ⟨g, 0, none⟩) k c) k (xs.take (k * s)) := by
  have hm : k * s ≤ n * s := Nat.mul_le_mul_right _ hk
  refine ⟨by rw [List.length_take, h.1]; omega, ?_⟩
  rcases h.2 with ⟨e, _⟩ | ⟨g', c', cur, e, h1, h2, h3, h4, h5, h6⟩
  · cases e
  · injection e with e1 _ e3
    injection e1 with e1
    injection e1 with e1 _ _
    subst e1 e3
    refine .inr ⟨g, c, cur, rfl, h1, h2, by omega, h4, h5, ?_⟩
    rw [← h6, List.take_take]
    congr 1
    omega
/-- The arena ends earlier. -/
theorem MRows.cut {ga ca gl cl na nl : Nat} (h : MRows w base B2 m vv hv (.slice (some ⟨ga, 0, none⟩) na ca) (.slice (some ⟨gl, 0, none⟩) nl cl) tv hbs abs) (k : Nat) (hk : k ≤ m.arena.length) (hk2 : k ≤ m.left.length) :
    MRows w base B2 { m with arena := m.arena.take k, left := m.left.take k } vv hv (.slice (some ⟨ga, 0, none⟩) k ca) (.slice (some ⟨gl, 0, none⟩) k cl) tv hbs (abs.take k) := by
  have ea : na = m.arena.length := by
    rcases h.a.2 with ⟨e, _⟩ | ⟨g', c', cur, e, _⟩
    · cases e
    · injection e
  have el : nl = m.left.length := by
    rcases h.l.2 with ⟨e, _⟩ | ⟨g', c', cur, e, _⟩
    · cases e
    · injection e
  have ha := h.a
  have hl := h.l
  rw [← ea] at ha
  rw [← el] at hl
  have ha' := own_take ha (k := k) (by omega)
  have hl' := own_take hl (k := k) (by omega)
  have e1 : (m.arena.take k).length = k := by simp; omega
  have e2 : (m.left.take k).length = k := by simp; omega
  exact {
    le := h.le
    sz := h.sz
    v := h.v
    vB := h.vB
    h := h.h
    hB := h.hB
    a := by rw [e1, ← objsC_take _ _ _ h.al]; exact ha'
    l := by
      rw [e2, List.map_take]
      simpa using hl'
    t := h.t
    hl := h.hl
    al := by simp [h.al]
    hb := h.hb
    ab := fun i h1 h2 => by
      rw [List.getElem_take, List.getElem_take]
      exact h.ab i (by simp at h1; omega) (by simp at h2; omega)
    hp := h.hp
    ap := h.ap.sublist (List.take_sublist _ _) }
end
end Go.Proofs.YtoabiignjkcdmaaGreat
