/-
  Lemmas (texts RunX RunY RunH), each proved without a condition beyond its own hypotheses.
-/
import Derived.Test.YtoabiignjkcdmaaGreatFd13
import Derived.Test.YtoabiignjkcdmaaGreatFd18
import Derived.Test.YtoabiignjkcdmaaGreatFd5
import Derived.Lib.ConvBytes
import Derived.Deep.OwnRows
namespace Go.Proofs.YtoabiignjkcdmaaGreat
open Go.RowKit
set_option linter.unusedVariables false
set_option linter.unusedSimpArgs false

/-- The variables, the secret ones struck out. -/
def mask (s : List Bool) (v : List Int) : List Int := v.mapIdx fun i x => if s.getD i false = true then 0 else x
def SObj.pub (x : SObj) : SObj := { x with b := if x.sec = true then List.replicate x.b.length 0 else x.b }
def SM.pub (s : List Bool) (m : SM) : SM := { m with v := mask s m.v, handed := m.handed.map SObj.pub, arena := m.arena.map SObj.pub, ret := 0 }
def Res.pub (s : List Bool) (r : Res) : Res := match r with | .go m => .go (m.pub s) | .over e m => .over e (m.pub s)

/-- The same but for secrets, part by part. -/
structure PE (s : List Bool) (m1 m2 : SM) : Prop where
  v : mask s m1.v = mask s m2.v
  h : m1.handed.map SObj.pub = m2.handed.map SObj.pub
  a : m1.arena.map SObj.pub = m2.arena.map SObj.pub
  l : m1.left = m2.left
  t : m1.taken = m2.taken
  z : m1.size = m2.size
  f : m1.fuel = m2.fuel
  e : m1.en = m2.en
  p : m1.trap = m2.trap
  s : m1.steps = m2.steps
  o : m1.told = m2.told
theorem PE.of {s : List Bool} {m1 m2 : SM} (h : m1.pub s = m2.pub s) : PE s m1 m2 := by
  unfold SM.pub at h
  injection h with h1 h2 h3 h4 h5 h6 h7 h8 h9 h10 h11 h12
  exact ⟨h1, h2, h3, h4, h5, h6, h7, h8, h9, h11, h12⟩
/-! ### What was told -/
/-- Two rows that part somewhere. -/
def Parts (a b : List Int) : Prop := ∃ i, i < a.length ∧ i < b.length ∧ a.getD i 0 ≠ b.getD i 0
theorem Parts.ne {a b : List Int} (h : Parts a b) : a ≠ b := by
  rintro rfl
  obtain ⟨i, _, _, h⟩ := h
  exact h rfl
/-! ### Two runs -/
end Go.Proofs.YtoabiignjkcdmaaGreat

namespace Go.Proofs.YtoabiignjkcdmaaGreat
open Go.RowKit
set_option linter.unusedVariables false
set_option linter.unusedSimpArgs false

def handZ : SHanded := ⟨false, false, false, 0, 0⟩
def numsOf (l : List SHanded) : List SHanded := l.filter fun h => !h.buf
def bufsOf (l : List SHanded) : List SHanded := l.filter fun h => h.buf
def secNum (l : List SHanded) (n : Nat) : Bool := ((numsOf l).getD n handZ).sec
def secBuf (l : List SHanded) (n : Nat) : Bool := ((bufsOf l).getD n handZ).sec
def bsZ : ByteArray := ⟨#[]⟩
/-- Two inputs, the same but for secrets. -/
structure LikeIn (l : List SHanded) (i j : SIn) : Prop where
  nl : i.nums.length = j.nums.length
  bl : i.bufs.length = j.bufs.length
  n : ∀ k, secNum l k = false → i.nums.getD k 0 = j.nums.getD k 0
  z : ∀ k, (i.bufs.getD k bsZ).size = (j.bufs.getD k bsZ).size
  b : ∀ k, secBuf l k = false → i.bufs.getD k bsZ = j.bufs.getD k bsZ
theorem LikeIn.refl (l : List SHanded) (i : SIn) : LikeIn l i i := ⟨rfl, rfl, fun _ _ => rfl, fun _ => rfl, fun _ _ => rfl⟩

theorem bytesI_len (b : ByteArray) : (bytesI b).length = b.size := by
  unfold bytesI
  rw [List.length_map]
  rfl
theorem layIn_told : ∀ (l : List SHanded) (ns : List Int) (bs : List ByteArray) (m : SM), (layIn l ns bs m).handed.map SObj.sec = m.handed.map SObj.sec ++ (bufsOf l).map SHanded.sec
  | [], _, _, m => by simp [layIn, bufsOf]
  | h :: l, ns, bs, m => by
    unfold layIn
    by_cases hbuf : h.buf = true
    · rw [if_pos hbuf, layIn_told l]
      simp only [List.map_append, List.map_cons, List.map_nil, bufsOf, List.filter_cons, hbuf, if_true, List.append_assoc, List.singleton_append]
    · rw [if_neg hbuf, layIn_told l]
      simp only [bufsOf, List.filter_cons, hbuf, if_false]
      rfl

/-! ### Which objects are secret stays -/
def hsec (m : SM) : List Bool := m.handed.map SObj.sec
theorem modify_sec (f : SObj → SObj) (hf : ∀ x, (f x).sec = x.sec) : ∀ (xs : List SObj) (i : Nat), (xs.modify i f).map SObj.sec = xs.map SObj.sec
  | [], i => by cases i <;> rfl
  | x :: xs, 0 => by simp [List.modify_zero_cons, hf]
  | x :: xs, i + 1 => by simp [List.modify_succ_cons, modify_sec f hf xs i]
theorem opM_sec (m : SM) (o : SOp) : hsec (opM m o).sm = hsec m := by
  refine opM_ind (P := fun r => hsec r.sm = hsec m) m o ?_ ?_ ?_ ?_ ?_ ?_ ?_ ?_ ?_ ?_ ?_ ?_ ?_ <;> intro h
  · rfl
  · rfl
  · rfl
  · unfold loadS
    split
    · rfl
    · split <;> rfl
  · unfold storeS
    split
    · rename_i i _
      exact modify_sec (fun x => x.put (m.get o.a - x.at') (m.get o.b % 256)) (fun _ => rfl) m.handed i
    · split <;> rfl
  · split <;> rfl
  · split <;> rfl
  · split <;> rfl
  · unfold allocS
    split <;> rfl
  · unfold wipeS
    split <;> rfl
  · unfold freeS
    split <;> rfl
  · rfl
  · rfl
theorem pay_sec (m : SM) (n : Int) : hsec (payS m n).sm = hsec m := by
  unfold payS
  split <;> rfl
theorem step_sec (m : SM) (o : SOp) : hsec (stepS m o).sm = hsec m := by
  have h := pay_sec m (costS m o)
  unfold stepS
  cases hp : payS m (costS m o) with
  | over e m' => rw [hp] at h; exact h
  | go m' =>
    rw [hp] at h
    exact (opM_sec m' o).trans h
theorem ops_sec (l : List SOp) : ∀ m, hsec (opsS l m).sm = hsec m := by
  induction l with
  | nil => intro m; rfl
  | cons o l ih =>
    intro m
    have h1 := step_sec m o
    show hsec ((stepS m o).bind (opsS l)).sm = _
    cases hs : stepS m o with
    | over e m' => rw [hs] at h1; exact h1
    | go m' =>
      rw [hs] at h1
      exact (ih m').trans h1
theorem endM_sec {b : SBlock} {m : SM} {r : Int × SM} (h : endM b m = .inr r) : hsec r.2 = hsec m := by
  unfold endM at h
  split at h
  · cases h
  · split at h
    · cases h
    · split at h <;> cases h <;> rfl
theorem goes_sec (p : SIr) : ∀ (n : Nat) (a : Int) (m : SM), hsec (goesS p n a m).2 = hsec m
  | 0, _, m => rfl
  | n + 1, a, m => by
    have ht := ops_sec (p.blk.getD a.toNat blockZ).ops m
    unfold goesS
    cases ho : opsS (p.blk.getD a.toNat blockZ).ops m with
    | over e m' => rw [ho] at ht; exact ht
    | go m' =>
      rw [ho] at ht
      have hp := pay_sec m' 1
      show hsec (match payS m' 1 with | .over e m => (e, m) | .go m => _ : Int × SM).2 = _
      cases hpay : payS m' 1 with
      | over e m2 =>
        rw [hpay] at hp
        exact hp.trans ht
      | go m2 =>
        rw [hpay] at hp
        show hsec (match endM (p.blk.getD a.toNat blockZ) m2 with | .inl a2 => goesS p n a2 m2 | .inr r => r : Int × SM).2 = _
        cases he : endM (p.blk.getD a.toNat blockZ) m2 with
        | inl a2 => exact (goes_sec p n a2 m2).trans (hp.trans ht)
        | inr r => exact (endM_sec he).trans (hp.trans ht)

/-! ### What comes of them -/
end Go.Proofs.YtoabiignjkcdmaaGreat

namespace Go.Proofs.YtoabiignjkcdmaaGreat
open Go.RowKit Go.Proofs.YtoabiignjkcdmaaGreatW.PrintLast
set_option linter.unusedVariables false
set_option linter.unusedSimpArgs false

abbrev nilS : Value := .slice none 0 0
theorem own_nil {w w' : World} {b b' n s : Nat} {e : TypeId} {xs : List Value} (h : w.ownsRow b e s nilS n xs) : w'.ownsRow b' e s nilS n xs := by
  refine ⟨h.1, ?_⟩
  rcases h.2 with h | ⟨g, cap, cur, e, _⟩
  · exact .inl h
  · cases e
/-- The rows while nothing has run: what is new may be laid behind. -/
theorem MRows.lift {w : World} {base B2 B3 : Nat} {m : SM} {vv hv : Value} {hbs : List Value} (h : MRows w base B2 m vv hv nilS nilS nilS hbs []) (h1 : B2 ≤ B3) (h2 : B3 ≤ w.heap.size) : MRows w base B3 m vv hv nilS nilS nilS hbs [] where
  le := Nat.le_trans h.le h1
  sz := h2
  v := h.v
  vB := fun k e => Nat.lt_of_lt_of_le (h.vB k e) h1
  h := h.h
  hB := fun k e => Nat.lt_of_lt_of_le (h.hB k e) h1
  a := own_nil h.a
  l := own_nil h.l
  t := own_nil h.t
  hl := h.hl
  al := h.al
  hb := fun i a b => ⟨(h.hb i a b).1, fun k e => Nat.lt_of_lt_of_le ((h.hb i a b).2 k e) h1⟩
  ab := fun i a b => by simp at b
  hp := h.hp
  ap := h.ap
theorem MRows.up {w w' : World} {base : Nat} {m : SM} {vv hv : Value} {hbs : List Value} (h : MRows w base w.heap.size m vv hv nilS nilS nilS hbs []) (hb : Below w.heap.size w w') : MRows w' base w'.heap.size m vv hv nilS nilS nilS hbs [] :=
  (h.below hb).lift hb.size (Nat.le_refl _)
/-- An object more handed in. -/
theorem MRows.add_h {w w' : World} {base : Nat} {m : SM} {vv hv : Value} {hbs : List Value} (h : MRows w base w.heap.size m vv hv nilS nilS nilS hbs []) (x : SObj) (bv hv' : Value) (hg : w.grownBy w' hv.ownBlock) (ha : w'.ownsRow base 85 4 hv' (m.handed.length + 1) (objsC m.handed hbs ++ objC x bv))
    (hby : ByRow w base bv x.b) (hfr : ∀ b ∈ hbs, Apart b bv) : MRows w' base w'.heap.size { m with handed := m.handed ++ [x] } vv hv' nilS nilS nilS (hbs ++ [bv]) [] := by
  have hne : ∀ g, hv.ownBlock = some g → ∃ cur fz, w.heap[g]? = some (.cells cur 85 fz) := fun g e => own_type h.h e
  have hsz := hg.size
  exact {
    le := Nat.le_trans h.le hsz
    sz := Nat.le_refl _
    v := own_kept h.v hg fun g e => by obtain ⟨cur, fz, h1⟩ := hne g e; exact own_not h.v h1 (by decide)
    vB := fun k e => Nat.lt_of_lt_of_le (h.vB k e) hsz
    h := by
      rw [List.length_append, objsC_append _ _ _ _ h.hl]
      simpa [objsC] using ha
    hB := fun k e => by obtain ⟨cur, fz, h1⟩ := own_type ha e; exact (Array.getElem?_eq_some_iff.1 h1).1
    a := own_nil h.a
    l := own_nil h.l
    t := own_nil h.t
    hl := by simp [h.hl]
    al := h.al
    hb := fun k k1 k2 => by
      by_cases e : k < m.handed.length
      · have e2 : k < hbs.length := by rw [h.hl]; exact e
        rw [List.getElem_append_left e, List.getElem_append_left e2]
        exact ⟨(h.hb k e e2).1.kept hg fun g e' => by obtain ⟨cur, fz, h1⟩ := hne g e'; exact (h.hb k e e2).1.not h1 (by decide), fun g e' => Nat.lt_of_lt_of_le ((h.hb k e e2).2 g e') hsz⟩
      · have hk : k = m.handed.length := by simp at k1; omega
        subst hk
        rw [List.getElem_append_right (Nat.le_refl _), List.getElem_append_right (by rw [h.hl]; exact Nat.le_refl _)]
        simp only [Nat.sub_self, h.hl, List.getElem_cons_zero]
        exact ⟨hby.kept hg fun g e => by obtain ⟨cur, fz, h1⟩ := hne g e; exact hby.not h1 (by decide), fun g e => Nat.lt_of_lt_of_le (hby.lt g e) hsz⟩
    ab := fun i a b => by simp at b
    hp := List.pairwise_append.2 ⟨h.hp, by simp, fun c hc b hb => by simp at hb; subst hb; exact hfr c hc⟩
    ap := h.ap }
/-- The machine while nothing has run. -/
structure HR (w : World) (base mb nv : Nat) (m : SM) : Prop where
  ex : ∃ vv hv hbs, MRows w base w.heap.size m vv hv nilS nilS nilS hbs [] ∧ Bk w mb (mC m vv hv nilS nilS nilS) 81
  mb0 : base ≤ mb
  wf : MWf m nv
  em : m.arena = [] ∧ m.left = [] ∧ m.told = []
theorem HR.ma {w : World} {base mb nv : Nat} {m : SM} (h : HR w base mb nv m) : MA w base w.heap.size mb nv m := by
  obtain ⟨vv, hv, hbs, h1, h2⟩ := h.ex
  exact ⟨⟨_, _, _, _, _, _, _, h1, h2⟩, h.mb0, h.wf⟩
theorem HR.below {w w' : World} {base mb nv : Nat} {m : SM} (h : HR w base mb nv m) (hb : Below w.heap.size w w') : HR w' base mb nv m := by
  obtain ⟨vv, hv, hbs, h1, h2⟩ := h.ex
  exact ⟨⟨_, _, _, h1.up hb, h2.mono hb⟩, h.mb0, h.wf, h.em⟩
/-- What a checked param keeps to. -/
structure ParOk (nv : Nat) (h : SHanded) : Prop where
  d : 0 ≤ h.d ∧ h.d < nv
  l : h.buf = true → 0 ≤ h.len ∧ h.len < nv ∧ h.len ≠ h.d
theorem kHanded_at' {w : World} {A : Option Addr} {xs : List SHanded} (h : kHanded.Row w A xs) (i : Nat) (hi : i < xs.length) : ∃ b o, A = some ⟨b, o, none⟩ ∧
    w.cell? ⟨b, o + i * 5, none⟩ = some (.bool xs[i].buf) ∧ w.cell? ⟨b, o + i * 5 + 1, none⟩ = some (.bool xs[i].sec) ∧ w.cell? ⟨b, o + i * 5 + 2, none⟩ = some (.bool xs[i].mu) ∧
    w.cell? ⟨b, o + i * 5 + 3, none⟩ = some (.int .i64 xs[i].d) ∧ w.cell? ⟨b, o + i * 5 + 4, none⟩ = some (.int .i64 xs[i].len) := by
  obtain ⟨b, o, cs, e, h1, h2⟩ := h.at i hi
  obtain rfl : cs = xs[i].cells := h1
  exact ⟨b, o, e, h2 0 (by simp [SHanded.cells]), h2 1 (by simp [SHanded.cells]), h2 2 (by simp [SHanded.cells]), h2 3 (by simp [SHanded.cells]), h2 4 (by simp [SHanded.cells])⟩
theorem kU64_at' {w : World} {A : Option Addr} {xs : List Int} (h : kU64.Row w A xs) (i : Nat) (hi : i < xs.length) : ∃ b o, A = some ⟨b, o, none⟩ ∧ w.cell? ⟨b, o + i, none⟩ = some (.int .u64 xs[i]) := by
  obtain ⟨b, o, cs, e, h1, h2⟩ := h.at i hi
  obtain rfl : cs = [.int .u64 xs[i]] := h1
  exact ⟨b, o, e, by simpa [kU64, Kd.flat] using h2 0 (by simp)⟩
theorem kStr_at' {w : World} {A : Option Addr} {xs : List ByteArray} (h : kStr.Row w A xs) (i : Nat) (hi : i < xs.length) : ∃ b o, A = some ⟨b, o, none⟩ ∧ w.cell? ⟨b, o + i, none⟩ = some (.string xs[i]) := by
  obtain ⟨b, o, cs, e, h1, h2⟩ := h.at i hi
  obtain rfl : cs = [.string xs[i]] := h1
  exact ⟨b, o, e, by simpa [kStr, Kd.flat] using h2 0 (by simp)⟩
theorem kU64_tail {w : World} {b o : Nat} {x : Int} {xs : List Int} (h : kU64.Row w (some ⟨b, o, none⟩) (x :: xs)) : kU64.Row w (some ⟨b, o + 1, none⟩) xs := by
  by_cases h0 : xs = []
  · exact .inl h0
  right
  refine ⟨b, o + 1, rfl, fun i hi => ⟨[.int .u64 xs[i]], rfl, fun j hj => ?_⟩⟩
  obtain ⟨b', o', e, h1⟩ := kU64_at' h (i + 1) (by simpa using hi)
  injection e with e
  injection e with e1 e2 _
  subst e1 e2
  have hj0 : j = 0 := by simpa using hj
  subst hj0
  rw [show o + (i + 1) = o + 1 + i by omega] at h1
  simpa [kU64, Kd.flat] using h1
theorem HR.v_open {w : World} {base mb nv : Nat} {m : SM} (h : HR w base mb nv m) (hn : 0 < nv) : ∃ g c hv hbs, MRows w base w.heap.size m (.slice (some ⟨g, 0, none⟩) nv c) hv nilS nilS nilS hbs [] ∧ Bk w mb (mC m (.slice (some ⟨g, 0, none⟩) nv c) hv nilS nilS nilS) 81 ∧ base ≤ g ∧ g < w.heap.size ∧
    (∀ i : Int, 0 ≤ i → i < nv → w.cell? ⟨g, i.toNat, none⟩ = some (.int .u64 (m.get i))) ∧ ∀ j, w.frozen? ⟨g, j, none⟩ = false := by
  obtain ⟨vv, hv, hbs, h1, h2⟩ := h.ex
  obtain ⟨g, c, rfl, a, b, d, e⟩ := h1.v_open h.wf hn
  exact ⟨g, c, hv, hbs, h1, h2, a, b, d, e⟩
theorem HR.put {w : World} {base mb nv g c : Nat} {m : SM} {hv : Value} {hbs : List Value} (h : HR w base mb nv m) (h1 : MRows w base w.heap.size m (.slice (some ⟨g, 0, none⟩) nv c) hv nilS nilS nilS hbs []) (h2 : Bk w mb (mC m (.slice (some ⟨g, 0, none⟩) nv c) hv nilS nilS nilS) 81)
    (d x : Int) (d0 : 0 ≤ d) (d1 : d < nv) (x0 : 0 ≤ x) (x1 : x < 18446744073709551616) : HR (w.setCell ⟨g, d.toNat, none⟩ (.int .u64 x)) base mb nv (m.put d x) := by
  have hs : (w.setCell ⟨g, d.toNat, none⟩ (.int .u64 x)).heap.size = w.heap.size := by simp [World.setCell]
  have hr := h1.set_v d.toNat (by rw [h.wf.vl]; omega) x
  refine ⟨⟨_, _, _, by rw [hs]; exact hr, h2.other (h1.mb_ne h2) _⟩, h.mb0, h.wf.put d x x0 x1, h.em⟩
theorem bk_own {w : World} {n g : Nat} {cs : Array Value} {t : TypeId} (h : Bk w n cs t) (ho : MOwn w g) (ht : foreign (.cells cs t (0, 0)) = true) : n ≠ g := by
  rintro rfl
  obtain ⟨o, h1, h2⟩ := ho
  have h3 : w.heap[n]? = _ := h
  rw [h1] at h3
  injection h3 with h3
  rw [h3] at h2
  rw [ht] at h2
  cases h2
theorem HR.drew {w : World} {base mb nv : Nat} {m : SM} (h : HR w base mb nv m) : HR w.drew base mb nv m := h.below (Below.refl _ _).drew
theorem bytesWorld_below (w : World) (e : TypeId) (s : ByteArray) : Below w.heap.size w (Lib.bytesWorld w e s) :=
  ⟨rfl, rfl, rfl, by rw [Lib.bytesWorld_size]; omega, fun j hj => Lib.bytesWorld_at_old w e s j hj⟩
theorem bytesWorld_row {w : World} {base : Nat} (hb : base ≤ w.heap.size) (s : ByteArray) (cap : Nat) : ByRow (Lib.bytesWorld w 5 s) base (.slice (some ⟨w.heap.size, 0, none⟩) s.size cap) (bytesI s) := by
  refine ⟨w.heap.size, cap, _, _, _, by rw [bytesI_len], hb, Lib.bytesWorld_at_new w 5 s, .inl ?_, fun j hj => ?_⟩
  · rw [bytesI_len]
    unfold Lib.bytesCells
    rw [Array.size_append, Array.size_map]
    exact Nat.le_add_right _ _
  · have hj' : j < s.data.size := by rw [bytesI_len] at hj; exact hj
    unfold Lib.bytesCells
    rw [Array.getElem?_append_left (by rw [Array.size_map]; exact hj')]
    simp only [bytesI, Array.getElem?_map, Array.getElem?_eq_getElem hj', Option.map_some, List.getElem_map]
    rfl
theorem store4 {w : World} {gx : Nat} {z : Array Value} {t : TypeId} (h : Bk w gx z t) (hz : z.size = 4) (a b c d : Value) : w.there gx 0 4 ∧ Bk (w.setCells gx 0 [a, b, c, d]) gx #[a, b, c, d] t ∧ w.grownBy (w.setCells gx 0 [a, b, c, d]) (some gx) := by
  refine ⟨fun j hj => ⟨?_, ?_⟩, ?_, ?_⟩
  · rw [Nat.zero_add, h.cell j]
    simp [hz, hj]
  · exact h.free _
  · have h4 := (((h.set 0 a).set 1 b).set 2 c).set 3 d
    have e : ((((z.setIfInBounds 0 a).setIfInBounds 1 b).setIfInBounds 2 c).setIfInBounds 3 d) = #[a, b, c, d] := by
      apply Array.ext_getElem?
      intro i
      have hi : i = 0 ∨ i = 1 ∨ i = 2 ∨ i = 3 ∨ 4 ≤ i := by omega
      rcases hi with rfl | rfl | rfl | rfl | hi
      · simp [Array.getElem?_setIfInBounds, hz]
      · simp [Array.getElem?_setIfInBounds, hz]
      · simp [Array.getElem?_setIfInBounds, hz]
      · simp [Array.getElem?_setIfInBounds, hz]
      · rw [Array.getElem?_eq_none (by simp [hz]; omega), Array.getElem?_eq_none (by simp; omega)]
    rw [e] at h4
    exact h4
  · exact grown_trans (grown_trans (grown_trans (set_grown w gx 0 a) (set_grown _ gx 1 b)) (set_grown _ gx 2 c)) (set_grown _ gx 3 d)
theorem at_val (n : Nat) (hn : n ≤ 8) : IntKind.u64.wrap (16777216 + IntKind.u64.wrap (IntKind.u64.wrap (n : Int) * 65536)) = bufBase + (n : Int) * 65536 := by
  unfold bufBase
  rw [IntKind.wrap_u64, IntKind.wrap_u64, IntKind.wrap_u64]
  omega
theorem HR.put2 {w : World} {base mb nv g c : Nat} {m : SM} {hv : Value} {hbs : List Value} (h : HR w base mb nv m) (h1 : MRows w base w.heap.size m (.slice (some ⟨g, 0, none⟩) nv c) hv nilS nilS nilS hbs []) (h2 : Bk w mb (mC m (.slice (some ⟨g, 0, none⟩) nv c) hv nilS nilS nilS) 81)
    (d x e y : Int) (d0 : 0 ≤ d) (d1 : d < nv) (x0 : 0 ≤ x) (x1 : x < 18446744073709551616) (e0 : 0 ≤ e) (e1 : e < nv) (y0 : 0 ≤ y) (y1 : y < 18446744073709551616) : HR ((w.setCell ⟨g, d.toNat, none⟩ (.int .u64 x)).setCell ⟨g, e.toNat, none⟩ (.int .u64 y)) base mb nv ((m.put d x).put e y) := by
  have hs : (w.setCell ⟨g, d.toNat, none⟩ (.int .u64 x)).heap.size = w.heap.size := by simp [World.setCell]
  have hr := h1.set_v d.toNat (by rw [h.wf.vl]; omega) x
  have hh := h.put h1 h2 d x d0 d1 x0 x1
  exact hh.put (by rw [hs]; exact hr) (h2.other (h1.mb_ne h2) _) e y e0 e1 y0 y1
abbrev parCells (h : SHanded) : Array Value := #[.bool h.buf, .bool h.sec, .bool h.mu, .int .i64 h.d, .int .i64 h.len]
set_option maxRecDepth 100000 in
set_option maxHeartbeats 8000000 in
theorem hand_c (p : SIr) (inp : SIn) (m : SM) (w0 w : World) (base mb nv : Nat) (S P B NA BA : Option Addr) (c1 c2 c3 nc bc : Nat) (hP : kHanded.Row w0 P p.par) (hNA : kU64.Row w0 NA inp.nums) (hBA : kStr.Row w0 BA inp.bufs) (hbase : base = w0.heap.size) (h0 : Below base w0 w)
    (hH : HR w base mb nv m) (hm0 : m.handed = []) (hpar : ∀ h ∈ p.par, ParOk nv h) (hpl : p.par.length ≤ 8) (hn : inp.nums.length = (numsOf p.par).length) (hbf : inp.bufs.length = (bufsOf p.par).length)
    (hsz : ∀ b ∈ inp.bufs, b.size ≤ 4096) (hnr : ∀ x ∈ inp.nums, 0 ≤ x ∧ x < 18446744073709551616) (hcp : inp.nums.length ≤ nc ∧ nc ≤ 9223372036854775807) :
    Calls Tryz.prog 40 #[.pointer (some ⟨mb, 0, none⟩), .agg #[.slice S p.sec.length c1, .slice P p.par.length c2, .slice B p.blk.length c3], .agg #[.slice NA inp.nums.length nc, .slice BA inp.bufs.length bc]] w
      fun e w' => e = .returned (.tuple #[]) ∧ Fr base w w' ∧ HR w' base mb nv (layIn p.par inp.nums inp.bufs m) := by
  obtain ⟨w1, hw1⟩ : ∃ w1, w1 = (w.alloc (.cells #[.slice S p.sec.length c1, .slice P p.par.length c2, .slice B p.blk.length c3] 26)).alloc (.cells #[.slice NA inp.nums.length nc, .slice BA inp.bufs.length bc] 43) := ⟨_, rfl⟩
  have hb1 : Below w.heap.size w w1 := by rw [hw1]; exact ((Below.refl w.heap.size w).alloc (Nat.le_refl _) _).alloc (by simp) _
  have BP : Bk w1 w.heap.size #[.slice S p.sec.length c1, .slice P p.par.length c2, .slice B p.blk.length c3] 26 := by rw [hw1]; exact (Bk.new w _ _).alloc _
  have BI : Bk w1 (w.heap.size + 1) #[.slice NA inp.nums.length nc, .slice BA inp.bufs.length bc] 43 := by rw [hw1]; exact Bk.newAt _ _ (by simp)
  have hbs0 := hH.ma.base
  have HN := Lib.hid hn
  have HBF := Lib.hid hbf
  have HM0 := Lib.hid hm0
  have HBASE := Lib.hid hbase
  clear hn hbf hm0 hbase
  go_enter Tryz.func40, Tryz.ntmps40
  go_upto_region 1 with (fail)
  rw [← hw1]
  clear hw1
  have CP := BP.cell
  have CI := BI.cell
  go_wp2_with fail
  go_loopw [6, 16] (fun v s wr => ∃ (j : Nat) (A : Option Addr) (ns : List Int) (cc : Nat) (mj : SM), s = .int .i64 j ∧ v = .slice A ns.length cc ∧ ns.length ≤ cc ∧ cc ≤ 9223372036854775807 ∧ j ≤ p.par.length ∧ kU64.Row w0 A ns ∧ (∀ x ∈ ns, 0 ≤ x ∧ x < 18446744073709551616) ∧ mj.handed.length ≤ j ∧
    layIn p.par inp.nums inp.bufs m = layIn (p.par.drop j) ns (inp.bufs.drop mj.handed.length) mj ∧ ns.length = (numsOf (p.par.drop j)).length ∧ mj.handed.length + (bufsOf (p.par.drop j)).length = inp.bufs.length ∧
    Fr base w wr ∧ HR wr base mb nv mj ∧ Bk wr w.heap.size #[.slice S p.sec.length c1, .slice P p.par.length c2, .slice B p.blk.length c3] 26 ∧ Bk wr (w.heap.size + 1) #[.slice NA inp.nums.length nc, .slice BA inp.bufs.length bc] 43) (fun _ s _ => p.par.length - (intOf s).toNat)
  case atStart => exact ⟨0, NA, inp.nums, nc, m, rfl, rfl, hcp.1, hcp.2, Nat.zero_le _, hNA, hnr, by rw [HM0.out]; exact Nat.zero_le _, by rw [HM0.out]; rfl, HN.out, by rw [HM0.out, List.drop_zero, HBF.out]; simp, (Fr.refl base w).of hb1 hbs0, hH.below hb1, BP, BI⟩
  case round =>
    clear BP BI hb1 CP CI
    obtain ⟨j, A, ns, cc, mj, rfl, rfl, hcc, hcc2, hj, hA, hnr2, hhj, hlay, hcn, hcb, hfr, hHR, hBP, hBI⟩ := hrel
    by_cases hlt : j < p.par.length
    · obtain ⟨pb, po, rfl, g0, g1, g2, g3, g4⟩ := kHanded_at' hP j hlt
      have hOk := hpar _ (List.getElem_mem hlt)
      obtain ⟨h, hh⟩ : ∃ h, h = p.par[j] := ⟨_, rfl⟩
      rw [← hh] at g0 g1 g2 g3 g4 hOk
      have hdr : p.par.drop j = h :: p.par.drop (j + 1) := by rw [hh]; exact List.drop_eq_getElem_cons hlt
      rw [hdr] at hlay hcn hcb
      have hb0r : Below w0.heap.size w0 wr := HBASE.out ▸ h0.trans hfr.b
      have g0 := cm g0 hb0r
      have g1 := cm g1 hb0r
      have g2 := cm g2 hb0r
      have g3 := cm g3 hb0r
      have g4 := cm g4 hb0r
      have HLAY := Lib.hid hlay
      have HCN := Lib.hid hcn
      have HCB := Lib.hid hcb
      clear hlay hcn hcb hdr hh
      go_upto_region 5 with (fail)
      obtain ⟨Wh, hWh⟩ : ∃ Wh, Wh = wr.alloc (.cells (parCells h) 61) := ⟨_, rfl⟩
      rw [← hWh]
      have BH : Bk Wh wr.heap.size (parCells h) 61 := by rw [hWh]; exact Bk.new wr _ _
      have hbh : Below wr.heap.size wr Wh := by rw [hWh]; exact (Below.refl wr.heap.size wr).alloc (Nat.le_refl _) _
      clear hWh
      have hfrh : Fr base w Wh := hfr.of hbh hHR.ma.base
      have hHRh := hHR.below hbh
      have hBPh := hBP.mono hbh
      have hBIh := hBI.mono hbh
      clear hfr hHR hBP hBI g0 g1 g2 g3 g4 hb0r
      obtain ⟨hb, hhb⟩ : ∃ hb, hb = wr.heap.size := ⟨_, rfl⟩
      rw [← hhb] at BH ⊢
      clear hbh hhb
      have CH := BH.cell
      cases hbuf : h.buf with
      | false =>
        obtain ⟨x, xs, rfl⟩ : ∃ x xs, ns = x :: xs := by
          cases ns with
          | nil => have := HCN.out; simp [numsOf, List.filter_cons, hbuf] at this
          | cons x xs => exact ⟨x, xs, rfl⟩
        obtain ⟨nb, no, rfl, cn0⟩ := kU64_at' hA 0 (by simp)
        have cn : Wh.cell? ⟨nb, no, none⟩ = some (.int .u64 x) := cm cn0 (HBASE.out ▸ h0.trans hfrh.b)
        have hx := hnr2 x (by simp)
        obtain ⟨g, c, hv, hbs, hR, hM, hg0, hg1, hc, hf⟩ := hHRh.v_open (by have := hOk.d; omega)
        have c0 : Wh.cell? ⟨mb, 0, none⟩ = some (.slice (some ⟨g, 0, none⟩) nv c) := hM.cell 0
        have cd := hc h.d hOk.d.1 hOk.d.2
        have fd := hf h.d.toNat
        have hd := hOk.d
        have HX : Hid (HR (Wh.setCell ⟨g, h.d.toNat, none⟩ (.int .u64 x)) base mb nv (mj.put h.d x)) := Lib.hid (hHRh.put hR hM h.d x hd.1 hd.2 hx.1 hx.2)
        have HFX : Hid (Fr base w (Wh.setCell ⟨g, h.d.toNat, none⟩ (.int .u64 x))) := Lib.hid (hfrh.setCell hg0 hR.vO _)
        have HT : Hid (kU64.Row w0 (some ⟨nb, no + 1, none⟩) xs) := Lib.hid (kU64_tail hA)
        have hnl : xs.length + 1 ≤ cc := by simpa using hcc
        have hns : (x :: xs).length = xs.length + 1 := rfl
        have MO : MOwn Wh g := hR.vO
        have HN6 : Hid (xs.length = (numsOf (p.par.drop (j + 1))).length) := Lib.hid (by have := HCN.out; simp [numsOf, List.filter_cons, hbuf] at this; simpa [numsOf] using this)
        have HB6 : Hid (mj.handed.length + (bufsOf (p.par.drop (j + 1))).length = inp.bufs.length) := Lib.hid (by have := HCB.out; simp [bufsOf, List.filter_cons, hbuf] at this; simpa [bufsOf] using this)
        clear hc hf hR hM cn0
        simp only [List.length_cons]
        have hnx : xs.length < 9223372036854775807 := by omega
        by_cases hc1 : cc = 1
        · subst hc1
          have hx0 : xs.length = 0 := by omega
          have hxn : xs = [] := List.length_eq_zero_iff.1 hx0
          have HT2 : Hid (kU64.Row w0 (some ⟨nb, no, none⟩) xs) := Lib.hid (.inl hxn)
          have HX0 := Lib.hid hx0
          clear hxn
          go_upto_region 6 with (fail)
          go_region
          clear hx0
          obtain ⟨W6, hW6⟩ : ∃ W6, W6 = (Wh.setCell ⟨g, h.d.toNat, none⟩ (.int .u64 x)).drew := ⟨_, rfl⟩
          rw [← hW6]
          have hHR6 : HR W6 base mb nv (mj.put h.d x) := by rw [hW6]; exact HX.out.drew
          have hfr6 : Fr base w W6 := by rw [hW6]; exact HFX.out.drew
          have hBP6 : Bk W6 w.heap.size #[.slice S p.sec.length c1, .slice (some ⟨pb, po, none⟩) p.par.length c2, .slice B p.blk.length c3] 26 := by rw [hW6]; exact (hBPh.other (bk_own hBPh MO rfl) _).drew
          have hBI6 : Bk W6 (w.heap.size + 1) #[.slice NA inp.nums.length nc, .slice BA inp.bufs.length bc] 43 := by rw [hW6]; exact (hBIh.other (bk_own hBIh MO rfl) _).drew
          have HL6 : Hid (layIn p.par inp.nums inp.bufs m = layIn (p.par.drop (j + 1)) xs (inp.bufs.drop mj.handed.length) (mj.put h.d x)) := Lib.hid (by rw [HLAY.out, layIn, if_neg (by rw [hbuf]; decide)]; rfl)
          clear hW6 cn c0 cd fd HX HFX hBPh hBIh hHRh hfrh BH CH HLAY
          go_wp2_with fail
          go_roundw
          case rel => exact ⟨j + 1, some ⟨nb, no, none⟩, xs, 0, mj.put h.d x, by go_num, by rw [HX0.out], by omega, by omega, by omega, HT2.out, fun y hy => hnr2 y (by simp [hy]), by show mj.handed.length ≤ j + 1; omega, HL6.out, HN6.out, HB6.out, hfr6, hHR6, hBP6, hBI6⟩
          case measure => simp [intOf]; omega
        · have HT2 := HT
          go_upto_region 6 with (fail)
          go_region
          obtain ⟨W6, hW6⟩ : ∃ W6, W6 = (Wh.setCell ⟨g, h.d.toNat, none⟩ (.int .u64 x)).drew := ⟨_, rfl⟩
          rw [← hW6]
          have hHR6 : HR W6 base mb nv (mj.put h.d x) := by rw [hW6]; exact HX.out.drew
          have hfr6 : Fr base w W6 := by rw [hW6]; exact HFX.out.drew
          have hBP6 : Bk W6 w.heap.size #[.slice S p.sec.length c1, .slice (some ⟨pb, po, none⟩) p.par.length c2, .slice B p.blk.length c3] 26 := by rw [hW6]; exact (hBPh.other (bk_own hBPh MO rfl) _).drew
          have hBI6 : Bk W6 (w.heap.size + 1) #[.slice NA inp.nums.length nc, .slice BA inp.bufs.length bc] 43 := by rw [hW6]; exact (hBIh.other (bk_own hBIh MO rfl) _).drew
          have HL6 : Hid (layIn p.par inp.nums inp.bufs m = layIn (p.par.drop (j + 1)) xs (inp.bufs.drop mj.handed.length) (mj.put h.d x)) := Lib.hid (by rw [HLAY.out, layIn, if_neg (by rw [hbuf]; decide)]; rfl)
          clear hW6 cn c0 cd fd HX HFX hBPh hBIh hHRh hfrh BH CH HLAY
          go_wp2_with fail
          go_roundw
          case rel => exact ⟨j + 1, some ⟨nb, no + 1, none⟩, xs, cc - 1, mj.put h.d x, by go_num, rfl, by omega, by omega, by omega, HT2.out, fun y hy => hnr2 y (by simp [hy]), by show mj.handed.length ≤ j + 1; omega, HL6.out, HN6.out, HB6.out, hfr6, hHR6, hBP6, hBI6⟩
          case measure => simp [intOf]; omega
      | true =>
        have hnb : mj.handed.length < inp.bufs.length := by have := HCB.out; simp [bufsOf, List.filter_cons, hbuf] at this; omega
        obtain ⟨sb, hsb⟩ : ∃ sb, sb = inp.bufs[mj.handed.length] := ⟨_, rfl⟩
        obtain ⟨bb, bo, rfl, cb0⟩ := kStr_at' hBA mj.handed.length hnb
        rw [← hsb] at cb0
        have HBD : Hid (inp.bufs.drop mj.handed.length = sb :: inp.bufs.drop (mj.handed.length + 1)) := Lib.hid (by rw [hsb]; exact List.drop_eq_getElem_cons hnb)
        have hss := hsz sb (by rw [hsb]; exact List.getElem_mem hnb)
        clear hsb
        have hb0h : Below w0.heap.size w0 Wh := HBASE.out ▸ h0.trans hfrh.b
        have cb : Wh.cell? ⟨bb, bo + mj.handed.length, none⟩ = some (.string sb) := cm cb0 hb0h
        have ci1 : Wh.cell? ⟨w.heap.size + 1, 1, none⟩ = some (.slice (some ⟨bb, bo, none⟩) inp.bufs.length bc) := hBIh.cell 1
        obtain ⟨g, c, hv, hbs, hR, hM, hg0, hg1, hc, hf⟩ := hHRh.v_open (by have := hOk.d; omega)
        obtain ⟨ha, hcp', rfl⟩ := own_shape' hR.h
        have c1m : Wh.cell? ⟨mb, 1, none⟩ = some (.slice ha mj.handed.length hcp') := hM.cell 1
        have HN6 : Hid (ns.length = (numsOf (p.par.drop (j + 1))).length) := Lib.hid (by have := HCN.out; simp [numsOf, List.filter_cons, hbuf] at this; simpa [numsOf] using this)
        have HB6 : Hid (mj.handed.length + 1 + (bufsOf (p.par.drop (j + 1))).length = inp.bufs.length) := Lib.hid (by have := HCB.out; simp [bufsOf, List.filter_cons, hbuf] at this; simp [bufsOf]; omega)
        have hn8 : mj.handed.length ≤ 8 := by omega
        have hbh0 : base ≤ Wh.heap.size := hHRh.ma.base
        clear hc hf cb0 hb0h HCN HCB
        go_upto_region 8 with (fail)
        clear c1m
        have CS : ∀ V, Below Wh.heap.size Wh V → V.cell? ⟨w.heap.size + 1, 1, none⟩ = some (.slice (some ⟨bb, bo, none⟩) inp.bufs.length bc) ∧ V.cell? ⟨bb, bo + mj.handed.length, none⟩ = some (.string sb) ∧ V.cell? ⟨hb, 1, none⟩ = some (.bool h.sec) ∧ V.cell? ⟨hb, 2, none⟩ = some (.bool h.mu) :=
          fun V hV => ⟨cm ci1 hV, cm cb hV, cm (CH 1) hV, cm (CH 2) hV⟩
        have HCS := Lib.hid CS
        clear CS ci1 cb CH
        obtain ⟨Wb1, hWb1⟩ : ∃ Wb1, Wb1 = Lib.bytesWorld Wh.drew 5 sb := ⟨_, rfl⟩
        have HCV1 := Lib.run_convert_string_bytes (P := Tryz.prog) Wh.drew 9 83 5 sb Tryz.underlying9 Tryz.underlying83 Tryz.underlying5
        rw [← hWb1] at HCV1
        have hbb1 : Below Wh.heap.size Wh Wb1 := by rw [hWb1]; exact (Below.refl Wh.heap.size Wh).drew.trans (bytesWorld_below Wh.drew _ _)
        have sb1 : Wb1.heap.size = Wh.heap.size + 1 := by rw [hWb1]; exact Lib.bytesWorld_size _ _ _
        have hrb1 : ∀ cap, ByRow Wb1 base (.slice (some ⟨Wh.heap.size, 0, none⟩) sb.size cap) (bytesI sb) := fun cap => by rw [hWb1]; exact bytesWorld_row (w := Wh.drew) hbh0 sb cap
        obtain ⟨Wa2, hWa2⟩ : ∃ Wa2, Wa2 = Wh.drew.alloc (.cells #[.int .u64 0, .slice none 0 0, .bool false, .bool false] 85) := ⟨_, rfl⟩
        have hba2 : Below Wh.heap.size Wh Wa2 := by rw [hWa2]; exact (Below.refl Wh.heap.size Wh).drew.alloc (Nat.le_refl _) _
        have sa2 : Wa2.heap.size = Wh.heap.size + 1 := by rw [hWa2]; simp
        have hka2 : Bk Wa2 Wh.heap.size #[.int .u64 0, .slice none 0 0, .bool false, .bool false] 85 := by rw [hWa2]; exact Bk.new Wh.drew _ _
        obtain ⟨Wb2, hWb2⟩ : ∃ Wb2, Wb2 = Lib.bytesWorld Wa2 5 sb := ⟨_, rfl⟩
        have HCV2 := Lib.run_convert_string_bytes (P := Tryz.prog) Wa2 9 83 5 sb Tryz.underlying9 Tryz.underlying83 Tryz.underlying5
        rw [← hWb2] at HCV2
        have hbb2' : Below Wa2.heap.size Wa2 Wb2 := by rw [hWb2]; exact bytesWorld_below Wa2 _ _
        have hbb2 : Below Wh.heap.size Wh Wb2 := hba2.trans (hbb2'.mono hba2.size)
        have hrb2 : ∀ cap, ByRow Wb2 base (.slice (some ⟨Wa2.heap.size, 0, none⟩) sb.size cap) (bytesI sb) := fun cap => by rw [hWb2]; exact bytesWorld_row (w := Wa2) (by omega) sb cap
        have HH1 := Lib.hid hbb1
        have HH2 := Lib.hid hbb2
        have HS1 := Lib.hid sb1
        have HS2 := Lib.hid sa2
        have HR1 := Lib.hid hrb1
        have HR2 := Lib.hid hrb2
        have HA2 := Lib.hid hba2
        have HB2 := Lib.hid hbb2'
        have HK2 := Lib.hid hka2
        have HWA := Lib.hid hWa2
        clear hbb1 hbb2 sb1 sa2 hrb1 hrb2 hWb1 hWb2 hba2 hbb2' hka2 hWa2
        refine start_ (n := 18) (S := fun w' => w'.cell? ⟨w.heap.size + 1, 1, none⟩ = some (.slice (some ⟨bb, bo, none⟩) inp.bufs.length bc) ∧ w'.cell? ⟨bb, bo + mj.handed.length, none⟩ = some (.string sb) ∧ w'.cell? ⟨hb, 1, none⟩ = some (.bool h.sec) ∧ w'.cell? ⟨hb, 2, none⟩ = some (.bool h.mu)) (ds := [17]) (bz 18 0) (by kernel_rfl) rfl rfl (HCS.out _ (Below.refl _ _).drew) (fun hHeld => ?_)
        refine pure_ (i := 0) (N := (some 40)) (v := ?_) (a' := ?_) (bz 18 1) rfl rfl (by kernel_rfl) (fun _ _ _ h => h) (Or.inl ⟨by rfl, ?_⟩) ?_ ?_
        rotate_left
        · intro w'
          go_simp
          with_reducible rfl
        rotate_left
        · simp only [Act.put, sa_, sb_, sc_]
          rfl
        refine pure_ (i := 1) (N := (some 41)) (v := ?_) (a' := ?_) (bz 18 3) rfl rfl (by kernel_rfl) (fun _ _ _ h => h) (Or.inl ⟨by rfl, ?_⟩) ?_ ?_
        rotate_left
        · intro w'
          go_simp
          with_reducible rfl
        rotate_left
        · simp only [Act.put, sa_, sb_, sc_]
          rfl
        refine pure_ (i := 2) (N := (some 42)) (v := ?_) (a' := ?_) (bz 18 7) rfl rfl (by kernel_rfl) (fun _ _ _ h => h) (Or.inl ⟨by rfl, ?_⟩) ?_ ?_
        rotate_left
        · intro w'
          go_simp
          with_reducible rfl
        rotate_left
        · simp only [Act.put, sa_, sb_, sc_]
          rfl
        refine pure_ (i := 3) (N := (some 43)) (v := ?_) (a' := ?_) (bz 18 15) rfl rfl (by kernel_rfl) (fun _ _ _ h => h) (Or.inl ⟨by rfl, ?_⟩) ?_ ?_
        rotate_left
        · intro w'
          go_simp
          with_reducible rfl
        rotate_left
        · simp only [Act.put, sa_, sb_, sc_]
          rfl
        refine pure_ (i := 4) (N := (some 44)) (v := ?_) (a' := ?_) (bz 18 31) rfl rfl (by kernel_rfl) (fun _ _ _ h => h) (Or.inl ⟨by rfl, ?_⟩) ?_ ?_
        rotate_left
        · intro w'
          go_simp
          with_reducible rfl
        rotate_left
        · simp only [Act.put, sa_, sb_, sc_]
          rfl
        refine pure_ (i := 6) (N := (some 46)) (v := ?_) (a' := ?_) (bz 18 95) rfl rfl (by kernel_rfl) (fun _ _ _ h => h) (Or.inl ⟨by rfl, ?_⟩) ?_ ?_
        rotate_left
        · intro w'
          go_simp
          with_reducible rfl
        rotate_left
        · simp only [Act.put, sa_, sb_, sc_]
          rfl
        refine pure_ (i := 10) (N := (some 50)) (v := ?_) (a' := ?_) (bz 18 1119) rfl rfl (by kernel_rfl) (fun _ _ _ h => h) (Or.inl ⟨by rfl, ?_⟩) ?_ ?_
        rotate_left
        · intro w'
          go_simp
          with_reducible rfl
        rotate_left
        · simp only [Act.put, sa_, sb_, sc_]
          rfl
        refine pure_ (i := 12) (N := (some 52)) (v := ?_) (a' := ?_) (bz 18 5215) rfl rfl (by kernel_rfl) (fun _ _ _ h => h) (Or.inl ⟨by rfl, ?_⟩) ?_ ?_
        rotate_left
        · intro w'
          go_simp
          with_reducible rfl
        rotate_left
        · simp only [Act.put, sa_, sb_, sc_]
          rfl
        refine take_ (i := 5) (N := (some 45)) (v := ?_) (a' := ?_) (bz 18 5247) rfl rfl (by kernel_rfl) (fun _ _ _ h => h) (Or.inl ⟨by rfl, ?_⟩) hHeld ?_ ?_
        rotate_left
        · rintro w' ⟨s0, s1, s2, s3⟩
          go_simp
          with_reducible rfl
        rotate_left
        · simp only [Act.put, sa_, sb_, sc_]
          rfl
        refine pure_ (i := 7) (N := (some 47)) (v := ?_) (a' := ?_) (bz 18 5375) rfl rfl (by kernel_rfl) (fun _ _ _ h => h) (Or.inl ⟨by rfl, ?_⟩) ?_ ?_
        rotate_left
        · intro w'
          go_simp
          with_reducible rfl
        rotate_left
        · simp only [Act.put, sa_, sb_, sc_]
          rfl
        refine take_ (i := 8) (N := (some 48)) (v := ?_) (a' := ?_) (bz 18 5631) rfl rfl (by kernel_rfl) (fun _ _ _ h => h) (Or.inl ⟨by rfl, ?_⟩) hHeld ?_ ?_
        rotate_left
        · rintro w' ⟨s0, s1, s2, s3⟩
          go_simp
          with_reducible rfl
        rotate_left
        · simp only [Act.put, sa_, sb_, sc_]
          rfl
        refine take_ (i := 11) (N := (some 51)) (v := ?_) (a' := ?_) (bz 18 7679) rfl rfl (by kernel_rfl) (fun _ _ _ h => h) (Or.inl ⟨by rfl, ?_⟩) hHeld ?_ ?_
        rotate_left
        · rintro w' ⟨s0, s1, s2, s3⟩
          go_simp
          with_reducible rfl
        rotate_left
        · simp only [Act.put, sa_, sb_, sc_]
          rfl
        refine take_ (i := 13) (N := (some 53)) (v := ?_) (a' := ?_) (bz 18 15871) rfl rfl (by kernel_rfl) (fun _ _ _ h => h) (Or.inl ⟨by rfl, ?_⟩) hHeld ?_ ?_
        rotate_left
        · rintro w' ⟨s0, s1, s2, s3⟩
          go_simp
          with_reducible rfl
        rotate_left
        · simp only [Act.put, sa_, sb_, sc_]
          rfl
        refine pure_ (i := 14) (N := (some 54)) (v := ?_) (a' := ?_) (bz 18 32255) rfl rfl (by kernel_rfl) (fun _ _ _ h => h) (Or.inl ⟨by rfl, ?_⟩) ?_ ?_
        rotate_left
        · intro w'
          go_simp
          with_reducible rfl
        rotate_left
        · simp only [Act.put, sa_, sb_, sc_]
          rfl
        refine join_ (σ := Nat × Nat × Nat) 1 (bz 18 131071) (fun s => [(49, .slice (some ⟨s.1, 0, none⟩) sb.size s.2.2), (55, .agg #[.int .u64 (IntKind.u64.wrap (16777216 + IntKind.u64.wrap (IntKind.u64.wrap (mj.handed.length : Int) * 65536))), .slice (some ⟨s.1, 0, none⟩) sb.size s.2.2, .bool h.sec, .bool (!h.mu)]), (10, .pointer (some ⟨s.2.1, 0, none⟩))]) (fun s w' => Below Wh.heap.size Wh w' ∧ ByRow w' base (.slice (some ⟨s.1, 0, none⟩) sb.size s.2.2) (bytesI sb) ∧ Bk w' s.2.1 #[.int .u64 0, .slice none 0 0, .bool false, .bool false] 85 ∧ Wh.heap.size ≤ s.1 ∧ Wh.heap.size ≤ s.2.1) ?_ (fun HC => ?_)
        rotate_left
        · refine two_ (i := 9) (j := 16) (Ni := (some 49)) (Nj := (some 10)) (bz 18 32767) (bz 18 97791) rfl rfl rfl rfl (by kernel_rfl) (by decide) (by decide) (fun K hK => ?_) (fun K hK => ?_)
          · refine value_ (v := .slice (some ⟨Wh.heap.size, 0, none⟩) sb.size (grownCap Wh.drew sb.size 0 5)) (w1 := Wb1) (by rfl) rfl ?_ ?_
            · go_simp
            refine hK.out _ _ (HCS.out _ HH1.out) (fun hHeld => ?_)
            clear hK K
            refine norm_ (a' := ?_) ?_ ?_
            rotate_left
            · show Act.put _ (some 49) _ = _
              simp only [Act.put, sa_, sb_, sc_]
              rfl
            refine pure_ (i := 15) (N := (some 55)) (v := ?_) (a' := ?_) (bz 18 65535) rfl rfl (by kernel_rfl) (fun _ _ _ h => h) (Or.inl ⟨by rfl, ?_⟩) ?_ ?_
            rotate_left
            · intro w'
              go_simp
              with_reducible rfl
            rotate_left
            · simp only [Act.put, sa_, sb_, sc_]
              rfl
            refine one_ (i := 16) (N := (some 10)) (bz 18 131071) rfl rfl (by kernel_rfl) (by decide) (fun K hK => ?_)
            refine value_ (v := .pointer (some ⟨Wb1.heap.size, 0, none⟩)) (w1 := Wb1.alloc (.cells #[.int .u64 0, .slice none 0 0, .bool false, .bool false] 85)) (by rfl) rfl ?_ ?_
            · go_simp
            refine hK.out _ _ (HCS.out _ (HH1.out.alloc HH1.out.size _)) (fun hHeld => ?_)
            clear hK K
            refine norm_ (a' := ?_) ?_ ?_
            rotate_left
            · show Act.put _ (some 10) _ = _
              simp only [Act.put, sa_, sb_, sc_]
              rfl
            refine norm_ (by simp only [putAll, Act.put, List.setIfInBounds_toArray, List.set_cons_zero, List.set_cons_succ]) (HC (Wh.heap.size, Wb1.heap.size, grownCap Wh.drew sb.size 0 5) _ ⟨HH1.out.alloc HH1.out.size _, (HR1.out _).kept (grown_of_below ((Below.refl _ _).alloc (Nat.le_refl _) _) none) (fun g e => by cases e), Bk.new Wb1 _ _, Nat.le_refl _, HH1.out.size⟩)
          · refine value_ (v := .pointer (some ⟨Wh.heap.size, 0, none⟩)) (w1 := Wa2) (by rfl) rfl ?_ ?_
            · rw [HWA.out]
              go_simp
            refine hK.out _ _ (HCS.out _ HA2.out) (fun hHeld => ?_)
            clear hK K
            refine norm_ (a' := ?_) ?_ ?_
            rotate_left
            · show Act.put _ (some 10) _ = _
              simp only [Act.put, sa_, sb_, sc_]
              rfl
            refine one_ (i := 9) (N := (some 49)) (bz 18 98303) rfl rfl (by kernel_rfl) (by decide) (fun K hK => ?_)
            refine value_ (v := .slice (some ⟨Wa2.heap.size, 0, none⟩) sb.size (grownCap Wa2 sb.size 0 5)) (w1 := Wb2) (by rfl) rfl ?_ ?_
            · go_simp
            refine hK.out _ _ (HCS.out _ HH2.out) (fun hHeld => ?_)
            clear hK K
            refine norm_ (a' := ?_) ?_ ?_
            rotate_left
            · show Act.put _ (some 49) _ = _
              simp only [Act.put, sa_, sb_, sc_]
              rfl
            refine pure_ (i := 15) (N := (some 55)) (v := ?_) (a' := ?_) (bz 18 131071) rfl rfl (by kernel_rfl) (fun _ _ _ h => h) (Or.inl ⟨by rfl, ?_⟩) ?_ ?_
            rotate_left
            · intro w'
              go_simp
              with_reducible rfl
            rotate_left
            · simp only [Act.put, sa_, sb_, sc_]
              rfl
            refine norm_ (by simp only [putAll, Act.put, List.setIfInBounds_toArray, List.set_cons_zero, List.set_cons_succ]) (HC (Wa2.heap.size, Wh.heap.size, grownCap Wa2 sb.size 0 5) _ ⟨HH2.out, HR2.out _, HK2.out.mono HB2.out, HA2.out.size, Nat.le_refl _⟩)
        clear HCV1 HCV2 HH1 HH2 HS1 HS2 HR1 HR2 HA2 HB2 HK2 HCS hHeld HWA
        rintro ⟨gb, gx, cap⟩ w8 ⟨hb8, hby8, hx8, hgb, hgx⟩
        refine norm_ (a' := ?_) ?_ ?_
        rotate_left
        · simp only [putAll, Act.put, List.setIfInBounds_toArray, List.set_cons_zero, List.set_cons_succ]
          rfl
        simp only at hby8 hx8 hgb hgx
        obtain ⟨xat, hxat⟩ : ∃ xat, xat = IntKind.u64.wrap (16777216 + IntKind.u64.wrap (IntKind.u64.wrap (mj.handed.length : Int) * 65536)) := ⟨_, rfl⟩
        obtain ⟨hth, hbx8, hgr8⟩ := store4 hx8 rfl (.int .u64 xat) (.slice (some ⟨gb, 0, none⟩) sb.size cap) (.bool h.sec) (.bool (!h.mu))
        rw [← hxat]
        have CX8 := hx8.cell
        have FX8 := hx8.free
        have HXAT := Lib.hid hxat
        clear hxat
        refine last_ (i := 17) (N := none) (bz 18 262143) rfl rfl (by kernel_rfl) (by decide) (fun K hK => ?_)
        refine skip_ (w1 := w8.setCells gx 0 [.int .u64 xat, .slice (some ⟨gb, 0, none⟩) sb.size cap, .bool h.sec, .bool (!h.mu)]) (by rfl) rfl ?_ ?_
        · go_simp
          rfl
        refine hK.out _ _ ?_
        clear hK K
        refine done_ (by kernel_rfl) ?_
        obtain ⟨W8, hW8⟩ : ∃ W8, W8 = w8.setCells gx 0 [.int .u64 xat, .slice (some ⟨gb, 0, none⟩) sb.size cap, .bool h.sec, .bool (!h.mu)] := ⟨_, rfl⟩
        rw [← hW8] at hbx8 hgr8 ⊢
        have hb8' : Below Wh.heap.size Wh W8 := hb8.grown hgr8 hb8.size (fun k e => by cases e; exact hgx)
        have hrow8 : ByRow W8 base (.slice (some ⟨gb, 0, none⟩) sb.size cap) (bytesI sb) := hby8.kept hgr8 (fun g e => by cases e; exact hby8.not hx8 (by decide))
        have hHR8 := hHRh.below hb8'
        have hR8 := hR.up hb8'
        have hM8 := hM.mono hb8'
        have BH8 := BH.mono hb8'
        have hBP8 := hBPh.mono hb8'
        have hBI8 := hBIh.mono hb8'
        have hfr8 := hfrh.of hb8' hbh0
        have hvlt : ∀ k, (Value.slice ha mj.handed.length hcp').ownBlock = some k → k ≠ gx := fun k e => by have := hR.hB k e; omega
        have hgbn : ∀ b ∈ hbs, Apart b (.slice (some ⟨gb, 0, none⟩) sb.size cap) := fun b hb k e1 e2 => by
          obtain ⟨j, hj, rfl⟩ := List.getElem_of_mem hb
          have h2 := (hR.hb j (by rw [← hR.hl]; exact hj) hj).2 k e1
          simp only [Value.ownBlock, Option.some.injEq] at e2
          omega
        have hwf8 := hHR8.wf
        have hem8 := hHR8.em
        have hmb8 := hHR8.mb0
        clear hW8 hb8 hby8 hx8 hgr8 hb8' hHRh hR hM BH hBPh hBIh hfrh CX8 FX8 hth hg1 hHR8
        obtain ⟨i0, hi, hz0, hz1, hz2⟩ := info_parts infoObj
        obtain ⟨wb, hwb⟩ : ∃ wb, wb = W8.drew.alloc (.cells #[.int .u64 xat, .slice (some ⟨gb, 0, none⟩) sb.size cap, .bool h.sec, .bool (!h.mu)] 85) := ⟨_, rfl⟩
        have hbb : Below W8.heap.size W8 wb := by rw [hwb]; exact (Below.refl W8.heap.size W8).drew.alloc (Nat.le_refl _) _
        have hNB : Bk wb W8.heap.size #[.int .u64 xat, .slice (some ⟨gb, 0, none⟩) sb.size cap, .bool h.sec, .bool (!h.mu)] 85 := by rw [hwb]; exact Bk.new W8.drew _ _
        have hRb := hR8.up hbb
        have hMb := hM8.mono hbb
        have BHb := BH8.mono hbb
        have hbxb := hbx8.mono hbb
        have hBPb := hBP8.mono hbb
        have hBIb := hBI8.mono hbb
        have hrowb := hrow8.kept (grown_of_below hbb none) (fun g e => by cases e)
        have hbs8 : base ≤ W8.heap.size := hR8.le
        obtain ⟨x, hx⟩ : ∃ x : SObj, x = ⟨xat, bytesI sb, h.sec, !h.mu⟩ := ⟨_, rfl⟩
        have hmn : mj.handed.length + 1 ≤ 9223372036854775807 := by omega
        have HPOST : ∀ hv' w3, w3.ownsRow base 85 4 hv' (mj.handed.length + 1) (objsC mj.handed hbs ++ objC x (.slice (some ⟨gb, 0, none⟩) sb.size cap)) → wb.grownBy w3 (Value.slice ha mj.handed.length hcp').ownBlock →
            MRows w3 base w3.heap.size { mj with handed := mj.handed ++ [x] } (.slice (some ⟨g, 0, none⟩) nv c) hv' nilS nilS nilS (hbs ++ [.slice (some ⟨gb, 0, none⟩) sb.size cap]) [] ∧ Bk w3 mb (mC mj (.slice (some ⟨g, 0, none⟩) nv c) (.slice ha mj.handed.length hcp') nilS nilS nilS) 81 ∧ Bk w3 hb (parCells h) 61 ∧ Bk w3 gx #[.int .u64 xat, .slice (some ⟨gb, 0, none⟩) sb.size cap, .bool h.sec, .bool (!h.mu)] 85 ∧
              Bk w3 w.heap.size #[.slice S p.sec.length c1, .slice (some ⟨pb, po, none⟩) p.par.length c2, .slice B p.blk.length c3] 26 ∧ Bk w3 (w.heap.size + 1) #[.slice NA inp.nums.length nc, .slice (some ⟨bb, bo, none⟩) inp.bufs.length bc] 43 ∧ Fr base w w3 := by
          intro hv' w3 ho hg
          have hnot : ∀ {n : Nat} {cs : Array Value} {t : TypeId}, Bk wb n cs t → 85 ≠ t → (Value.slice ha mj.handed.length hcp').ownBlock ≠ some n := fun hk ht => own_not hRb.h hk ht
          refine ⟨hRb.add_h x _ hv' hg ho (by rw [hx]; exact hrowb) hgbn, ?_, ?_, ?_, ?_, ?_, ?_⟩
          · exact hMb.grown hg (fun e => hnot hMb (by decide) e.symm)
          · exact BHb.grown hg (fun e => hnot BHb (by decide) e.symm)
          · exact hbxb.grown hg (fun e => hvlt gx e.symm rfl)
          · exact hBPb.grown hg (fun e => hnot hBPb (by decide) e.symm)
          · exact hBIb.grown hg (fun e => hnot hBIb (by decide) e.symm)
          · exact (hfr8.of hbb hbs8).grown hg hRb.le fun k e => ⟨own_from hRb.h k e, own_oO hRb.h e⟩
        have HP := Lib.hid HPOST
        clear HPOST
        have CS : ∀ V, Below W8.heap.size W8 V → V.cell? ⟨mb, 1, none⟩ = some (Value.slice ha mj.handed.length hcp') ∧ V.cell? ⟨gx, 0, none⟩ = some (.int .u64 xat) ∧ V.cell? ⟨gx, 1, none⟩ = some (.slice (some ⟨gb, 0, none⟩) sb.size cap) ∧ V.cell? ⟨gx, 2, none⟩ = some (.bool h.sec) ∧ V.cell? ⟨gx, 3, none⟩ = some (.bool (!h.mu)) :=
          fun V hV => ⟨cm (hM8.cell 1) hV, cm (hbx8.cell 0) hV, cm (hbx8.cell 1) hV, cm (hbx8.cell 2) hV, cm (hbx8.cell 3) hV⟩
        have HCS := Lib.hid CS
        clear CS
        go_upto_region 9 with (fail)
        refine start_ (n := 11) (S := fun w' => w'.cell? ⟨mb, 1, none⟩ = some (Value.slice ha mj.handed.length hcp') ∧ w'.cell? ⟨gx, 0, none⟩ = some (.int .u64 xat) ∧ w'.cell? ⟨gx, 1, none⟩ = some (.slice (some ⟨gb, 0, none⟩) sb.size cap) ∧ w'.cell? ⟨gx, 2, none⟩ = some (.bool h.sec) ∧ w'.cell? ⟨gx, 3, none⟩ = some (.bool (!h.mu))) (ds := [10]) (bz 11 0) (by kernel_rfl) rfl rfl (HCS.out _ (Below.refl _ _).drew) (fun hHeld => ?_)
        refine pure_ (i := 0) (N := (some 56)) (v := ?_) (a' := ?_) (bz 11 1) rfl rfl (by kernel_rfl) (fun _ _ _ h => h) (Or.inl ⟨by rfl, ?_⟩) ?_ ?_
        rotate_left
        · intro w'
          go_simp
          with_reducible rfl
        rotate_left
        · simp only [Act.put, sa_, sb_, sc_]
          rfl
        refine pure_ (i := 1) (N := (some 57)) (v := ?_) (a' := ?_) (bz 11 3) rfl rfl (by kernel_rfl) (fun _ _ _ h => h) (Or.inl ⟨by rfl, ?_⟩) ?_ ?_
        rotate_left
        · intro w'
          go_simp
          with_reducible rfl
        rotate_left
        · simp only [Act.put, sa_, sb_, sc_]
          rfl
        refine pure_ (i := 2) (N := (some 58)) (v := ?_) (a' := ?_) (bz 11 7) rfl rfl (by kernel_rfl) (fun _ _ _ h => h) (Or.inl ⟨by rfl, ?_⟩) ?_ ?_
        rotate_left
        · intro w'
          go_simp
          with_reducible rfl
        rotate_left
        · simp only [Act.put, sa_, sb_, sc_]
          rfl
        refine pure_ (i := 3) (N := (some 59)) (v := ?_) (a' := ?_) (bz 11 15) rfl rfl (by kernel_rfl) (fun _ _ _ h => h) (Or.inl ⟨by rfl, ?_⟩) ?_ ?_
        rotate_left
        · intro w'
          go_simp
          with_reducible rfl
        rotate_left
        · simp only [Act.put, sa_, sb_, sc_]
          rfl
        refine take_ (i := 4) (N := (some 60)) (v := ?_) (a' := ?_) (bz 11 31) rfl rfl (by kernel_rfl) (fun _ _ _ h => h) (Or.inl ⟨by rfl, ?_⟩) hHeld ?_ ?_
        rotate_left
        · rintro w' ⟨s0, s1, s2, s3, s4⟩
          go_simp
          with_reducible rfl
        rotate_left
        · simp only [Act.put, sa_, sb_, sc_]
          rfl
        refine take_ (i := 5) (N := (some 61)) (v := ?_) (a' := ?_) (bz 11 63) rfl rfl (by kernel_rfl) (fun _ _ _ h => h) (Or.inl ⟨by rfl, ?_⟩) hHeld ?_ ?_
        rotate_left
        · rintro w' ⟨s0, s1, s2, s3, s4⟩
          go_simp
          with_reducible rfl
        rotate_left
        · simp only [Act.put, sa_, sb_, sc_]
          rfl
        refine one_ (i := 6) (N := (some 62)) (bz 11 127) rfl rfl (by kernel_rfl) (by decide) (fun K hK => ?_)
        refine value_ (v := .slice (some ⟨W8.heap.size, 0, none⟩) 1 1) (w1 := wb) (by rfl) rfl ?_ ?_
        · rw [hwb]
          go_simp
        refine hK.out _ _ (HCS.out _ hbb) (fun hHeld => ?_)
        clear hK K
        refine norm_ (a' := ?_) ?_ ?_
        rotate_left
        · show Act.put _ (some 62) _ = _
          simp only [Act.put, sa_, sb_, sc_]
          rfl
        refine one_ (i := 7) (N := (some 63)) (bz 11 255) rfl rfl (by kernel_rfl) (by decide) (fun K hK => ?_)
        refine step_append_lies _ rfl _ _ 78 (by rfl) base 85 i0 (.agg #[.int .u64 0, .slice none 0 0, .bool false, .bool false]) 4 40 Tryz.underlying78 hi hz0 hz1 hz2 rfl (by decide) (.slice ha mj.handed.length hcp') mj.handed.length (objsC mj.handed hbs) (by rfl) hRb.h ⟨W8.heap.size, 0, none⟩ 1 1 (objC x (.slice (some ⟨gb, 0, none⟩) sb.size cap)) (by rfl) rfl (fun j u hu => ?_) (by simp [objC, Value.oneCell']) (by decide) (by unfold maxLen; omega) (by omega) hRb.le _ rfl ?_
        · rw [hx] at hu
          exact World.news_of_block hNB j u hu
        intro ga cap9 w9 ho hgr _ _
        obtain ⟨hR9, hM9, BH9, hbx9, hBP9, hBI9, hfr9⟩ := HP.out _ _ ho hgr
        refine hK.out _ _ ⟨hM9.cell 1, hbx9.cell 0, hbx9.cell 1, hbx9.cell 2, hbx9.cell 3⟩ (fun hHeld => ?_)
        clear hK K
        have fM9 := hM9.free
        have cM9 := hM9.cell 1
        refine norm_ (a' := ?_) ?_ ?_
        rotate_left
        · show Act.put _ (some 63) _ = _
          simp only [Act.put, sa_, sb_, sc_]
          rfl
        refine pure_ (i := 8) (N := (some 64)) (v := ?_) (a' := ?_) (bz 11 511) rfl rfl (by kernel_rfl) (fun _ _ _ h => h) (Or.inl ⟨by rfl, ?_⟩) ?_ ?_
        rotate_left
        · intro w'
          go_simp
          with_reducible rfl
        rotate_left
        · simp only [Act.put, sa_, sb_, sc_]
          rfl
        refine pure_ (i := 9) (N := (some 65)) (v := ?_) (a' := ?_) (bz 11 1023) rfl rfl (by kernel_rfl) (fun _ _ _ h => h) (Or.inl ⟨by rfl, ?_⟩) ?_ ?_
        rotate_left
        · intro w'
          go_simp
          with_reducible rfl
        rotate_left
        · simp only [Act.put, sa_, sb_, sc_]
          rfl
        refine last_ (i := 10) (N := none) (bz 11 2047) rfl rfl (by kernel_rfl) (by decide) (fun K hK => ?_)
        refine skip_ (w1 := ?_) (by rfl) rfl ?_ ?_
        rotate_left
        · go_simp
          rfl
        refine hK.out _ _ ?_
        clear hK K
        refine done_ (by kernel_rfl) ?_
        obtain ⟨hv9, hhv9⟩ : ∃ v : Value, v = .slice (some ⟨ga, 0, none⟩) (mj.handed.length + 1) cap9 := ⟨_, rfl⟩
        rw [← hhv9] at hR9 ⊢
        obtain ⟨W9, hW9⟩ : ∃ W9, W9 = w9.setCell ⟨mb, 1, none⟩ hv9 := ⟨_, rfl⟩
        have hsz9 : W9.heap.size = w9.heap.size := by rw [hW9]; simp [World.setCell]
        have hR10 : MRows W9 base W9.heap.size { mj with handed := mj.handed ++ [x] } (.slice (some ⟨g, 0, none⟩) nv c) hv9 nilS nilS nilS (hbs ++ [.slice (some ⟨gb, 0, none⟩) sb.size cap]) [] := by
          rw [hsz9, hW9]
          exact hR9.mach hM9 1 _
        have hM10 : Bk W9 mb (mC { mj with handed := mj.handed ++ [x] } (.slice (some ⟨g, 0, none⟩) nv c) hv9 nilS nilS nilS) 81 := by rw [hW9]; exact hM9.set 1 _
        have BH10 : Bk W9 hb (parCells h) 61 := by rw [hW9]; exact BH9.other (bk_ne BH9 hM9 (by decide)) _
        have hbx10 : Bk W9 gx #[.int .u64 xat, .slice (some ⟨gb, 0, none⟩) sb.size cap, .bool h.sec, .bool (!h.mu)] 85 := by rw [hW9]; exact hbx9.other (bk_ne hbx9 hM9 (by decide)) _
        have hBP10 : Bk W9 w.heap.size #[.slice S p.sec.length c1, .slice (some ⟨pb, po, none⟩) p.par.length c2, .slice B p.blk.length c3] 26 := by rw [hW9]; exact hBP9.other (bk_ne hBP9 hM9 (by decide)) _
        have hBI10 : Bk W9 (w.heap.size + 1) #[.slice NA inp.nums.length nc, .slice (some ⟨bb, bo, none⟩) inp.bufs.length bc] 43 := by rw [hW9]; exact hBI9.other (bk_ne hBI9 hM9 (by decide)) _
        have hfr10 : Fr base w W9 := by rw [hW9]; exact hfr9.setCell hmb8 hM9.own _
        rw [← hW9]
        clear hhv9 hW9 hR9 hM9 BH9 hbx9 hBP9 hBI9 hfr9 ho hgr fM9 cM9 hHeld HP HCS hi hz0 hz1 hz2 hNB hRb hMb BHb hbxb hBPb hBIb hrowb hwb hbb hR8 hM8 BH8 hbx8 hBP8 hBI8 hrow8 hfr8 hsz9 hvlt hgbn
        have hxa : xat = bufBase + (mj.handed.length : Int) * 65536 := HXAT.out.trans (at_val _ hn8)
        have hxa0 : 0 ≤ xat ∧ xat < 18446744073709551616 := by unfold bufBase at hxa; omega
        have HXA := Lib.hid hxa
        clear hxa HXAT
        have hwf10 : MWf { mj with handed := mj.handed ++ [x] } nv := {
          vl := hwf8.vl
          vr := hwf8.vr
          tk := hwf8.tk
          st := hwf8.st
          ob := fun y hy => by
            rcases List.mem_append.1 hy with h2 | h2
            · rcases List.mem_append.1 h2 with h3 | h3
              · exact hwf8.ob y (List.mem_append_left _ h3)
              · obtain rfl : y = x := by simpa using h3
                rw [hx]
                refine ⟨hxa0.1, hxa0.2, ?_, fun c hc => ?_⟩
                · show (bytesI sb).length ≤ 65536
                  rw [bytesI_len]
                  omega
                · obtain ⟨u, _, rfl⟩ := List.mem_map.1 (show c ∈ bytesI sb from hc)
                  have := u.toNat_lt
                  omega
            · exact hwf8.ob y (List.mem_append_right _ h2)
          al := hwf8.al
          lf := hwf8.lf
          am := hwf8.am
          tm := hwf8.tm }
        have hHR10 : HR W9 base mb nv { mj with handed := mj.handed ++ [x] } := ⟨⟨_, _, _, hR10, hM10⟩, hmb8, hwf10, hem8⟩
        have hgn : ∀ {n : Nat} {cs : Array Value} {t : TypeId}, Bk W9 n cs t → 46 ≠ t → n ≠ g := fun hk ht e => by subst e; exact own_not hR10.v hk ht rfl
        have hl := hOk.l hbuf
        have hd := hOk.d
        have hgsz : g < W9.heap.size := hR10.vB g rfl
        obtain ⟨cd, cl, fd⟩ : (∃ v, W9.cell? ⟨g, h.d.toNat, none⟩ = some v) ∧ (∃ v, W9.cell? ⟨g, h.len.toNat, none⟩ = some v) ∧ ∀ j, W9.frozen? ⟨g, j, none⟩ = false := by
          obtain ⟨g', c', e, _, _, q1, q2⟩ := hR10.v_open hwf10 (by omega)
          injection e with e _ _
          injection e with e
          injection e with e _ _
          subst e
          exact ⟨⟨_, q1 h.d hd.1 hd.2⟩, ⟨_, q1 h.len hl.1 hl.2.1⟩, q2⟩
        obtain ⟨vd, cd⟩ := cd
        obtain ⟨vl, cl⟩ := cl
        have fdd := fd h.d.toNat
        have fdl := fd h.len.toNat
        have hpv : IntKind.u64.wrap (sb.size : Int) = (sb.size : Int) := by rw [IntKind.wrap_u64]; omega
        have H10 := Lib.hid (hHR10.put2 hR10 hM10 h.d xat h.len sb.size hd.1 hd.2 hxa0.1 hxa0.2 hl.1 hl.2.1 (by omega) (by omega))
        have hdl : h.d.toNat ≠ h.len.toNat := by omega
        have CS : W9.drew.cell? ⟨mb, 0, none⟩ = some (.slice (some ⟨g, 0, none⟩) nv c) ∧ W9.drew.cell? ⟨hb, 3, none⟩ = some (.int .i64 h.d) ∧ W9.drew.cell? ⟨hb, 4, none⟩ = some (.int .i64 h.len) ∧ W9.drew.cell? ⟨gx, 0, none⟩ = some (.int .u64 xat) ∧ W9.drew.cell? ⟨gx, 1, none⟩ = some (.slice (some ⟨gb, 0, none⟩) sb.size cap) := ⟨hM10.cell 0, BH10.cell 3, BH10.cell 4, hbx10.cell 0, hbx10.cell 1⟩
        have CS2 : (W9.drew.setCell ⟨g, h.d.toNat, none⟩ (.int .u64 xat)).cell? ⟨mb, 0, none⟩ = some (.slice (some ⟨g, 0, none⟩) nv c) ∧ (W9.drew.setCell ⟨g, h.d.toNat, none⟩ (.int .u64 xat)).cell? ⟨hb, 3, none⟩ = some (.int .i64 h.d) ∧ (W9.drew.setCell ⟨g, h.d.toNat, none⟩ (.int .u64 xat)).cell? ⟨hb, 4, none⟩ = some (.int .i64 h.len) ∧ (W9.drew.setCell ⟨g, h.d.toNat, none⟩ (.int .u64 xat)).cell? ⟨gx, 0, none⟩ = some (.int .u64 xat) ∧ (W9.drew.setCell ⟨g, h.d.toNat, none⟩ (.int .u64 xat)).cell? ⟨gx, 1, none⟩ = some (.slice (some ⟨gb, 0, none⟩) sb.size cap) := ⟨keep_set (hgn hM10 (by decide)) (hM10.cell 0), keep_set (hgn BH10 (by decide)) (BH10.cell 3), keep_set (hgn BH10 (by decide)) (BH10.cell 4), keep_set (hgn hbx10 (by decide)) (hbx10.cell 0), keep_set (hgn hbx10 (by decide)) (hbx10.cell 1)⟩
        have clS : ∀ v0, (W9.drew.setCell ⟨g, h.d.toNat, none⟩ v0).cell? ⟨g, h.len.toNat, none⟩ = some vl := fun v0 => (World.cell?_setCell_other W9.drew ⟨g, h.d.toNat, none⟩ ⟨g, h.len.toNat, none⟩ v0 (fun e => by injection e with _ e; exact hdl e)).trans cl
        have HCS := Lib.hid CS
        have HCS2 := Lib.hid CS2
        have HFR := Lib.hid ((hfr10.drew.setCell (g := g) (i := h.d.toNat) hg0 hR10.vO (.int .u64 xat)).setCell (g := g) (i := h.len.toNat) hg0 (hR10.set_v h.d.toNat (by rw [hwf10.vl]; omega) xat).vO (.int .u64 (sb.size : Int)))
        clear CS CS2 fd hgn hfr10
        go_upto_region 10 with (fail)
        refine start_ (n := 22) (S := fun w' => w'.cell? ⟨mb, 0, none⟩ = some (.slice (some ⟨g, 0, none⟩) nv c) ∧ w'.cell? ⟨hb, 3, none⟩ = some (.int .i64 h.d) ∧ w'.cell? ⟨hb, 4, none⟩ = some (.int .i64 h.len) ∧ w'.cell? ⟨gx, 0, none⟩ = some (.int .u64 xat) ∧ w'.cell? ⟨gx, 1, none⟩ = some (.slice (some ⟨gb, 0, none⟩) sb.size cap)) (ds := [21]) (bz 22 0) (by kernel_rfl) rfl rfl HCS.out (fun hHeld => ?_)
        refine pure_ (i := 0) (N := (some 66)) (v := ?_) (a' := ?_) (bz 22 1) rfl rfl (by kernel_rfl) (fun _ _ _ h => h) (Or.inl ⟨by rfl, ?_⟩) ?_ ?_
        rotate_left
        · intro w'
          go_simp
          with_reducible rfl
        rotate_left
        · simp only [Act.put, sa_, sb_, sc_]
          rfl
        refine pure_ (i := 1) (N := (some 67)) (v := ?_) (a' := ?_) (bz 22 3) rfl rfl (by kernel_rfl) (fun _ _ _ h => h) (Or.inl ⟨by rfl, ?_⟩) ?_ ?_
        rotate_left
        · intro w'
          go_simp
          with_reducible rfl
        rotate_left
        · simp only [Act.put, sa_, sb_, sc_]
          rfl
        refine pure_ (i := 2) (N := (some 68)) (v := ?_) (a' := ?_) (bz 22 7) rfl rfl (by kernel_rfl) (fun _ _ _ h => h) (Or.inl ⟨by rfl, ?_⟩) ?_ ?_
        rotate_left
        · intro w'
          go_simp
          with_reducible rfl
        rotate_left
        · simp only [Act.put, sa_, sb_, sc_]
          rfl
        refine pure_ (i := 4) (N := (some 70)) (v := ?_) (a' := ?_) (bz 22 23) rfl rfl (by kernel_rfl) (fun _ _ _ h => h) (Or.inl ⟨by rfl, ?_⟩) ?_ ?_
        rotate_left
        · intro w'
          go_simp
          with_reducible rfl
        rotate_left
        · simp only [Act.put, sa_, sb_, sc_]
          rfl
        refine pure_ (i := 6) (N := (some 72)) (v := ?_) (a' := ?_) (bz 22 87) rfl rfl (by kernel_rfl) (fun _ _ _ h => h) (Or.inl ⟨by rfl, ?_⟩) ?_ ?_
        rotate_left
        · intro w'
          go_simp
          with_reducible rfl
        rotate_left
        · simp only [Act.put, sa_, sb_, sc_]
          rfl
        refine pure_ (i := 7) (N := (some 73)) (v := ?_) (a' := ?_) (bz 22 215) rfl rfl (by kernel_rfl) (fun _ _ _ h => h) (Or.inl ⟨by rfl, ?_⟩) ?_ ?_
        rotate_left
        · intro w'
          go_simp
          with_reducible rfl
        rotate_left
        · simp only [Act.put, sa_, sb_, sc_]
          rfl
        refine pure_ (i := 8) (N := (some 74)) (v := ?_) (a' := ?_) (bz 22 471) rfl rfl (by kernel_rfl) (fun _ _ _ h => h) (Or.inl ⟨by rfl, ?_⟩) ?_ ?_
        rotate_left
        · intro w'
          go_simp
          with_reducible rfl
        rotate_left
        · simp only [Act.put, sa_, sb_, sc_]
          rfl
        refine pure_ (i := 10) (N := (some 76)) (v := ?_) (a' := ?_) (bz 22 1495) rfl rfl (by kernel_rfl) (fun _ _ _ h => h) (Or.inl ⟨by rfl, ?_⟩) ?_ ?_
        rotate_left
        · intro w'
          go_simp
          with_reducible rfl
        rotate_left
        · simp only [Act.put, sa_, sb_, sc_]
          rfl
        refine pure_ (i := 12) (N := (some 78)) (v := ?_) (a' := ?_) (bz 22 5591) rfl rfl (by kernel_rfl) (fun _ _ _ h => h) (Or.inl ⟨by rfl, ?_⟩) ?_ ?_
        rotate_left
        · intro w'
          go_simp
          with_reducible rfl
        rotate_left
        · simp only [Act.put, sa_, sb_, sc_]
          rfl
        refine pure_ (i := 14) (N := (some 80)) (v := ?_) (a' := ?_) (bz 22 21975) rfl rfl (by kernel_rfl) (fun _ _ _ h => h) (Or.inl ⟨by rfl, ?_⟩) ?_ ?_
        rotate_left
        · intro w'
          go_simp
          with_reducible rfl
        rotate_left
        · simp only [Act.put, sa_, sb_, sc_]
          rfl
        refine take_ (i := 3) (N := (some 69)) (v := ?_) (a' := ?_) (bz 22 21983) rfl rfl (by kernel_rfl) (fun _ _ _ h => h) (Or.inl ⟨by rfl, ?_⟩) hHeld ?_ ?_
        rotate_left
        · rintro w' ⟨s0, s1, s2, s3, s4⟩
          go_simp
          with_reducible rfl
        rotate_left
        · simp only [Act.put, sa_, sb_, sc_]
          rfl
        refine take_ (i := 5) (N := (some 71)) (v := ?_) (a' := ?_) (bz 22 22015) rfl rfl (by kernel_rfl) (fun _ _ _ h => h) (Or.inl ⟨by rfl, ?_⟩) hHeld ?_ ?_
        rotate_left
        · rintro w' ⟨s0, s1, s2, s3, s4⟩
          go_simp
          with_reducible rfl
        rotate_left
        · simp only [Act.put, sa_, sb_, sc_]
          rfl
        refine take_ (i := 9) (N := (some 75)) (v := ?_) (a' := ?_) (bz 22 22527) rfl rfl (by kernel_rfl) (fun _ _ _ h => h) (Or.inl ⟨by rfl, ?_⟩) hHeld ?_ ?_
        rotate_left
        · rintro w' ⟨s0, s1, s2, s3, s4⟩
          go_simp
          with_reducible rfl
        rotate_left
        · simp only [Act.put, sa_, sb_, sc_]
          rfl
        refine take_ (i := 11) (N := (some 77)) (v := ?_) (a' := ?_) (bz 22 24575) rfl rfl (by kernel_rfl) (fun _ _ _ h => h) (Or.inl ⟨by rfl, ?_⟩) hHeld ?_ ?_
        rotate_left
        · rintro w' ⟨s0, s1, s2, s3, s4⟩
          go_simp
          with_reducible rfl
        rotate_left
        · simp only [Act.put, sa_, sb_, sc_]
          rfl
        refine take_ (i := 13) (N := (some 79)) (v := ?_) (a' := ?_) (bz 22 32767) rfl rfl (by kernel_rfl) (fun _ _ _ h => h) (Or.inl ⟨by rfl, ?_⟩) hHeld ?_ ?_
        rotate_left
        · rintro w' ⟨s0, s1, s2, s3, s4⟩
          go_simp
          with_reducible rfl
        rotate_left
        · simp only [Act.put, sa_, sb_, sc_]
          rfl
        refine pure_ (i := 18) (N := (some 84)) (v := ?_) (a' := ?_) (bz 22 294911) rfl rfl (by kernel_rfl) (fun _ _ _ h => h) (Or.inl ⟨by rfl, ?_⟩) ?_ ?_
        rotate_left
        · intro w'
          go_simp
          with_reducible rfl
        rotate_left
        · simp only [Act.put, sa_, sb_, sc_]
          rfl
        refine take_ (i := 15) (N := (some 81)) (v := ?_) (a' := ?_) (bz 22 327679) rfl rfl (by kernel_rfl) (fun _ _ _ h => h) (Or.inl ⟨by rfl, ?_⟩) hHeld ?_ ?_
        rotate_left
        · rintro w' ⟨s0, s1, s2, s3, s4⟩
          go_simp
          with_reducible rfl
        rotate_left
        · simp only [Act.put, sa_, sb_, sc_]
          rfl
        refine pure_ (i := 16) (N := (some 82)) (v := ?_) (a' := ?_) (bz 22 393215) rfl rfl (by kernel_rfl) (fun _ _ _ h => h) (Or.inl ⟨by rfl, ?_⟩) ?_ ?_
        rotate_left
        · intro w'
          go_simp
          with_reducible rfl
        rotate_left
        · simp only [Act.put, sa_, sb_, sc_]
          rfl
        refine pure_ (i := 17) (N := (some 83)) (v := ?_) (a' := ?_) (bz 22 524287) rfl rfl (by kernel_rfl) (fun _ _ _ h => h) (Or.inl ⟨by rfl, ?_⟩) ?_ ?_
        rotate_left
        · intro w'
          go_simp
          with_reducible rfl
        rotate_left
        · simp only [Act.put, sa_, sb_, sc_]
          rfl
        refine one_ (i := 19) (N := none) (bz 22 1048575) rfl rfl (by kernel_rfl) (by decide) (fun K hK => ?_)
        refine skip_ (w1 := W9.drew.setCell ⟨g, h.d.toNat, none⟩ (.int .u64 xat)) (by rfl) rfl ?_ ?_
        · go_simp
        refine hK.out _ _ HCS2.out (fun hHeld => ?_)
        clear hK K
        refine pure_ (i := 20) (N := (some 85)) (v := ?_) (a' := ?_) (bz 22 2097151) rfl rfl (by kernel_rfl) (fun _ _ _ h => h) (Or.inl ⟨by rfl, ?_⟩) ?_ ?_
        rotate_left
        · intro w'
          go_simp
          with_reducible rfl
        rotate_left
        · simp only [Act.put, sa_, sb_, sc_]
          rfl
        refine last_ (i := 21) (N := none) (bz 22 4194303) rfl rfl (by kernel_rfl) (by decide) (fun K hK => ?_)
        refine skip_ (w1 := (W9.drew.setCell ⟨g, h.d.toNat, none⟩ (.int .u64 xat)).setCell ⟨g, h.len.toNat, none⟩ (.int .u64 sb.size)) (by rfl) rfl ?_ ?_
        · go_simp
        refine hK.out _ _ ?_
        clear hK K
        refine done_ (by kernel_rfl) ?_
        obtain ⟨W11, hW11⟩ : ∃ W11, W11 = (W9.drew.setCell ⟨g, h.d.toNat, none⟩ (.int .u64 xat)).setCell ⟨g, h.len.toNat, none⟩ (.int .u64 sb.size) := ⟨_, rfl⟩
        have eW : W11 = ((W9.setCell ⟨g, h.d.toNat, none⟩ (.int .u64 xat)).setCell ⟨g, h.len.toNat, none⟩ (.int .u64 sb.size)).drew := by rw [hW11, World.setCell_drew, World.setCell_drew]
        rw [← hW11]
        have hHR11 : HR W11 base mb nv (({ mj with handed := mj.handed ++ [x] } : SM).put h.d xat |>.put h.len sb.size) := by rw [eW]; exact H10.out.drew
        have hg1 : MOwn (W9.setCell ⟨g, h.d.toNat, none⟩ (.int .u64 xat)) g := (hR10.set_v h.d.toNat (by rw [hwf10.vl]; omega) xat).vO
        have hBP11 : Bk W11 w.heap.size #[.slice S p.sec.length c1, .slice (some ⟨pb, po, none⟩) p.par.length c2, .slice B p.blk.length c3] 26 := by rw [eW]; exact ((hBP10.other (bk_own hBP10 hR10.vO rfl) _).other (bk_own hBP10 hR10.vO rfl) _).drew
        have hBI11 : Bk W11 (w.heap.size + 1) #[.slice NA inp.nums.length nc, .slice (some ⟨bb, bo, none⟩) inp.bufs.length bc] 43 := by rw [eW]; exact ((hBI10.other (bk_own hBI10 hR10.vO rfl) _).other (bk_own hBI10 hR10.vO rfl) _).drew
        have hfr11 : Fr base w W11 := by rw [hW11]; exact HFR.out
        have HL11 : Hid (layIn p.par inp.nums inp.bufs m = layIn (p.par.drop (j + 1)) ns (inp.bufs.drop (mj.handed.length + 1)) (({ mj with handed := mj.handed ++ [x] } : SM).put h.d xat |>.put h.len sb.size)) := Lib.hid (by
          rw [HLAY.out, HBD.out, layIn, if_pos hbuf, hx, HXA.out]
          rfl)
        have hHL : ((({ mj with handed := mj.handed ++ [x] } : SM).put h.d xat).put h.len sb.size).handed.length = mj.handed.length + 1 := by
          show (mj.handed ++ [x]).length = _
          rw [List.length_append]
          rfl
        have HHL := Lib.hid hHL
        clear eW hW11 hR10 hM10 BH10 hbx10 hBP10 hBI10 HFR H10 HCS HCS2 hg1 clS cd cl fdd fdl hHR10 HLAY HBD hwf10 hHL hpv
        go_wp2_with fail
        go_roundw
        case rel => exact ⟨j + 1, A, ns, cc, _, by go_num, rfl, hcc, hcc2, by omega, hA, hnr2, by rw [HHL.out]; omega, by rw [HHL.out]; exact HL11.out, HN6.out, by rw [HHL.out]; exact HB6.out, hfr11, hHR11, hBP11, hBI11⟩
        case measure => simp [intOf]; omega
    · have hjl : j = p.par.length := by omega
      have HE : Hid (layIn p.par inp.nums inp.bufs m = mj) := Lib.hid (by rw [hlay, hjl, List.drop_length]; rfl)
      clear hlay hcn hcb hjl
      have CP := hBP.cell
      go_wp2_with fail
      go_end0
      exact ⟨rfl, hfr, by rw [HE.out]; exact hHR⟩
end Go.Proofs.YtoabiignjkcdmaaGreat
