/-
  Lemmas (texts OpenR FoldP FoldB), each proved without a condition beyond its own hypotheses.
-/
import Derived.Test.YtoabiignjkcdmaaGreatFd1
import Derived.Test.YtoabiignjkcdmaaGreatFd23
import Derived.Test.YtoabiignjkcdmaaGreatFd2
namespace Go.Proofs.YtoabiignjkcdmaaGreat
open Go.RowKit Go.ChangeShapes Go.WideShapes Go.ChangeAt
set_option linter.unusedVariables false
set_option linter.unusedSimpArgs false

theorem cellsHanded : Tryz.prog.cellsOf 61 = 5 := by kernel_rfl
theorem cellsBlock : Tryz.prog.cellsOf 38 = 5 := by kernel_rfl
theorem cellsIr : Tryz.prog.cellsOf 26 = 3 := by kernel_rfl
theorem cellsInput : Tryz.prog.cellsOf 43 = 2 := by kernel_rfl
theorem cellsStr : Tryz.prog.cellsOf 9 = 1 := by kernel_rfl
theorem cellsOps : Tryz.prog.cellsOf 36 = 1 := by kernel_rfl
theorem cellsBools : Tryz.prog.cellsOf 22 = 1 := by kernel_rfl
theorem cellsHandeds : Tryz.prog.cellsOf 23 = 1 := by kernel_rfl
theorem cellsBlocks : Tryz.prog.cellsOf 24 = 1 := by kernel_rfl
theorem cellsNums : Tryz.prog.cellsOf 40 = 1 := by kernel_rfl
theorem cellsStrs : Tryz.prog.cellsOf 41 = 1 := by kernel_rfl
theorem bytesOp : Tryz.prog.bytesOf 54 = 40 := by kernel_rfl
theorem list2 {α : Type} {l : List α} (h : l.length = 2) : ∃ a b, l = [a, b] := by
  match l, h with
  | [a, b], _ => exact ⟨a, b, rfl⟩
theorem opens_handed : Opens Tryz.prog 61 kHanded (fun _ => True) := by
  intro H enc w sp fuel cs x h hw
  obtain ⟨hl, n, hf⟩ := open_struct Tryz.underlying61 h hw
  obtain ⟨c0, c1, c2, c3, c4, rfl⟩ := list5 (hl.trans cellsHanded)
  obtain ⟨y0, h0, -⟩ := fld hf 0 _ rfl 4 0 1 rfl rfl cellsBool
  obtain ⟨y1, h1, -⟩ := fld hf 1 _ rfl 4 1 1 rfl rfl cellsBool
  obtain ⟨y2, h2, -⟩ := fld hf 2 _ rfl 4 2 1 rfl rfl cellsBool
  obtain ⟨y3, h3, -⟩ := fld hf 3 _ rfl 3 3 1 rfl rfl cellsInt
  obtain ⟨y4, h4, -⟩ := fld hf 4 _ rfl 3 4 1 rfl rfl cellsInt
  simp only [List.drop_succ_cons, List.drop_zero, List.take_succ_cons, List.take_zero] at h0 h1 h2 h3 h4
  obtain ⟨a, e0, -⟩ := DataW.trod_bool Tryz.underlying4 h0
  obtain ⟨b, e1, -⟩ := DataW.trod_bool Tryz.underlying4 h1
  obtain ⟨c, e2, -⟩ := DataW.trod_bool Tryz.underlying4 h2
  obtain ⟨d, e3, -, -⟩ := DataW.trod_int Tryz.underlying3 h3
  obtain ⟨l, e4, -, -⟩ := DataW.trod_int Tryz.underlying3 h4
  simp only [List.cons.injEq, and_true] at e0 e1 e2 e3 e4
  subst e0; subst e1; subst e2; subst e3; subst e4
  exact ⟨⟨a, b, c, d, l⟩, rfl, trivial⟩
def BlkIn (b : SBlock) : Prop := b.ops.length * 40 ≤ reachBytes ∧ ∀ o ∈ b.ops, o.wf
theorem opens_block : Opens Tryz.prog 38 kBlock BlkIn := by
  intro H enc w sp fuel cs x h hw
  obtain ⟨hl, n, hf⟩ := open_struct Tryz.underlying38 h hw
  obtain ⟨c0, c1, c2, c3, c4, rfl⟩ := list5 (hl.trans cellsBlock)
  obtain ⟨y0, h0, w0⟩ := fld hf 0 _ rfl 36 0 1 rfl rfl cellsOps
  obtain ⟨y1, h1, -⟩ := fld hf 1 _ rfl 5 1 1 rfl rfl cellsU8
  obtain ⟨y2, h2, -⟩ := fld hf 2 _ rfl 3 2 1 rfl rfl cellsInt
  obtain ⟨y3, h3, -⟩ := fld hf 3 _ rfl 3 3 1 rfl rfl cellsInt
  obtain ⟨y4, h4, -⟩ := fld hf 4 _ rfl 3 4 1 rfl rfl cellsInt
  simp only [List.drop_succ_cons, List.drop_zero, List.take_succ_cons, List.take_zero] at h0 h1 h2 h3 h4
  obtain ⟨ops, ⟨A, cap, e0, hm, hr⟩, hq⟩ := opens_slice (k := kOp) (by decide) opens_op Tryz.underlying36 cellsOp enc w sp _ _ _ h0 w0
  obtain ⟨e, e1, -, -⟩ := DataW.trod_int Tryz.underlying5 h1
  obtain ⟨a, e2, -, -⟩ := DataW.trod_int Tryz.underlying3 h2
  obtain ⟨g, e3, -, -⟩ := DataW.trod_int Tryz.underlying3 h3
  obtain ⟨l, e4, -, -⟩ := DataW.trod_int Tryz.underlying3 h4
  simp only [List.cons.injEq, and_true] at e0 e1 e2 e3 e4
  subst e0; subst e1; subst e2; subst e3; subst e4
  rw [bytesOp] at hq
  exact ⟨⟨ops, e, a, g, l⟩, ⟨A, cap, rfl, hm, hr⟩, hq⟩
/-- A program that came in. -/
theorem open_ir {H : Type} {enc : TypeId × Value → H} {w : World} {sp : Nat → Bool} {fuel : Nat} {cs : List Value} {x : DataW H × List MemPlace} (h : DataW.trod enc Tryz.prog w 0 sp true fuel 26 cs = some x) (hw : ∀ n ∈ x.1.weights Tryz.prog 26, n ≤ reachBytes) :
    ∃ (p : SIr) (S P B : Option Addr) (c1 c2 c3 : Nat), cs = [.slice S p.sec.length c1, .slice P p.par.length c2, .slice B p.blk.length c3] ∧ kBool.Row w S p.sec ∧ kHanded.Row w P p.par ∧ kBlock.Row w B p.blk ∧ (p.sec.length ≤ maxLen ∧ p.par.length ≤ maxLen ∧ p.blk.length ≤ maxLen) ∧ ∀ b ∈ p.blk, BlkIn b := by
  obtain ⟨hl, n, hf⟩ := open_struct Tryz.underlying26 h hw
  obtain ⟨v0, v1, v2, rfl⟩ := list3 (hl.trans cellsIr)
  obtain ⟨y0, h0, w0⟩ := fld hf 0 _ rfl 22 0 1 rfl rfl cellsBools
  obtain ⟨y1, h1, w1⟩ := fld hf 1 _ rfl 23 1 1 rfl rfl cellsHandeds
  obtain ⟨y2, h2, w2⟩ := fld hf 2 _ rfl 24 2 1 rfl rfl cellsBlocks
  simp only [List.drop_succ_cons, List.drop_zero, List.take_succ_cons, List.take_zero] at h0 h1 h2
  obtain ⟨sec, ⟨S, c1, e0, m0, r0⟩, -⟩ := opens_slice (k := kBool) (by decide) (opens_bool Tryz.underlying4) Tryz.underlying22 cellsBool enc w sp _ _ _ h0 w0
  obtain ⟨par, ⟨P, c2, e1, m1, r1⟩, -⟩ := opens_slice (k := kHanded) (by decide) opens_handed Tryz.underlying23 cellsHanded enc w sp _ _ _ h1 w1
  obtain ⟨blk, ⟨B, c3, e2, m2, r2⟩, q2⟩ := opens_slice (k := kBlock) (by decide) opens_block Tryz.underlying24 cellsBlock enc w sp _ _ _ h2 w2
  simp only [List.cons.injEq, and_true] at e0 e1 e2
  subst e0; subst e1; subst e2
  exact ⟨⟨sec, par, blk⟩, S, P, B, c1, c2, c3, rfl, r0, r1, r2, ⟨m0, m1, m2⟩, q2.2⟩
theorem opens_u64 : Opens Tryz.prog 46 kU64 (fun x => (Lit.int .u64 x).wf = true) := opens_int _ (fun _ => rfl) (fun _ => rfl) Tryz.underlying46
/-- An input that came in. -/
theorem open_in {H : Type} {enc : TypeId × Value → H} {w : World} {sp : Nat → Bool} {fuel : Nat} {cs : List Value} {x : DataW H × List MemPlace} (h : DataW.trod enc Tryz.prog w 0 sp true fuel 43 cs = some x) (hw : ∀ n ∈ x.1.weights Tryz.prog 43, n ≤ reachBytes) :
    ∃ (i : SIn) (NA BA : Option Addr) (nc bc : Nat), cs = [.slice NA i.nums.length nc, .slice BA i.bufs.length bc] ∧ kU64.Row w NA i.nums ∧ kStr.Row w BA i.bufs ∧ (i.nums.length ≤ nc ∧ nc ≤ maxLen) ∧ i.bufs.length ≤ maxLen ∧ (∀ x ∈ i.nums, 0 ≤ x ∧ x < 18446744073709551616) ∧ ∀ b ∈ i.bufs, b.size ≤ reachBytes := by
  obtain ⟨hl, n, hf⟩ := open_struct Tryz.underlying43 h hw
  obtain ⟨v0, v1, rfl⟩ := list2 (hl.trans cellsInput)
  obtain ⟨y0, h0, w0⟩ := fld hf 0 _ rfl 40 0 1 rfl rfl cellsNums
  obtain ⟨y1, h1, w1⟩ := fld hf 1 _ rfl 41 1 1 rfl rfl cellsStrs
  simp only [List.drop_succ_cons, List.drop_zero, List.take_succ_cons, List.take_zero] at h0 h1
  have hcap : ∀ A (l c : Nat), v0 = .slice A l c → l ≤ c ∧ c ≤ maxLen := by
    intro A l c e
    subst e
    rcases DataW.trod_slice Tryz.underlying40 h0 with ⟨e, _⟩ | ⟨a, len, cap, elems, rest, m, _, e, _, _, h1, h2, _⟩
    · injection e with e _
      injection e with _ e1 e2
      subst e1; subst e2
      exact ⟨Nat.le_refl _, Nat.zero_le _⟩
    · injection e with e _
      injection e with _ e1 e2
      subst e1; subst e2
      exact ⟨h1, h2⟩
  obtain ⟨nums, ⟨NA, nc, e0, m0, r0⟩, q0⟩ := opens_slice (k := kU64) (by decide) opens_u64 Tryz.underlying40 cellsU64 enc w sp _ _ _ h0 w0
  obtain ⟨bufs, ⟨BA, bc, e1, m1, r1⟩, q1⟩ := opens_slice (k := kStr) (by decide) (opens_str Tryz.underlying9) Tryz.underlying41 cellsStr enc w sp _ _ _ h1 w1
  simp only [List.cons.injEq, and_true] at e0 e1
  refine ⟨⟨nums, bufs⟩, NA, BA, nc, bc, by rw [e0, e1], r0, r1, hcap _ _ _ e0, m1, fun x hx => ?_, q1.2⟩
  have h3 := q0.2 x hx
  simp [Lit.wf, IntKind.min, IntKind.max, IntKind.signed, IntKind.bits] at h3
  omega
/-- What came in keeps to what a run asks. -/
theorem runOk_in {p : SIr} {i : SIn} (hs : p.par.length ≤ 1000) (hb : ∀ b ∈ p.blk, BlkIn b) (hn : i.nums.length ≤ maxLen) (hl : i.bufs.length ≤ maxLen) (hz : ∀ b ∈ i.bufs, b.size ≤ reachBytes) (hr : ∀ x ∈ i.nums, 0 ≤ x ∧ x < 18446744073709551616) : RunOk p i where
  par := hs
  ops := fun b h => by have := (hb b h).1; unfold reachBytes at this; omega
  opw := fun b h o ho => by
    obtain ⟨_, h1, _, _, _, h2⟩ := (hb b h).2 o ho
    simp [Lit.wf, IntKind.min, IntKind.max, IntKind.signed, IntKind.bits] at h1 h2
    omega
  nl := by unfold maxLen at hn; omega
  bl := by unfold maxLen at hl; omega
  bz := fun b h => by have := hz b h; unfold reachBytes at this; omega
  nr := hr
end Go.Proofs.YtoabiignjkcdmaaGreat

namespace Go.Proofs.YtoabiignjkcdmaaGreat
open Go.RowKit
set_option linter.unusedVariables false
set_option linter.unusedSimpArgs false

/-- What is known within a block. -/
structure Fx where
  nums : Int → Option Int
  same : Int → Option Int
def Fx.z : Fx := ⟨fun _ => none, fun _ => none⟩
def Fx.of (f : Fx) (v : Int) : Int := (f.same v).getD v
def Fx.set (f : Fx) (v : Int) : Fx := ⟨fun k => if k = v then none else f.nums k, fun k => if k = v then none else if f.same k = some v then none else f.same k⟩
def Fx.num (f : Fx) (d x : Int) : Fx := { f with nums := fun k => if k = d then some x else f.nums k }
def Fx.sam (f : Fx) (d x : Int) : Fx := { f with same := fun k => if k = d then some x else f.same k }
def worksB (k : Int) : Bool := decide (5 ≤ k) && decide (k ≤ 13)
def setsB (k : Int) : Bool := decide (k ≤ 4) || k == 9 || k == 12
/-- How many variables does a step ask? -/
def askN (k : Int) : Nat := if k = 2 ∨ k = 4 ∨ k = 8 ∨ k = 9 ∨ k = 11 ∨ k = 12 then 1 else if k = 3 ∨ k = 5 ∨ k = 6 ∨ k = 7 ∨ k = 10 then 2 else 0
def asksL (o : SOp) : List Int := if askN o.k = 1 then [o.a] else if askN o.k = 2 then [o.a, o.b] else []
def fold1 (f : Fx) (o : SOp) : SOp := ⟨o.k, o.fn, o.d, if 0 < askN o.k then f.of o.a else o.a, if 1 < askN o.k then f.of o.b else o.b, o.imm⟩
def constOp (d x : Int) : SOp := ⟨1, 0, d, 0, 0, x⟩
def fold2 (f : Fx) (o : SOp) : SOp :=
  if o.k = 2 then (match f.nums o.a with | some x => constOp o.d x | none => o)
  else if o.k = 3 then (match f.nums o.a, f.nums o.b with | some x, some y => constOp o.d (aluP o.fn x y) | _, _ => o)
  else o
def foldO (f : Fx) (o : SOp) : SOp := fold2 f (fold1 f o)
def foldF (f : Fx) (o : SOp) : Fx :=
  if setsB o.k = false then f
  else if o.k = 1 then (f.set o.d).num o.d o.imm
  else if o.k = 2 then (if o.a = o.d then f.set o.d else (f.set o.d).sam o.d o.a)
  else f.set o.d
def forwardL : Fx → List SOp → List SOp × Fx
  | f, [] => ([], f)
  | f, o :: l => (foldO f o :: (forwardL (foldF f (foldO f o)) l).1, (forwardL (foldF f (foldO f o)) l).2)
def forwardS (b : SBlock) : SBlock :=
  ⟨(forwardL .z b.ops).1, b.e, if b.e = 2 ∨ (b.e = 3 ∧ 0 ≤ b.a) then (forwardL .z b.ops).2.of b.a else b.a, b.go, b.els⟩

/-- What is known holds. -/
structure Fx.Valid (f : Fx) (n : Nat) (m : SM) : Prop where
  len : m.v.length = n
  nums : ∀ k x, f.nums k = some x → (0 ≤ k ∧ k < (n : Int)) ∧ m.get k = x
  same : ∀ k x, f.same k = some x → (0 ≤ k ∧ k < (n : Int)) ∧ (0 ≤ x ∧ x < (n : Int)) ∧ m.get k = m.get x
theorem Fx.Valid.z {n : Nat} {m : SM} (h : m.v.length = n) : Fx.z.Valid n m := ⟨h, (fun _ _ h => by cases h), (fun _ _ h => by cases h)⟩
theorem Fx.Valid.of {f : Fx} {n : Nat} {m : SM} (h : f.Valid n m) (v : Int) : m.get (f.of v) = m.get v := by
  unfold Fx.of
  cases e : f.same v with
  | none => rfl
  | some x => exact (h.same v x e).2.2.symm
theorem Fx.Valid.of_in {f : Fx} {n : Nat} {m : SM} (h : f.Valid n m) {v : Int} (hv : 0 ≤ v ∧ v < (n : Int)) : 0 ≤ f.of v ∧ f.of v < (n : Int) := by
  unfold Fx.of
  cases e : f.same v with
  | none => exact hv
  | some x => exact (h.same v x e).2.1
theorem opM_congr (m : SM) {o o' : SOp} (hk : o.k = o'.k) (hf : o.fn = o'.fn) (hd : o.d = o'.d) (hi : o.imm = o'.imm) (ha : m.get o.a = m.get o'.a) (hb : m.get o.b = m.get o'.b) : opM m o = opM m o' := by
  unfold opM loadS storeS allocS wipeS freeS
  rw [hk, hf, hd, hi, ha, hb]
theorem costS_congr (m : SM) {o o' : SOp} (hk : o.k = o'.k) (ha : m.get o.a = m.get o'.a) (hb : m.get o.b = m.get o'.b) : costS m o = costS m o' := by
  unfold costS
  rw [hk, ha, hb]
theorem fold1_get {f : Fx} {n : Nat} {m : SM} (h : f.Valid n m) (o : SOp) : m.get (fold1 f o).a = m.get o.a ∧ m.get (fold1 f o).b = m.get o.b := by
  unfold fold1
  constructor
  · simp only; split
    · exact h.of _
    · rfl
  · simp only; split
    · exact h.of _
    · rfl
theorem fold2_op {f : Fx} {n : Nat} {m : SM} (h : f.Valid n m) (o : SOp) : opM m (fold2 f o) = opM m o ∧ costS m (fold2 f o) = costS m o := by
  unfold fold2
  by_cases e2 : o.k = 2
  · rw [if_pos e2]
    cases e : f.nums o.a with
    | none => exact ⟨rfl, rfl⟩
    | some x =>
      refine ⟨?_, ?_⟩
      · rw [opM_1 m rfl, opM_2 m e2, (h.nums _ _ e).2]; rfl
      · unfold costS constOp; simp [e2]
  rw [if_neg e2]
  by_cases e3 : o.k = 3
  · rw [if_pos e3]
    cases e : f.nums o.a with
    | none => exact ⟨rfl, rfl⟩
    | some x =>
      cases e' : f.nums o.b with
      | none => exact ⟨rfl, rfl⟩
      | some y =>
        refine ⟨?_, ?_⟩
        · rw [opM_1 m rfl, opM_3 m e3, (h.nums _ _ e).2, (h.nums _ _ e').2]; rfl
        · unfold costS constOp; simp [e3]
  rw [if_neg e3]
  exact ⟨rfl, rfl⟩
theorem foldO_op {f : Fx} {n : Nat} {m : SM} (h : f.Valid n m) (o : SOp) : opM m (foldO f o) = opM m o ∧ costS m (foldO f o) = costS m o := by
  have h1 := fold1_get h o
  have h2 := fold2_op h (fold1 f o)
  have e1 : opM m (fold1 f o) = opM m o := opM_congr m rfl rfl rfl rfl h1.1 h1.2
  have e2 : costS m (fold1 f o) = costS m o := costS_congr m rfl h1.1 h1.2
  exact ⟨h2.1.trans e1, h2.2.trans e2⟩
/-- What a step does to the variables. -/
theorem opM_v {m m' : SM} {o : SOp} (h : opM m o = .go m') : (setsB o.k = false → m'.v = m.v) ∧ (setsB o.k = true → 1 ≤ o.k → ∃ y, m'.v = m.v.set o.d.toNat y ∧ (o.k = 1 → y = o.imm) ∧ (o.k = 2 → y = m.get o.a)) := by
  revert h
  refine opM_ind (P := fun r => r = .go m' → (setsB o.k = false → m'.v = m.v) ∧ (setsB o.k = true → 1 ≤ o.k → ∃ y, m'.v = m.v.set o.d.toNat y ∧ (o.k = 1 → y = o.imm) ∧ (o.k = 2 → y = m.get o.a))) m o ?_ ?_ ?_ ?_ ?_ ?_ ?_ ?_ ?_ ?_ ?_ ?_ ?_
  · intro hk h; cases h; exact ⟨(fun e => by rw [hk] at e; cases e), fun _ _ => ⟨_, rfl, fun _ => rfl, fun e => by omega⟩⟩
  · intro hk h; cases h; exact ⟨(fun e => by rw [hk] at e; cases e), fun _ _ => ⟨_, rfl, fun e => by omega, fun _ => rfl⟩⟩
  · intro hk h; cases h; exact ⟨(fun e => by rw [hk] at e; cases e), fun _ _ => ⟨_, rfl, fun e => by omega, fun e => by omega⟩⟩
  · intro hk h
    unfold loadS at h
    refine ⟨(fun e => by rw [hk] at e; cases e), fun _ _ => ?_⟩
    split at h
    · cases h; exact ⟨_, rfl, fun e => by omega, fun e => by omega⟩
    · split at h
      · cases h; exact ⟨_, rfl, fun e => by omega, fun e => by omega⟩
      · cases h
  · intro hk h
    unfold storeS at h
    refine ⟨fun _ => ?_, (fun e => by rw [hk] at e; cases e)⟩
    split at h
    · cases h; rfl
    · split at h
      · cases h; rfl
      · cases h
  · intro hk h
    refine ⟨fun _ => ?_, (fun e => by rw [hk] at e; cases e)⟩
    split at h
    · cases h
    · cases h; rfl
  · intro hk h
    refine ⟨fun _ => ?_, (fun e => by rw [hk] at e; cases e)⟩
    split at h
    · cases h
    · cases h; rfl
  · intro hk h
    refine ⟨fun _ => ?_, (fun e => by rw [hk] at e; cases e)⟩
    split at h
    · cases h
    · cases h; rfl
  · intro hk h
    unfold allocS at h
    refine ⟨(fun e => by rw [hk] at e; cases e), fun _ _ => ?_⟩
    split at h
    · cases h; exact ⟨_, rfl, fun e => by omega, fun e => by omega⟩
    · cases h
  · intro hk h
    unfold wipeS at h
    refine ⟨fun _ => ?_, (fun e => by rw [hk] at e; cases e)⟩
    split at h
    · cases h; rfl
    · cases h
  · intro hk h
    unfold freeS at h
    refine ⟨fun _ => ?_, (fun e => by rw [hk] at e; cases e)⟩
    split at h
    · cases h; rfl
    · cases h
  · intro hk h; cases h; exact ⟨(fun e => by rw [hk] at e; cases e), fun _ _ => ⟨_, rfl, fun e => by omega, fun e => by omega⟩⟩
  · intro hk h; cases h
    refine ⟨fun _ => rfl, fun e h1 => ?_⟩
    have : setsB o.k = false := by simp [setsB]; omega
    rw [this] at e; cases e
theorem get_v {m m' : SM} (h : m'.v = m.v) (i : Int) : m'.get i = m.get i := by unfold SM.get; rw [h]
theorem Fx.Valid.v {f : Fx} {n : Nat} {m m' : SM} (h : f.Valid n m) (e : m'.v = m.v) : f.Valid n m' where
  len := by rw [e]; exact h.len
  nums := fun k x hk => by rw [get_v e]; exact h.nums k x hk
  same := fun k x hk => by rw [get_v e, get_v e]; exact h.same k x hk
theorem get_set_ne {m m' : SM} {d y k : Int} (h : m'.v = m.v.set d.toNat y) (hd : 0 ≤ d) (hk : 0 ≤ k) (hn : k ≠ d) : m'.get k = m.get k := by
  unfold SM.get
  rw [h]
  have : d.toNat ≠ k.toNat := by omega
  simp [List.getD_eq_getElem?_getD, List.getElem?_set_ne this]
theorem get_set_eq {m m' : SM} {d y : Int} (h : m'.v = m.v.set d.toNat y) (hd : 0 ≤ d ∧ d < (m.v.length : Int)) : m'.get d = y := by
  unfold SM.get
  rw [h]
  have : d.toNat < m.v.length := by omega
  simp [List.getD_eq_getElem?_getD, this]
theorem Fx.Valid.set {f : Fx} {n : Nat} {m m' : SM} (h : f.Valid n m) {d y : Int} (hd : 0 ≤ d ∧ d < (n : Int)) (e : m'.v = m.v.set d.toNat y) : (f.set d).Valid n m' where
  len := by rw [e, List.length_set]; exact h.len
  nums := fun k x hk => by
    unfold Fx.set at hk
    simp only at hk
    split at hk
    · cases hk
    · rename_i hne
      have := h.nums k x hk
      exact ⟨this.1, by rw [get_set_ne e hd.1 this.1.1 hne]; exact this.2⟩
  same := fun k x hk => by
    unfold Fx.set at hk
    simp only at hk
    split at hk
    · cases hk
    · rename_i hne
      split at hk
      · cases hk
      · rename_i hx
        have := h.same k x hk
        have hxd : x ≠ d := fun e => hx (by rw [hk, e])
        exact ⟨this.1, this.2.1, by rw [get_set_ne e hd.1 this.1.1 hne, get_set_ne e hd.1 this.2.1.1 hxd]; exact this.2.2⟩
/-- May a step's variables be? -/
structure OpIn (n : Nat) (o : SOp) : Prop where
  k : 1 ≤ o.k
  k2 : o.k ≤ 13
  d : setsB o.k = true → 0 ≤ o.d ∧ o.d < (n : Int)
  a : 0 < askN o.k → 0 ≤ o.a ∧ o.a < (n : Int)
  b : 1 < askN o.k → 0 ≤ o.b ∧ o.b < (n : Int)
theorem foldF_valid {f : Fx} {n : Nat} {m m' : SM} {o : SOp} (h : f.Valid n m) (hi : OpIn n o) (e : opM m o = .go m') : (foldF f o).Valid n m' := by
  obtain ⟨h0, h1⟩ := opM_v e
  unfold foldF
  cases hs : setsB o.k with
  | false => rw [if_pos rfl]; exact h.v (h0 hs)
  | true =>
    rw [if_neg (by decide)]
    obtain ⟨y, hv, hy1, hy2⟩ := h1 hs hi.k
    have hd := hi.d hs
    have hs1 := h.set hd hv
    have hg : m'.get o.d = y := get_set_eq hv (by rw [h.len]; exact hd)
    by_cases e1 : o.k = 1
    · rw [if_pos e1]
      refine ⟨hs1.len, fun k x hk => ?_, hs1.same⟩
      unfold Fx.num at hk
      simp only at hk
      split at hk
      · rename_i hkd
        cases hk
        subst hkd
        exact ⟨hd, hg.trans (hy1 e1)⟩
      · exact hs1.nums k x hk
    rw [if_neg e1]
    by_cases e2 : o.k = 2
    · rw [if_pos e2]
      by_cases ed : o.a = o.d
      · rw [if_pos ed]; exact hs1
      rw [if_neg ed]
      have ha := hi.a (by rw [e2]; decide)
      refine ⟨hs1.len, hs1.nums, fun k x hk => ?_⟩
      unfold Fx.sam at hk
      simp only at hk
      split at hk
      · rename_i hkd
        cases hk
        subst hkd
        exact ⟨hd, ha, by rw [hg, get_set_ne hv hd.1 ha.1 ed]; exact hy2 e2⟩
      · exact hs1.same k x hk
    · rw [if_neg e2]; exact hs1
theorem fold1_in {f : Fx} {n : Nat} {m : SM} (h : f.Valid n m) {o : SOp} (hi : OpIn n o) : OpIn n (fold1 f o) where
  k := hi.k
  k2 := hi.k2
  d := hi.d
  a := fun ha => by
    show 0 ≤ (if 0 < askN o.k then f.of o.a else o.a) ∧ _
    have ha : 0 < askN o.k := ha
    unfold fold1
    simp only [ha, if_true]
    exact h.of_in (hi.a ha)
  b := fun hb => by
    have hb : 1 < askN o.k := hb
    unfold fold1
    simp only [hb, if_true]
    exact h.of_in (hi.b hb)
theorem constOp_in {n : Nat} {d x : Int} (hd : 0 ≤ d ∧ d < (n : Int)) : OpIn n (constOp d x) :=
  ⟨Int.le_refl 1, show (1 : Int) ≤ 13 by decide, fun _ => hd, fun h => absurd h (show ¬ 0 < askN 1 by decide), fun h => absurd h (show ¬ 1 < askN 1 by decide)⟩
theorem foldO_in {f : Fx} {n : Nat} {m : SM} (h : f.Valid n m) {o : SOp} (hi : OpIn n o) : OpIn n (foldO f o) := by
  have h1 := fold1_in h hi
  unfold foldO fold2
  split
  · rename_i e2
    have hd := h1.d (by rw [e2]; decide)
    split
    · exact constOp_in hd
    · exact h1
  · split
    · rename_i e3
      have hd := h1.d (by rw [e3]; decide)
      split
      · exact constOp_in hd
      · exact h1
    · exact h1
theorem payS_v {m m' : SM} {c : Int} (h : payS m c = .go m') : m'.v = m.v := by
  unfold payS at h
  split at h
  · cases h
  · cases h; rfl
/-- A step, folded, does what it did. -/
theorem foldO_step {f : Fx} {n : Nat} {m : SM} (h : f.Valid n m) (o : SOp) : stepS m (foldO f o) = stepS m o := by
  unfold stepS
  rw [(foldO_op h o).2]
  cases hp : payS m (costS m o) with
  | over e m1 => rfl
  | go m1 => exact (foldO_op (h.v (payS_v hp)) o).1
theorem step_valid {f : Fx} {n : Nat} {m m' : SM} {o : SOp} (h : f.Valid n m) (hi : OpIn n o) (e : stepS m o = .go m') : (foldF f o).Valid n m' := by
  unfold stepS at e
  cases hp : payS m (costS m o) with
  | over e1 m1 => rw [hp] at e; cases e
  | go m1 => rw [hp] at e; exact foldF_valid (h.v (payS_v hp)) hi e
/-- A block's steps, folded, do what they did; what is known behind them holds. -/
theorem forwardL_ops {n : Nat} : ∀ (l : List SOp) (f : Fx) (m : SM), f.Valid n m → (∀ o ∈ l, OpIn n o) → opsS (forwardL f l).1 m = opsS l m ∧ ∀ m', opsS l m = .go m' → (forwardL f l).2.Valid n m'
  | [], f, m, h, _ => ⟨rfl, fun m' e => by cases e; exact h⟩
  | o :: l, f, m, h, hi => by
    have hs := foldO_step h o
    have hin := foldO_in h (hi o (List.mem_cons_self ..))
    unfold forwardL opsS
    simp only
    rw [hs]
    cases e : stepS m o with
    | over e1 m1 => exact ⟨rfl, (fun m' e => by cases e)⟩
    | go m1 => exact forwardL_ops l _ m1 (step_valid h hin (hs.trans e)) (fun o' ho' => hi o' (List.mem_cons_of_mem _ ho'))
end Go.Proofs.YtoabiignjkcdmaaGreat

namespace Go.Proofs.YtoabiignjkcdmaaGreat
open Go.RowKit
set_option linter.unusedVariables false
set_option linter.unusedSimpArgs false

/-- The same but for the variables and the steps. -/
def SM.alt (m : SM) (v : List Int) (s : Int) : SM := { m with v := v, steps := s }
/-- What comes of a step at m and at its other: alike. -/
inductive Alike (m : SM) (v : List Int) (s : Int) (o : SOp) : Res → Res → Prop
  | keep (m1 : SM) : m1.v = m.v → m1.en = m.en → m1.steps = m.steps → m1.fuel = m.fuel → setsB o.k = false → Alike m v s o (.go m1) (.go (m1.alt v s))
  | sets (m1 : SM) (y : Int) : m1.v = m.v.set o.d.toNat y → m1.en = m.en → m1.steps = m.steps → m1.fuel = m.fuel → setsB o.k = true → Alike m v s o (.go m1) (.go (m1.alt (v.set o.d.toNat y) s))
  | over (e : Int) (m1 : SM) : m1.steps = m.steps → Alike m v s o (.over e m1) (.over e (m1.alt v s))
theorem setsB_4 {o : SOp} (h : o.k = 1 ∨ o.k = 2 ∨ o.k = 3 ∨ o.k = 4 ∨ o.k = 9 ∨ o.k = 12) : setsB o.k = true := by
  rcases h with h | h | h | h | h | h <;> rw [h] <;> rfl
theorem setsB_5 {o : SOp} (h : o.k = 5 ∨ o.k = 6 ∨ o.k = 7 ∨ o.k = 8 ∨ o.k = 10 ∨ o.k = 11) : setsB o.k = false := by
  rcases h with h | h | h | h | h | h <;> rw [h] <;> rfl
theorem alt_opM (m : SM) (v : List Int) (s : Int) (o : SOp) (hk : 1 ≤ o.k) (ha : 0 < askN o.k → (m.alt v s).get o.a = m.get o.a) (hb : 1 < askN o.k → (m.alt v s).get o.b = m.get o.b) : Alike m v s o (opM m o) (opM (m.alt v s) o) := by
  by_cases e1 : o.k = 1
  · rw [opM_1 _ e1, opM_1 _ e1]
    exact Alike.sets _ o.imm rfl rfl rfl rfl (setsB_4 (.inl e1))
  by_cases e2 : o.k = 2
  · rw [opM_2 _ e2, opM_2 _ e2, ha (by rw [e2]; decide)]
    exact Alike.sets _ _ rfl rfl rfl rfl (setsB_4 (.inr (.inl e2)))
  by_cases e3 : o.k = 3
  · rw [opM_3 _ e3, opM_3 _ e3, ha (by rw [e3]; decide), hb (by rw [e3]; decide)]
    exact Alike.sets _ _ rfl rfl rfl rfl (setsB_4 (by omega))
  by_cases e4 : o.k = 4
  · rw [opM_4 _ e4, opM_4 _ e4]
    unfold loadS
    rw [ha (by rw [e4]; decide)]
    have h1 : (m.alt v s).handed = m.handed := rfl
    have h2 : (m.alt v s).arena = m.arena := rfl
    rw [h1, h2]
    cases m.handed.findIdx? (hits (m.get o.a) o.fn false) with
    | some x => exact Alike.sets _ _ rfl rfl rfl rfl (setsB_4 (by omega))
    | none => cases m.arena.findIdx? (hits (m.get o.a) o.fn false) with
      | some x => exact Alike.sets _ _ rfl rfl rfl rfl (setsB_4 (by omega))
      | none => exact Alike.over _ _ rfl
  by_cases e5 : o.k = 5
  · rw [opM_5 _ e5, opM_5 _ e5]
    unfold storeS
    rw [ha (by rw [e5]; decide), hb (by rw [e5]; decide)]
    have h1 : (m.alt v s).handed = m.handed := rfl
    have h2 : (m.alt v s).arena = m.arena := rfl
    rw [h1, h2]
    cases m.handed.findIdx? (hits (m.get o.a) o.fn true) with
    | some x => exact Alike.keep _ rfl rfl rfl rfl (setsB_5 (by omega))
    | none => cases m.arena.findIdx? (hits (m.get o.a) o.fn true) with
      | some x => exact Alike.keep _ rfl rfl rfl rfl (setsB_5 (by omega))
      | none => exact Alike.over _ _ rfl
  by_cases e6 : o.k = 6
  · rw [opM_6 _ e6, opM_6 _ e6, ha (by rw [e6]; decide), hb (by rw [e6]; decide)]
    by_cases h : m.get o.b ≤ m.get o.a
    · rw [if_pos h, if_pos h]; exact Alike.over _ _ rfl
    · rw [if_neg h, if_neg h]; exact Alike.keep _ rfl rfl rfl rfl (setsB_5 (by omega))
  by_cases e7 : o.k = 7
  · rw [opM_7 _ e7, opM_7 _ e7, ha (by rw [e7]; decide), hb (by rw [e7]; decide)]
    by_cases h : m.get o.b < m.get o.a
    · rw [if_pos h, if_pos h]; exact Alike.over _ _ rfl
    · rw [if_neg h, if_neg h]; exact Alike.keep _ rfl rfl rfl rfl (setsB_5 (by omega))
  by_cases e8 : o.k = 8
  · rw [opM_8 _ e8, opM_8 _ e8, ha (by rw [e8]; decide)]
    by_cases h : m.get o.a = 0
    · rw [if_pos h, if_pos h]; exact Alike.over _ _ rfl
    · rw [if_neg h, if_neg h]; exact Alike.keep _ rfl rfl rfl rfl (setsB_5 (by omega))
  by_cases e9 : o.k = 9
  · rw [opM_9 _ e9, opM_9 _ e9]
    unfold allocS
    rw [ha (by rw [e9]; decide)]
    have h1 : roomB (m.alt v s) (m.get o.a) = roomB m (m.get o.a) := rfl
    rw [h1]
    cases roomB m (m.get o.a) with
    | true => exact Alike.sets _ _ rfl rfl rfl rfl (setsB_4 (by omega))
    | false => exact Alike.over _ _ rfl
  by_cases e10 : o.k = 10
  · rw [opM_10 _ e10, opM_10 _ e10]
    unfold wipeS
    rw [ha (by rw [e10]; decide), hb (by rw [e10]; decide)]
    have h2 : (m.alt v s).arena = m.arena := rfl
    rw [h2]
    cases m.arena.findIdx? (fun x => starts (m.get o.a) x && ((x.b.length : Int) == m.get o.b)) with
    | some x => exact Alike.keep _ rfl rfl rfl rfl (setsB_5 (by omega))
    | none => exact Alike.over _ _ rfl
  by_cases e11 : o.k = 11
  · rw [opM_11 _ e11, opM_11 _ e11]
    unfold freeS
    rw [ha (by rw [e11]; decide)]
    have h2 : (m.alt v s).arena = m.arena := rfl
    rw [h2]
    cases m.arena.findIdx? (starts (m.get o.a)) with
    | some x => exact Alike.keep _ rfl rfl rfl rfl (setsB_5 (by omega))
    | none => exact Alike.over _ _ rfl
  by_cases e12 : o.k = 12
  · rw [opM_12 _ e12, opM_12 _ e12, ha (by rw [e12]; decide)]
    exact Alike.sets _ _ rfl rfl rfl rfl (setsB_4 (by omega))
  · rw [opM_13 _ (by omega), opM_13 _ (by omega)]
    exact Alike.keep _ rfl rfl rfl rfl (by simp [setsB]; omega)

abbrev Want := Int → Bool
def Want.del (w : Want) (d : Int) : Want := fun k => if k = d then false else w k
def Want.add (w : Want) (d : Int) : Want := fun k => if k = d then true else w k
def Want.addL (w : Want) (l : List Int) : Want := l.foldl Want.add w
/-- Does a step stay? -/
def stays (w : Want) (o : SOp) : Bool := worksB o.k || (w o.d && !(o.k == 2 && o.a == o.d))
/-- What is asked ahead of a step that stays. -/
def backW (w : Want) (o : SOp) : Want := (if setsB o.k = true then w.del o.d else w).addL (asksL o)
def backL : List SOp → Want → List SOp × Want
  | [], w => ([], w)
  | o :: l, w => if stays (backL l w).2 o = true then (o :: (backL l w).1, backW (backL l w).2 o) else backL l w
theorem addL_iff (l : List Int) : ∀ (w : Want) (k : Int), w.addL l k = true ↔ w k = true ∨ k ∈ l := by
  induction l with
  | nil => intro w k; simp [Want.addL]
  | cons x l ih =>
    intro w k
    have e : w.addL (x :: l) = (w.add x).addL l := rfl
    rw [e, ih]
    unfold Want.add
    by_cases h : k = x
    · simp [h]
    · simp [h]
theorem backW_iff (w : Want) (o : SOp) (k : Int) : backW w o k = true ↔ (w k = true ∧ (setsB o.k = true → k ≠ o.d)) ∨ k ∈ asksL o := by
  unfold backW
  rw [addL_iff]
  cases setsB o.k with
  | true =>
    simp only [if_true, Want.del]
    by_cases h : k = o.d
    · simp [h]
    · simp [h]
  | false => simp

/-- The other state: the same where it is asked, in no more steps. -/
structure Ag (w : Want) (n : Nat) (m : SM) (v : List Int) (s : Int) : Prop where
  l : m.v.length = n
  l' : v.length = n
  g : ∀ k, 0 ≤ k ∧ k < (n : Int) → w k = true → v.getD k.toNat 0 = m.get k
  s : s ≤ m.steps
  en : m.en = 0
theorem Ag.mono {w w' : Want} {n : Nat} {m : SM} {v : List Int} {s : Int} (h : Ag w n m v s) (hw : ∀ k, w' k = true → w k = true) : Ag w' n m v s :=
  ⟨h.l, h.l', fun k hk hk' => h.g k hk (hw k hk'), h.s, h.en⟩
theorem asks_a {o : SOp} (h : 0 < askN o.k) : o.a ∈ asksL o := by
  have h2 : askN o.k = 1 ∨ askN o.k = 2 := by unfold askN at h ⊢; split <;> (try split) <;> simp_all
  unfold asksL
  rcases h2 with h2 | h2 <;> simp [h2]
theorem asks_b {o : SOp} (h : 1 < askN o.k) : o.b ∈ asksL o := by
  have h2 : askN o.k = 2 := by unfold askN at h ⊢; split <;> (try split) <;> simp_all
  unfold asksL
  simp [h2]
/-- How a stretch of a run ends, alike but for steps. -/
def EndsAlike (r r' : Res) (Q : SM → SM → Prop) : Prop :=
  match r with
  | .go m1 => ∃ m1', r' = .go m1' ∧ Q m1 m1'
  | .over e m1 => e = 0 → m1.en ≠ 0 → ∃ v s, r' = .over 0 (m1.alt v s) ∧ s ≤ m1.steps
theorem payS_alt {w : Want} {n : Nat} {m : SM} {v : List Int} {s : Int} (h : Ag w n m v s) (c : Int) :
    EndsAlike (payS m c) (payS (m.alt v s) c) fun m1 m1' => ∃ s', m1' = m1.alt v s' ∧ Ag w n m1 v s' := by
  unfold payS
  have e1 : (m.alt v s).fuel = m.fuel := rfl
  have e2 : (m.alt v s).steps = s := rfl
  rw [e1, e2]
  have := h.s
  by_cases hc : m.fuel - m.steps < c
  · rw [if_pos hc]
    intro _ hen
    exact absurd h.en hen
  · rw [if_neg hc, if_neg (by omega)]
    exact ⟨_, rfl, s + c, rfl, ⟨h.l, h.l', h.g, by show s + c ≤ m.steps + c; omega, h.en⟩⟩
theorem cost_alt (m : SM) (v : List Int) (s : Int) (o : SOp) (ha : 0 < askN o.k → (m.alt v s).get o.a = m.get o.a) (hb : 1 < askN o.k → (m.alt v s).get o.b = m.get o.b) : costS (m.alt v s) o = costS m o := by
  unfold costS
  by_cases e9 : o.k = 9
  · rw [if_pos e9, if_pos e9, ha (by rw [e9]; decide)]; rfl
  rw [if_neg e9, if_neg e9]
  by_cases e10 : o.k = 10
  · rw [if_pos e10, if_pos e10, hb (by rw [e10]; decide)]
  · rw [if_neg e10, if_neg e10]
theorem step_keep {w : Want} {n : Nat} {m : SM} {v : List Int} {s : Int} {o : SOp} (hi : OpIn n o) (h : Ag (backW w o) n m v s) :
    EndsAlike (stepS m o) (stepS (m.alt v s) o) fun m1 m1' => ∃ v' s', m1' = m1.alt v' s' ∧ Ag w n m1 v' s' := by
  have ha : 0 < askN o.k → v.getD o.a.toNat 0 = m.get o.a := fun e => h.g _ (hi.a e) ((backW_iff _ _ _).2 (.inr (asks_a e)))
  have hb : 1 < askN o.k → v.getD o.b.toNat 0 = m.get o.b := fun e => h.g _ (hi.b e) ((backW_iff _ _ _).2 (.inr (asks_b e)))
  unfold stepS
  rw [cost_alt m v s o ha hb]
  have hp := payS_alt h (costS m o)
  cases hpe : payS m (costS m o) with
  | over e m1 =>
    rw [hpe] at hp
    intro h0 h1
    obtain ⟨v', s', e1, e2⟩ := hp h0 h1
    rw [e1]
    exact ⟨v', s', rfl, e2⟩
  | go m1 =>
    rw [hpe] at hp
    obtain ⟨m1', e1, s', rfl, hA⟩ := hp
    rw [e1]
    have hv := payS_v hpe
    show EndsAlike (opM m1 o) (opM (m1.alt v s') o) _
    have hal := alt_opM m1 v s' o hi.k (fun e => (ha e).trans (get_v hv _).symm) (fun e => (hb e).trans (get_v hv _).symm)
    generalize opM m1 o = r at hal
    generalize opM (m1.alt v s') o = r' at hal
    cases hal with
    | keep m2 q1 q2 q3 q4 q5 =>
      refine ⟨_, rfl, v, s', rfl, ⟨by rw [q1]; exact hA.l, hA.l', fun k hk hw => ?_, by rw [q3]; exact hA.s, by rw [q2]; exact hA.en⟩⟩
      rw [get_v q1]
      exact hA.g k hk ((backW_iff _ _ _).2 (.inl ⟨hw, fun e => by rw [q5] at e; cases e⟩))
    | sets m2 y q1 q2 q3 q4 q5 =>
      have hd := hi.d q5
      refine ⟨_, rfl, v.set o.d.toNat y, s', rfl, ⟨by rw [q1, List.length_set]; exact hA.l, by rw [List.length_set]; exact hA.l', fun k hk hw => ?_, by rw [q3]; exact hA.s, by rw [q2]; exact hA.en⟩⟩
      by_cases e : k = o.d
      · subst e
        rw [get_set_eq q1 (by rw [hA.l]; exact hk)]
        have : o.d.toNat < v.length := by rw [hA.l']; omega
        simp [List.getD_eq_getElem?_getD, this]
      · rw [get_set_ne q1 hd.1 hk.1 e, ← hA.g k hk ((backW_iff _ _ _).2 (.inl ⟨hw, fun _ => e⟩))]
        have : o.d.toNat ≠ k.toNat := by omega
        simp [List.getD_eq_getElem?_getD, List.getElem?_set_ne this]
    | over e m2 q =>
      intro h0 h1
      exact ⟨v, s', by rw [h0], by rw [q]; exact hA.s⟩
/-- A step that is left out. -/
theorem step_drop {w : Want} {n : Nat} {m : SM} {v : List Int} {s : Int} {o : SOp} (hi : OpIn n o) (hd : stays w o = false) (h : Ag w n m v s) :
    EndsAlike (stepS m o) (.go (m.alt v s)) fun m1 m1' => ∃ v' s', m1' = m1.alt v' s' ∧ Ag w n m1 v' s' := by
  unfold stays at hd
  rw [Bool.or_eq_false_iff] at hd
  obtain ⟨hw, hd⟩ := hd
  have hk := hi.k
  have hk2 := hi.k2
  have hk4 : o.k ≤ 4 := by
    unfold worksB at hw
    rw [Bool.and_eq_false_iff, decide_eq_false_iff_not, decide_eq_false_iff_not] at hw
    omega
  have hsets : setsB o.k = true := setsB_4 (by omega)
  have hdi := hi.d hsets
  unfold stepS payS
  by_cases hc : m.fuel - m.steps < costS m o
  · rw [if_pos hc]
    intro _ hen
    exact absurd h.en hen
  rw [if_neg hc]
  have hcost := costS_pos m o
  generalize costS m o = c at *
  show EndsAlike (opM { m with steps := m.steps + c } o) _ _
  have key : ∀ y, (o.k = 2 → y = m.get o.a) → EndsAlike (.go { m with v := m.v.set o.d.toNat y, steps := m.steps + c }) (.go (m.alt v s)) fun m1 m1' => ∃ v' s', m1' = m1.alt v' s' ∧ Ag w n m1 v' s' := by
    intro y hy
    refine ⟨_, rfl, v, s, rfl, ⟨by show (m.v.set o.d.toNat y).length = n; rw [List.length_set]; exact h.l, h.l', fun k hkn hwk => ?_, by have := h.s; show s ≤ m.steps + c; omega, h.en⟩⟩
    rw [h.g k hkn hwk]
    by_cases e : k = o.d
    · have hg : (SM.get { m with v := m.v.set o.d.toNat y, steps := m.steps + c } o.d) = y := get_set_eq (m := m) rfl (by rw [h.l]; exact hdi)
      rw [e, hg]
      rw [← e, hwk, Bool.true_and, Bool.not_eq_false', Bool.and_eq_true, beq_iff_eq, beq_iff_eq] at hd
      rw [hy hd.1, hd.2, e]
    · exact (get_set_ne (m := m) rfl hdi.1 hkn.1 e).symm
  by_cases e1 : o.k = 1
  · rw [opM_1 _ e1]; exact key _ (fun e => by omega)
  by_cases e2 : o.k = 2
  · rw [opM_2 _ e2]; exact key _ (fun _ => rfl)
  by_cases e3 : o.k = 3
  · rw [opM_3 _ e3]; exact key _ (fun e => by omega)
  have e4 : o.k = 4 := by omega
  rw [opM_4 _ e4]
  unfold loadS
  split
  · exact key _ (fun e => by omega)
  · split
    · exact key _ (fun e => by omega)
    · intro h0; cases h0
theorem ops_sim {n : Nat} : ∀ (l : List SOp) (w : Want) (m : SM) (v : List Int) (s : Int), (∀ o ∈ l, OpIn n o) → Ag (backL l w).2 n m v s →
    EndsAlike (opsS l m) (opsS (backL l w).1 (m.alt v s)) fun m1 m1' => ∃ v' s', m1' = m1.alt v' s' ∧ Ag w n m1 v' s'
  | [], w, m, v, s, _, h => ⟨_, rfl, v, s, rfl, h⟩
  | o :: l, w, m, v, s, hi, h => by
    have hio := hi o (List.mem_cons_self ..)
    have hil : ∀ o' ∈ l, OpIn n o' := fun o' ho' => hi o' (List.mem_cons_of_mem _ ho')
    unfold backL at h ⊢
    cases hst : stays (backL l w).2 o with
    | true =>
      rw [hst, if_pos rfl] at h
      rw [if_pos rfl]
      have hs := step_keep hio h
      show EndsAlike ((stepS m o).bind (opsS l)) ((stepS (m.alt v s) o).bind (opsS (backL l w).1)) _
      cases hr : stepS m o with
      | over e m1 =>
        rw [hr] at hs
        intro h0 h1
        obtain ⟨v', s', e1, e2⟩ := hs h0 h1
        rw [e1]
        exact ⟨v', s', rfl, e2⟩
      | go m1 =>
        rw [hr] at hs
        obtain ⟨m1', e1, v', s', rfl, hA⟩ := hs
        rw [e1]
        exact ops_sim l w m1 v' s' hil hA
    | false =>
      rw [hst, if_neg (by decide)] at h
      rw [if_neg (by decide)]
      have hs := step_drop hio hst h
      show EndsAlike ((stepS m o).bind (opsS l)) (opsS (backL l w).1 (m.alt v s)) _
      cases hr : stepS m o with
      | over e m1 =>
        rw [hr] at hs
        intro h0 h1
        obtain ⟨v', s', e1, e2⟩ := hs h0 h1
        cases e1
      | go m1 =>
        rw [hr] at hs
        obtain ⟨m1', e1, v', s', e2, hA⟩ := hs
        injection e1 with e1
        rw [e1, e2]
        exact ops_sim l w m1 v' s' hil hA
end Go.Proofs.YtoabiignjkcdmaaGreat
