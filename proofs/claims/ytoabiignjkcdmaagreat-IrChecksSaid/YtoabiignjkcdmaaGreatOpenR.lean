/-
  What comes in for a run, opened: programs of steps, inputs.
-/
import Derived.Test.YtoabiignjkcdmaaGreatOpen
import Derived.Test.YtoabiignjkcdmaaGreatRunJ
namespace Go.Proofs.YtoabiignjkcdmaaGreat
open Go.RowKit Go.ChangeShapes Go.WideShapes Go.ChangeAt
set_option linter.unusedVariables false
set_option linter.unusedSimpArgs false

theorem cellsHanded : Tryz.prog.cellsOf 61 = 5 := by kernel_rfl
theorem cellsBlock : Tryz.prog.cellsOf 38 = 5 := by kernel_rfl
theorem cellsIr : Tryz.prog.cellsOf 26 = 3 := by kernel_rfl
theorem cellsInput : Tryz.prog.cellsOf 43 = 2 := by kernel_rfl
theorem cellsStr : Tryz.prog.cellsOf 9 = 1 := by kernel_rfl
theorem cellsOps : Tryz.prog.cellsOf 36 = 1 := by kernel_rfl
theorem cellsBools : Tryz.prog.cellsOf 22 = 1 := by kernel_rfl
theorem cellsHandeds : Tryz.prog.cellsOf 23 = 1 := by kernel_rfl
theorem cellsBlocks : Tryz.prog.cellsOf 24 = 1 := by kernel_rfl
theorem cellsNums : Tryz.prog.cellsOf 40 = 1 := by kernel_rfl
theorem cellsStrs : Tryz.prog.cellsOf 41 = 1 := by kernel_rfl
theorem bytesOp : Tryz.prog.bytesOf 54 = 40 := by kernel_rfl
theorem list2 {α : Type} {l : List α} (h : l.length = 2) : ∃ a b, l = [a, b] := by
  match l, h with
  | [a, b], _ => exact ⟨a, b, rfl⟩
theorem opens_handed : Opens Tryz.prog 61 kHanded (fun _ => True) := by
  intro H enc w sp fuel cs x h hw
  obtain ⟨hl, n, hf⟩ := open_struct Tryz.underlying61 h hw
  obtain ⟨c0, c1, c2, c3, c4, rfl⟩ := list5 (hl.trans cellsHanded)
  obtain ⟨y0, h0, -⟩ := fld hf 0 _ rfl 4 0 1 rfl rfl cellsBool
  obtain ⟨y1, h1, -⟩ := fld hf 1 _ rfl 4 1 1 rfl rfl cellsBool
  obtain ⟨y2, h2, -⟩ := fld hf 2 _ rfl 4 2 1 rfl rfl cellsBool
  obtain ⟨y3, h3, -⟩ := fld hf 3 _ rfl 3 3 1 rfl rfl cellsInt
  obtain ⟨y4, h4, -⟩ := fld hf 4 _ rfl 3 4 1 rfl rfl cellsInt
  simp only [List.drop_succ_cons, List.drop_zero, List.take_succ_cons, List.take_zero] at h0 h1 h2 h3 h4
  obtain ⟨a, e0, -⟩ := DataW.trod_bool Tryz.underlying4 h0
  obtain ⟨b, e1, -⟩ := DataW.trod_bool Tryz.underlying4 h1
  obtain ⟨c, e2, -⟩ := DataW.trod_bool Tryz.underlying4 h2
  obtain ⟨d, e3, -, -⟩ := DataW.trod_int Tryz.underlying3 h3
  obtain ⟨l, e4, -, -⟩ := DataW.trod_int Tryz.underlying3 h4
  simp only [List.cons.injEq, and_true] at e0 e1 e2 e3 e4
  subst e0; subst e1; subst e2; subst e3; subst e4
  exact ⟨⟨a, b, c, d, l⟩, rfl, trivial⟩
def BlkIn (b : SBlock) : Prop := b.ops.length * 40 ≤ reachBytes ∧ ∀ o ∈ b.ops, o.wf
theorem opens_block : Opens Tryz.prog 38 kBlock BlkIn := by
  intro H enc w sp fuel cs x h hw
  obtain ⟨hl, n, hf⟩ := open_struct Tryz.underlying38 h hw
  obtain ⟨c0, c1, c2, c3, c4, rfl⟩ := list5 (hl.trans cellsBlock)
  obtain ⟨y0, h0, w0⟩ := fld hf 0 _ rfl 36 0 1 rfl rfl cellsOps
  obtain ⟨y1, h1, -⟩ := fld hf 1 _ rfl 5 1 1 rfl rfl cellsU8
  obtain ⟨y2, h2, -⟩ := fld hf 2 _ rfl 3 2 1 rfl rfl cellsInt
  obtain ⟨y3, h3, -⟩ := fld hf 3 _ rfl 3 3 1 rfl rfl cellsInt
  obtain ⟨y4, h4, -⟩ := fld hf 4 _ rfl 3 4 1 rfl rfl cellsInt
  simp only [List.drop_succ_cons, List.drop_zero, List.take_succ_cons, List.take_zero] at h0 h1 h2 h3 h4
  obtain ⟨ops, ⟨A, cap, e0, hm, hr⟩, hq⟩ := opens_slice (k := kOp) (by decide) opens_op Tryz.underlying36 cellsOp enc w sp _ _ _ h0 w0
  obtain ⟨e, e1, -, -⟩ := DataW.trod_int Tryz.underlying5 h1
  obtain ⟨a, e2, -, -⟩ := DataW.trod_int Tryz.underlying3 h2
  obtain ⟨g, e3, -, -⟩ := DataW.trod_int Tryz.underlying3 h3
  obtain ⟨l, e4, -, -⟩ := DataW.trod_int Tryz.underlying3 h4
  simp only [List.cons.injEq, and_true] at e0 e1 e2 e3 e4
  subst e0; subst e1; subst e2; subst e3; subst e4
  rw [bytesOp] at hq
  exact ⟨⟨ops, e, a, g, l⟩, ⟨A, cap, rfl, hm, hr⟩, hq⟩
/-- A program that came in. -/
theorem open_ir {H : Type} {enc : TypeId × Value → H} {w : World} {sp : Nat → Bool} {fuel : Nat} {cs : List Value} {x : DataW H × List MemPlace} (h : DataW.trod enc Tryz.prog w 0 sp true fuel 26 cs = some x) (hw : ∀ n ∈ x.1.weights Tryz.prog 26, n ≤ reachBytes) :
    ∃ (p : SIr) (S P B : Option Addr) (c1 c2 c3 : Nat), cs = [.slice S p.sec.length c1, .slice P p.par.length c2, .slice B p.blk.length c3] ∧ kBool.Row w S p.sec ∧ kHanded.Row w P p.par ∧ kBlock.Row w B p.blk ∧ (p.sec.length ≤ maxLen ∧ p.par.length ≤ maxLen ∧ p.blk.length ≤ maxLen) ∧ ∀ b ∈ p.blk, BlkIn b := by
  obtain ⟨hl, n, hf⟩ := open_struct Tryz.underlying26 h hw
  obtain ⟨v0, v1, v2, rfl⟩ := list3 (hl.trans cellsIr)
  obtain ⟨y0, h0, w0⟩ := fld hf 0 _ rfl 22 0 1 rfl rfl cellsBools
  obtain ⟨y1, h1, w1⟩ := fld hf 1 _ rfl 23 1 1 rfl rfl cellsHandeds
  obtain ⟨y2, h2, w2⟩ := fld hf 2 _ rfl 24 2 1 rfl rfl cellsBlocks
  simp only [List.drop_succ_cons, List.drop_zero, List.take_succ_cons, List.take_zero] at h0 h1 h2
  obtain ⟨sec, ⟨S, c1, e0, m0, r0⟩, -⟩ := opens_slice (k := kBool) (by decide) (opens_bool Tryz.underlying4) Tryz.underlying22 cellsBool enc w sp _ _ _ h0 w0
  obtain ⟨par, ⟨P, c2, e1, m1, r1⟩, -⟩ := opens_slice (k := kHanded) (by decide) opens_handed Tryz.underlying23 cellsHanded enc w sp _ _ _ h1 w1
  obtain ⟨blk, ⟨B, c3, e2, m2, r2⟩, q2⟩ := opens_slice (k := kBlock) (by decide) opens_block Tryz.underlying24 cellsBlock enc w sp _ _ _ h2 w2
  simp only [List.cons.injEq, and_true] at e0 e1 e2
  subst e0; subst e1; subst e2
  exact ⟨⟨sec, par, blk⟩, S, P, B, c1, c2, c3, rfl, r0, r1, r2, ⟨m0, m1, m2⟩, q2.2⟩
theorem opens_u64 : Opens Tryz.prog 46 kU64 (fun x => (Lit.int .u64 x).wf = true) := opens_int _ (fun _ => rfl) (fun _ => rfl) Tryz.underlying46
/-- An input that came in. -/
theorem open_in {H : Type} {enc : TypeId × Value → H} {w : World} {sp : Nat → Bool} {fuel : Nat} {cs : List Value} {x : DataW H × List MemPlace} (h : DataW.trod enc Tryz.prog w 0 sp true fuel 43 cs = some x) (hw : ∀ n ∈ x.1.weights Tryz.prog 43, n ≤ reachBytes) :
    ∃ (i : SIn) (NA BA : Option Addr) (nc bc : Nat), cs = [.slice NA i.nums.length nc, .slice BA i.bufs.length bc] ∧ kU64.Row w NA i.nums ∧ kStr.Row w BA i.bufs ∧ (i.nums.length ≤ nc ∧ nc ≤ maxLen) ∧ i.bufs.length ≤ maxLen ∧ (∀ x ∈ i.nums, 0 ≤ x ∧ x < 18446744073709551616) ∧ ∀ b ∈ i.bufs, b.size ≤ reachBytes := by
  obtain ⟨hl, n, hf⟩ := open_struct Tryz.underlying43 h hw
  obtain ⟨v0, v1, rfl⟩ := list2 (hl.trans cellsInput)
  obtain ⟨y0, h0, w0⟩ := fld hf 0 _ rfl 40 0 1 rfl rfl cellsNums
  obtain ⟨y1, h1, w1⟩ := fld hf 1 _ rfl 41 1 1 rfl rfl cellsStrs
  simp only [List.drop_succ_cons, List.drop_zero, List.take_succ_cons, List.take_zero] at h0 h1
  have hcap : ∀ A (l c : Nat), v0 = .slice A l c → l ≤ c ∧ c ≤ maxLen := by
    intro A l c e
    subst e
    rcases DataW.trod_slice Tryz.underlying40 h0 with ⟨e, _⟩ | ⟨a, len, cap, elems, rest, m, _, e, _, _, h1, h2, _⟩
    · injection e with e _
      injection e with _ e1 e2
      subst e1; subst e2
      exact ⟨Nat.le_refl _, Nat.zero_le _⟩
    · injection e with e _
      injection e with _ e1 e2
      subst e1; subst e2
      exact ⟨h1, h2⟩
  obtain ⟨nums, ⟨NA, nc, e0, m0, r0⟩, q0⟩ := opens_slice (k := kU64) (by decide) opens_u64 Tryz.underlying40 cellsU64 enc w sp _ _ _ h0 w0
  obtain ⟨bufs, ⟨BA, bc, e1, m1, r1⟩, q1⟩ := opens_slice (k := kStr) (by decide) (opens_str Tryz.underlying9) Tryz.underlying41 cellsStr enc w sp _ _ _ h1 w1
  simp only [List.cons.injEq, and_true] at e0 e1
  refine ⟨⟨nums, bufs⟩, NA, BA, nc, bc, by rw [e0, e1], r0, r1, hcap _ _ _ e0, m1, fun x hx => ?_, q1.2⟩
  have h3 := q0.2 x hx
  simp [Lit.wf, IntKind.min, IntKind.max, IntKind.signed, IntKind.bits] at h3
  omega
/-- What came in keeps to what a run asks. -/
theorem runOk_in {p : SIr} {i : SIn} (hs : p.par.length ≤ 1000) (hb : ∀ b ∈ p.blk, BlkIn b) (hn : i.nums.length ≤ maxLen) (hl : i.bufs.length ≤ maxLen) (hz : ∀ b ∈ i.bufs, b.size ≤ reachBytes) (hr : ∀ x ∈ i.nums, 0 ≤ x ∧ x < 18446744073709551616) : RunOk p i where
  par := hs
  ops := fun b h => by have := (hb b h).1; unfold reachBytes at this; omega
  opw := fun b h o ho => by
    obtain ⟨_, h1, _, _, _, h2⟩ := (hb b h).2 o ho
    simp [Lit.wf, IntKind.min, IntKind.max, IntKind.signed, IntKind.bits] at h1 h2
    omega
  nl := by unfold maxLen at hn; omega
  bl := by unfold maxLen at hl; omega
  bz := fun b h => by have := hz b h; unfold reachBytes at this; omega
  nr := hr
end Go.Proofs.YtoabiignjkcdmaaGreat
