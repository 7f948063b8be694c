/-
  Lemmas (texts FoldW8 FoldW9 FoldWr), each proved without a condition beyond its own hypotheses.
-/
import Derived.RangeFuncNested
import Derived.RangeFuncBound
import Derived.RangeFuncCalls
import Derived.RangeFuncLeaves
import Derived.RangeFuncWrites
import Derived.Shelf.Abstract
import Derived.Shelf.RegionOpen
import Derived.OwnWalkIn
import Derived.TacticsInMore
import Derived.LoopNIn
import Derived.LoopIn
import Derived.Test.YtoabiignjkcdmaaGreatFd35
import Derived.Test.YtoabiignjkcdmaaGreatFd5
import Derived.Maps.OwnIn
namespace Go.Proofs.YtoabiignjkcdmaaGreat
open Go.RowKit Go.Lib Go.Shelf
set_option linter.unusedVariables false
set_option linter.unusedSimpArgs false
attribute [local go_sem] Oper.semAt_some

/-- Cells of the blocks of S are kept. -/
def KpS (S : Nat → Prop) (W W' : World) : Prop := ∀ a v, S a.block → W.cell? a = some v → W'.cell? a = some v
theorem KpS.refl (S : Nat → Prop) (W : World) : KpS S W W := fun _ _ _ h => h
theorem KpS.trans {S : Nat → Prop} {A B C : World} (h : KpS S A B) (k : KpS S B C) : KpS S A C := fun a v ha hc => k a v ha (h a v ha hc)
theorem KpS.of_tb {S T : Nat → Prop} {W W' : World} (h : TB T W W') (hn : ∀ k, S k → ¬ T k) : KpS S W W' := fun a v ha hc => h.cell hc (hn _ ha)
theorem KpS.alloc {S : Nat → Prop} (W : World) (o : Obj) : KpS S W (W.alloc o) := fun a v _ hc => (World.cell?_of_block (Below.heap_alloc W o a.block (World.block_lt_of_cell? W a hc))).trans hc
theorem KpS.put {S : Nat → Prop} {w : World} (hS : ∀ k, S k → k < w.heap.size) (W : World) (l : Nat) (o o' : Obj) (hl : w.heap.size ≤ l) (h : W.heap[l]? = some o) (_ : o.isCells = false) (_ : o.isWalk = false) : KpS S W (W.putObj l o') := fun a v ha hc =>
  (World.cell?_of_block (World.putObj_heap_other (by have := hS _ ha; omega))).trans hc
theorem keepsFrom_tb {S : Nat → Prop} {B : Nat} {W W' : World} (h : TB S W W') (hS : ∀ k o, S k → W.heap[k]? = some o → B ≤ k → o.isCells = true) : KeepsFrom B W W' :=
  ⟨h.size, fun k o hk ho hc => (h.block k (Array.getElem?_eq_some_iff.1 ho).1 (fun e => by have := hS k o e ho hk; rw [this] at hc; cases hc)).trans ho⟩
theorem bk_kept {W W' : World} {row : Option Nat} {n : Nat} {cs : Array Value} {t : TypeId} (h : Bk W n cs t) (hg : W.grownBy W' row) (hr : ∀ r, row = some r → ∃ o : Obj, W.heap[r]? = some o ∧ o.isCells = false) : Bk W' n cs t := by
  refine h.grown hg (fun e => ?_)
  obtain ⟨o, h1, h2⟩ := hr n e.symm
  unfold Bk at h
  rw [h] at h1
  cases h1
  cases h2
theorem fin_rev {N j : Nat} (h : j < N) : (List.finRange N).reverse.take (j + 1) = (List.finRange N).reverse.take j ++ [⟨N - 1 - j, by omega⟩] := by
  have hl : j < (List.finRange N).reverse.length := by simp; omega
  rw [List.take_succ_eq_append_getElem hl]
  congr 2
  simp
def blkV (v : Value) (b : SBlock) : Value := .agg #[v, .int .u8 b.e, .int .i64 b.a, .int .i64 b.go, .int .i64 b.els]

set_option maxRecDepth 100000 in
set_option maxHeartbeats 1000000 in
theorem backOp_in (F : Fence) (n : Nat) (hf : F.fn 80) (hro : F.round = none) (hn : 1 ≤ n) (l Bb : Nat) (S : Nat → Prop) (ops : List SOp) (hm : ops.length ≤ 1000000) (O : Option Addr) (oc : Nat) (J Jx : List (Fin ops.length) → World → Prop)
    (hY : ∀ (pre : List (Fin ops.length)) (x : Fin ops.length) W, J pre W → pre.length < ops.length → YieldAt F (n - 1) Tryz.prog l #[.int .i64 (x.val : Int), (ops[x.val]'x.isLt).val] W fun e W' =>
      (e = .returned (.bool true) ∧ J (pre ++ [x]) W' ∧ KpS S W W') ∨ (e = .returned (.bool false) ∧ Jx (pre ++ [x]) W'))
    (W : World) (hBb : W.cell? ⟨Bb, 0, none⟩ = some (.slice O ops.length oc)) (hb1 : S Bb) (hO : kOp.Row W O ops) (hOb : 0 < ops.length → ∀ b o, O = some ⟨b, o, none⟩ → S b) (h0 : J [] W) :
    CallsIn F n Tryz.prog 80 #[.func (.yield l) #[] #[], .pointer (some ⟨Bb, 0, none⟩)] W fun e W' => (∃ v, e = .returned v) ∧
      ((∃ ys, ys = (List.finRange ops.length).reverse ∧ J ys W') ∨ (∃ pre, pre <+: (List.finRange ops.length).reverse ∧ Jx pre W')) := by
  refine callsIn_of_wp Tryz.func80 rfl hf ?_ hro
  simp only [Tryz.ntmps80, List.size_toArray, List.length_cons, List.length_nil, Nat.reduceAdd, Nat.reduceSub, Array.replicate_succ, Array.replicate_zero, List.push_toArray, List.append_toArray, List.nil_append, List.cons_append]
  gi_wp2
  gi_loopw [3] (fun s wr => ∃ j : Nat, j ≤ ops.length ∧ s = .int .i64 ((ops.length : Int) - 1 - j) ∧ J ((List.finRange ops.length).reverse.take j) wr ∧ KpS S W wr)
    (fun s _ => (intOf s + 1).toNat)
  case atStart => exact ⟨0, Nat.zero_le _, by simp, h0, KpS.refl S W⟩
  case round =>
    obtain ⟨j, hj, rfl, hJ, hk⟩ := hrel
    have c1 := hk _ _ hb1 hBb
    by_cases hlt : j < ops.length
    · obtain ⟨i, hi, hei, hrg⟩ : ∃ i, ∃ hi : i < ops.length, (ops.length : Int) - 1 - j = (i : Int) ∧ (List.finRange ops.length).reverse.take (j + 1) = (List.finRange ops.length).reverse.take j ++ [⟨i, hi⟩] :=
        ⟨ops.length - 1 - j, by omega, by omega, fin_rev hlt⟩
      rw [hei]
      obtain ⟨b, o, rfl, g0, g1, g2, g3, g4, g5⟩ := kOp_at hO i hi
      have hbn := hOb (by omega) b o rfl
      replace g0 := hk _ _ hbn g0
      replace g1 := hk _ _ hbn g1
      replace g2 := hk _ _ hbn g2
      replace g3 := hk _ _ hbn g3
      replace g4 := hk _ _ hbn g4
      replace g5 := hk _ _ hbn g5
      obtain ⟨fn, tmps, assign, body, hy, hR⟩ := hY _ ⟨i, hi⟩ wr hJ (by simp; omega)
      have ev : (ops[((⟨i, hi⟩ : Fin ops.length)).val]'hi).val = .agg #[.int .u8 ops[i].k, .int .u8 ops[i].fn, .int .i64 ops[i].d, .int .i64 ops[i].a, .int .i64 ops[i].b, .int .u64 ops[i].imm] := rfl
      rw [ev] at hy
      rw [← hrg] at hR
      have HR := Lib.hid hrg
      have HE := Lib.hid hei
      clear hrg hei ev
      gi_wp2
      refine hR.mono ?_
      rintro e W3 (⟨rfl, hJ3, hk3⟩ | ⟨rfl, hJx3⟩)
      · gi_wp2
        go_roundw
        case rel => exact ⟨j + 1, by omega, by (have := HE.out); (try simp); (try omega), hJ3, hk.trans hk3⟩
        case measure => (have := HE.out; simp [intOf] <;> omega)
      · gi_wp2
        refine bodyPost_ret (results_none rfl _ _ _) rfl ?_
        exact ⟨⟨_, rfl⟩, .inr ⟨_, List.take_prefix _ _, hJx3⟩⟩
    · have ej : j = ops.length := by omega
      gi_wp2
      go_end0
      refine ⟨⟨_, rfl⟩, .inl ⟨_, ?_, hJ⟩⟩
      rw [List.take_of_length_le (by simp; omega)]
/-- Blocks as they lie, their steps' rows being vs. -/
def BlkRow (W : World) (O : Option Addr) (bs : List SBlock) (vs : List Value) : Prop :=
  ∀ i (h : i < bs.length) (h' : i < vs.length), ∃ b o, O = some ⟨b, o, none⟩ ∧ W.cell? ⟨b, o + i * 5, none⟩ = some vs[i] ∧ W.cell? ⟨b, o + i * 5 + 1, none⟩ = some (.int .u8 bs[i].e) ∧ W.cell? ⟨b, o + i * 5 + 2, none⟩ = some (.int .i64 bs[i].a) ∧
    W.cell? ⟨b, o + i * 5 + 3, none⟩ = some (.int .i64 bs[i].go) ∧ W.cell? ⟨b, o + i * 5 + 4, none⟩ = some (.int .i64 bs[i].els)
set_option maxRecDepth 100000 in
set_option maxHeartbeats 1000000 in
theorem backBlk_in (F : Fence) (n : Nat) (hf : F.fn 57) (hro : F.round = none) (hn : 1 ≤ n) (l Bb : Nat) (S : Nat → Prop) (bs : List SBlock) (vs : List Value) (hvs : vs.length = bs.length) (hm : bs.length ≤ 1000000) (O : Option Addr) (oc : Nat) (J Jx : List (Fin bs.length) → World → Prop)
    (hY : ∀ (pre : List (Fin bs.length)) (x : Fin bs.length) W, J pre W → pre.length < bs.length → YieldAt F (n - 1) Tryz.prog l #[.int .i64 (x.val : Int), blkV (vs[x.val]'(by rw [hvs]; exact x.isLt)) (bs[x.val]'x.isLt)] W fun e W' =>
      (e = .returned (.bool true) ∧ J (pre ++ [x]) W' ∧ KpS S W W') ∨ (e = .returned (.bool false) ∧ Jx (pre ++ [x]) W'))
    (W : World) (hBb : W.cell? ⟨Bb, 0, none⟩ = some (.slice O bs.length oc)) (hb1 : S Bb) (hO : BlkRow W O bs vs) (hOb : 0 < bs.length → ∀ b o, O = some ⟨b, o, none⟩ → S b) (h0 : J [] W) :
    CallsIn F n Tryz.prog 57 #[.func (.yield l) #[] #[], .pointer (some ⟨Bb, 0, none⟩)] W fun e W' => (∃ v, e = .returned v) ∧
      ((∃ ys, ys = (List.finRange bs.length).reverse ∧ J ys W') ∨ (∃ pre, pre <+: (List.finRange bs.length).reverse ∧ Jx pre W')) := by
  refine callsIn_of_wp Tryz.func57 rfl hf ?_ hro
  simp only [Tryz.ntmps57, List.size_toArray, List.length_cons, List.length_nil, Nat.reduceAdd, Nat.reduceSub, Array.replicate_succ, Array.replicate_zero, List.push_toArray, List.append_toArray, List.nil_append, List.cons_append]
  gi_wp2
  gi_loopw [3] (fun s wr => ∃ j : Nat, j ≤ bs.length ∧ s = .int .i64 ((bs.length : Int) - 1 - j) ∧ J ((List.finRange bs.length).reverse.take j) wr ∧ KpS S W wr)
    (fun s _ => (intOf s + 1).toNat)
  case atStart => exact ⟨0, Nat.zero_le _, by simp, h0, KpS.refl S W⟩
  case round =>
    obtain ⟨j, hj, rfl, hJ, hk⟩ := hrel
    have c1 := hk _ _ hb1 hBb
    by_cases hlt : j < bs.length
    · obtain ⟨i, hi, hei, hrg⟩ : ∃ i, ∃ hi : i < bs.length, (bs.length : Int) - 1 - j = (i : Int) ∧ (List.finRange bs.length).reverse.take (j + 1) = (List.finRange bs.length).reverse.take j ++ [⟨i, hi⟩] :=
        ⟨bs.length - 1 - j, by omega, by omega, fin_rev hlt⟩
      rw [hei]
      have hi' : i < vs.length := by omega
      obtain ⟨b, o, rfl, g0, g1, g2, g3, g4⟩ := hO i hi hi'
      have hbn := hOb (by omega) b o rfl
      replace g0 := hk _ _ hbn g0
      replace g1 := hk _ _ hbn g1
      replace g2 := hk _ _ hbn g2
      replace g3 := hk _ _ hbn g3
      replace g4 := hk _ _ hbn g4
      obtain ⟨fn, tmps, assign, body, hy, hR⟩ := hY _ ⟨i, hi⟩ wr hJ (by simp; omega)
      have ev : blkV (vs[((⟨i, hi⟩ : Fin bs.length)).val]'hi') (bs[((⟨i, hi⟩ : Fin bs.length)).val]'hi) = .agg #[vs[i], .int .u8 bs[i].e, .int .i64 bs[i].a, .int .i64 bs[i].go, .int .i64 bs[i].els] := rfl
      rw [ev] at hy
      rw [← hrg] at hR
      have HR := Lib.hid hrg
      have HE := Lib.hid hei
      clear hrg hei ev
      gi_wp2
      refine hR.mono ?_
      rintro e W3 (⟨rfl, hJ3, hk3⟩ | ⟨rfl, hJx3⟩)
      · gi_wp2
        go_roundw
        case rel => exact ⟨j + 1, by omega, by (have := HE.out); (try simp); (try omega), hJ3, hk.trans hk3⟩
        case measure => (have := HE.out; simp [intOf] <;> omega)
      · gi_wp2
        refine bodyPost_ret (results_none rfl _ _ _) rfl ?_
        exact ⟨⟨_, rfl⟩, .inr ⟨_, List.take_prefix _ _, hJx3⟩⟩
    · have ej : j = bs.length := by omega
      gi_wp2
      go_end0
      refine ⟨⟨_, rfl⟩, .inl ⟨_, ?_, hJ⟩⟩
      rw [List.take_of_length_le (by simp; omega)]
end Go.Proofs.YtoabiignjkcdmaaGreat

namespace Go.Proofs.YtoabiignjkcdmaaGreat
open Go.RowKit Go.Lib Go.Shelf Go.Maps Go.Proofs.YtoabiignjkcdmaaGreatW.PrintLast
set_option linter.unusedVariables false
set_option linter.unusedSimpArgs false

section
variable {P : Program} {ops : Array Oper} {Q : Exit → Act → World → Prop} {md : Region.Mode} {n l : Nat}
theorem opIn_of_wp {o : Oper} {a : Act} {w : World} {K : Act → World → Prop} (hd : ∀ c, o.op ≠ .defer c) (h : Oper.wp P o a w K Q) : Oper.wpIn (Fence.wide.inRound l) n P o a w K Q := by
  refine ⟨fun _ _ => trivial, ?_⟩
  rw [Oper.semAt_plain _ _ _ hd]
  unfold Oper.wp at h
  generalize (execOp a.eval o).run P w = r at *
  cases r with
  | ok x w' =>
    cases x with
    | value v => exact h
    | skip => exact h
    | defer d => exact h
    | enter f args => exact ⟨(fun h => by cases h), CallsIn.inRound l (callsIn_wide.2 h)⟩
    | row r args => exact ⟨(fun h => by cases h), fun c cs _ => let ⟨v, w', r, s⟩ := h c cs; ⟨v, w', r, stepsIn_wide.2 s⟩⟩
    | _ => exact h.elim
  | halt x w' => cases x <;> exact h
def noDefer (ops : Array Oper) : Bool := ops.all fun o => match o.op with | .defer _ => false | _ => true
theorem noDefer_at (h : noDefer ops = true) {i : Nat} {o : Oper} (hi : ops[i]? = some o) : ∀ c, o.op ≠ .defer c := by
  intro c hc
  unfold noDefer at h
  rw [Array.all_eq_true] at h
  obtain ⟨hlt, he⟩ := Array.getElem?_eq_some_iff.1 hi
  have := h i hlt
  rw [he, hc] at this
  cases this
theorem wpAnyIn_of (hd : noDefer ops = true) (hno : ¬ LetsOut Q) : ∀ (fuel : Nat) (listed : Array Bool) (a : Act) (w : World), wpAny P md ops Q fuel listed a w → wpAnyIn (Fence.wide.inRound l) n P md ops Q fuel listed a w
  | 0, _, _, _, h => h
  | fuel + 1, listed, a, w, h => by
    refine ⟨h.1, fun i hi => ?_⟩
    have h2 := wpOp_mono (fun a' w' h' => wpAnyIn_of hd hno fuel _ a' w' h') (h.2 i hi)
    unfold wpOp at h2
    unfold wpOpIn
    split
    · rename_i e
      rw [e] at h2
      exact h2
    · rename_i o e
      rw [e] at h2
      simp only at h2
      split
      · rename_i hw
        rw [if_pos hw] at h2
        rcases h2 with h2 | h2
        · exact opIn_of_wp (noDefer_at hd e) h2
        · exact absurd h2.2 hno
      · rename_i hw
        rw [if_neg hw] at h2
        exact ⟨fun _ _ => trivial, h2⟩
/-- The steps of a region that draws its order, within a round. -/
theorem startIn_ {id n0 : Nat} {S : World → Prop} {ds : List Nat} {a : Act} {w : World} (l0 : Array Bool) (hm : P.follows .mixedOrders = true) (hn : ops.size = n0) (hl : Array.replicate n0 false = l0) (hd : noDefer ops = true) (hno : ¬ LetsOut Q) (hS : S w.drew)
    (h : S w.drew → wpAnyLast P .any ops Q S ds n0 l0 a w.drew) : (Code.region id ops true).wpIn (Fence.wide.inRound l) n P Q a w := by
  subst hn
  subst hl
  exact wpIn_region_any hm (wpAnyIn_of hd hno _ _ _ _ (wpAny_of_last _ _ _ _ (h hS)))
end

/-- ops = append(ops, o), within a fence. -/
theorem wpListIn_append_op {F : Fence} {nn : Nat} {ops : Array Oper} {rest : List Oper} {o : Oper} {a : Act} {Q : Exit → Act → World → Prop} {w : World} (hgd : o.guard = none) (s x : Operand)
    (ho : o.op = .call { callee := .builtin .append, args := #[s, x], argTypes := #[36, 36] }) (base : Nat) (v : Value) (n : Nat) (xs : List Value) (hs : a.eval s = v) (hown : w.ownsRow base 54 6 v n xs)
    (k : Nat) (so : SOp) (hx : a.eval x = .slice (some ⟨k, 0, none⟩) 1 1) (hc : Bk w k so.cells.toArray 54) (hn : n ≤ 1000000000) (hb : base ≤ w.heap.size)
    (h : ∀ v' w', w'.ownsRow base 54 6 v' (n + 1) (xs ++ so.cells) → w.grownBy w' v.ownBlock → wpListIn F nn Tryz.prog ops Q rest (a.put o.dst v') w') : wpListIn F nn Tryz.prog ops Q (o :: rest) a w := by
  obtain ⟨i0, hi, hz0, hz1, hz2⟩ := info_parts infoOp
  refine wpListIn_append_own w hgd s x _ ho base 54 i0 _ 6 40 Tryz.underlying36 hi hz0 hz1 hz2 rfl (by decide) v n xs hs hown ⟨k, 0, none⟩ 1 1 so.cells hx rfl (fun j u hu => ?_) ?_ (by unfold maxLen; omega) (by omega) hb (fun v' w' h1 h2 _ => h v' w' h1 h2)
  · have hj : j < 6 := by
      have := (List.getElem?_eq_some_iff.1 hu).1
      simpa [SOp.cells] using this
    have := hc.cell j
    rw [show ((⟨k, 0, none⟩ : Addr).add j) = ⟨k, j, none⟩ by simp only [Addr.add]; split <;> simp_all, this]
    rw [← hu]
    simp
  · intro u hu
    simp [SOp.cells] at hu
    rcases hu with rfl | rfl | rfl | rfl | rfl | rfl <;> rfl
/-- A set, cloned. -/
theorem clone_c {w : World} {m n : Nat} {wn : Want} (h : WantAt w m n wn) :
    Calls Tryz.prog 58 #[.map (some m)] w fun e w' => e = .returned (.map (some w.heap.size)) ∧ WantAt w' w.heap.size n wn ∧ Below w.heap.size w w' := by
  obtain ⟨D, ho, hr, hi⟩ := h
  refine Calls.mono (AnyW.maps_Clone_owns Tryz.cloneM 3 (plainElem Tryz.prog 4) m _ D w ho) ?_
  rintro e w' ⟨he, h1, -, h2⟩
  exact ⟨he, ⟨D, h1, hr, hi⟩, h2⟩
theorem backwardOp_c (O : Option Addr) (n c : Nat) (w : World) :
    Calls Tryz.prog 60 #[.slice O n c] w fun e w' => e = .returned (.func (.func 80) #[] #[.pointer (some ⟨w.heap.size, 0, none⟩)]) ∧ w' = w.alloc (.cells #[.slice O n c] 36) := by
  go_enter Tryz.func60, Tryz.ntmps60
  go_wp2
  go_ret
  exact ⟨rfl, rfl⟩
theorem backwardBlk_c (O : Option Addr) (n c : Nat) (w : World) :
    Calls Tryz.prog 33 #[.slice O n c] w fun e w' => e = .returned (.func (.func 57) #[] #[.pointer (some ⟨w.heap.size, 0, none⟩)]) ∧ w' = w.alloc (.cells #[.slice O n c] 24) := by
  go_enter Tryz.func33, Tryz.ntmps33
  go_wp2
  go_ret
  exact ⟨rfl, rfl⟩
end Go.Proofs.YtoabiignjkcdmaaGreat

namespace Go.Proofs.YtoabiignjkcdmaaGreat
open Go.RowKit Go.Lib Go.Shelf Go.Maps Go.Sort
set_option linter.unusedVariables false
set_option linter.unusedSimpArgs false

instance : Inhabited SOp := ⟨⟨0, 0, 0, 0, 0, 0⟩⟩
theorem opsC_get (l : List SOp) (i : Nat) (hi : i < l.length) (j : Nat) (hj : j < 6) : (opsC l)[i * 6 + j]? = l[i].cells[j]? := flat_get SOp.cells 6 (fun _ => rfl) l i hi j hj
theorem holds_ops {w : World} {base g cap : Nat} {l : List SOp} (h : w.ownsRow base 54 6 (.slice (some ⟨g, 0, none⟩) l.length cap) l.length (opsC l)) : HoldsK SOp.cells 6 w g 0 l.toArray := by
  intro j hj
  rw [size_flatK] at hj
  have hjl : j < l.length * 6 := by simpa using hj
  have hi : j / 6 < l.length := by omega
  have hr : j % 6 < 6 := Nat.mod_lt _ (by decide)
  have e : j = j / 6 * 6 + j % 6 := by omega
  constructor
  · have hc := World.ownsRow.cellAt h j hjl
    rw [Nat.zero_add, hc, get_flatK _ _ _ _ hj]
    conv => lhs; rw [e]
    rw [opsC_get l (j / 6) hi (j % 6) hr]
    have e1 : l.toArray[j / 6]! = l[j / 6] := by simp [hi]
    rw [e1, List.getElem?_eq_getElem (show j % 6 < l[j / 6].cells.length from hr)]
    simp [getElem!_pos, show j % 6 < l[j / 6].cells.length from hr]
  · rcases h.2 with ⟨hz, -⟩ | ⟨g', cap', cur, hv, -, hh, -⟩
    · cases hz
    · cases hv
      simp [World.frozen?, hh]
theorem row_of_holds {w : World} {g : Nat} {l : List SOp} (h : HoldsK SOp.cells 6 w g 0 l.toArray) : kOp.Row w (some ⟨g, 0, none⟩) l := by
  refine .inr ⟨g, 0, rfl, fun i hi => ⟨l[i].cells, rfl, fun j hj => ?_⟩⟩
  have hj6 : j < 6 := hj
  have := (h.cell (i := i) (c := j) (by simpa using hi) hj6).1
  have e1 : l.toArray[i]! = l[i] := by simp [hi]
  rw [e1] at this
  show w.cell? ⟨g, 0 + i * 6 + j, none⟩ = _
  rw [getElem!_pos l[i].cells j hj] at this
  exact this
/-- The steps of the call's own, turned round. -/
theorem reverse_c {w : World} {base : Nat} {v : Value} {l : List SOp} (h : w.ownsRow base 54 6 v l.length (opsC l)) (hl : l.length ≤ 1000000) :
    Calls Tryz.prog 61 #[v] w fun e w' => e = .returned (.tuple #[]) ∧ w'.ownsRow base 54 6 v l.length (opsC l.reverse) ∧ TB (fun k => v.ownBlock = some k) w w' := by
  by_cases h0 : l = []
  · subst h0
    have hv : ∃ A c, v = .slice A 0 c := by
      rcases h.2 with ⟨rfl, -⟩ | ⟨g, cap, cur, rfl, hb, -⟩
      · exact ⟨_, _, rfl⟩
      · exact ⟨_, _, rfl⟩
    obtain ⟨A, c, rfl⟩ := hv
    refine Calls.mono (AnyQ.slices_Reverse_empty Tryz.reverseS A c w) ?_
    rintro e w' ⟨he, rfl⟩
    exact ⟨he, h, TB.refl _ _⟩
  · have hpos := List.length_pos_iff.2 h0
    have hv : ∃ g c cur, v = .slice (some ⟨g, 0, none⟩) l.length c ∧ base ≤ g ∧ w.heap[g]? = some (.cells cur 54 (0, 0)) ∧ l.length ≤ c ∧ c ≤ maxLen ∧ cur.size = c * 6 := by
      rcases h.2 with ⟨-, hz⟩ | ⟨g, cap, cur, rfl, hb, h1, h2, h3, h4, -⟩
      · omega
      · exact ⟨g, cap, cur, rfl, hb, h1, h2, h3, h4⟩
    obtain ⟨g, c, cur, rfl, hg, hheap, hc1, hc2, hc3⟩ := hv
    have hH := holds_ops h
    have h1 : ∀ x : SOp, ∀ u ∈ x.cells, u.oneCell' = true := by
      intro x u hu
      simp [SOp.cells] at hu
      rcases hu with rfl | rfl | rfl | rfl | rfl | rfl <;> rfl
    have hc := AnyQ.slices_Reverse Tryz.reverseS 6 Tryz.isAgg54 Tryz.sizeOf54 SOp.cells (fun _ => rfl) h1 g 0 c l.toArray w hH (by simp; omega)
    have e : l.toArray.size = l.length := by simp
    rw [e] at hc
    refine Calls.mono hc ?_
    rintro e w' ⟨he, m, rfl⟩
    refine ⟨he, ?_, ?_⟩
    · have hK := holdsK_putRowK SOp.cells 6 (Sort.ahead w m) g 0 l.toArray l.toArray.reverse hH (by simp)
      have e2 : l.toArray.reverse = l.reverse.toArray := by simp
      rw [e2] at hK ⊢
      obtain ⟨cur', hcur', hsz'⟩ : ∃ cur' : Array Value, (putRowK SOp.cells 6 (Sort.ahead w m) g 0 l.reverse.toArray).heap[g]? = some (.cells cur' 54 (0, 0)) ∧ cur'.size = cur.size := by
        refine ⟨putCells id 0 (flatK SOp.cells 6 l.reverse.toArray) cur, ?_, by simp only [putCells, Array.size_mapIdx]⟩
        simp [putRowK, putRow, mapBlock, Sort.ahead, Array.getElem?_modify, hheap, onCells]
      refine ⟨by simp [opsC_length], .inr ⟨g, c, cur', rfl, hg, hcur', hc1, hc2, by rw [hsz', hc3], ?_⟩⟩
      have hrow := row_of_holds hK
      apply List.ext_getElem?
      intro j
      by_cases hj : j < l.length * 6
      · have hi : j / 6 < l.reverse.length := by simp; omega
        have hr : j % 6 < 6 := Nat.mod_lt _ (by decide)
        have ej : j = j / 6 * 6 + j % 6 := by omega
        rw [List.getElem?_take_of_lt hj]
        have h2 := opsC_get l.reverse (j / 6) hi (j % 6) hr
        rw [← ej] at h2
        rw [h2]
        have h3 := (hK.cell (i := j / 6) (c := j % 6) (by simpa using hi) hr).1
        have e1 : l.reverse.toArray[j / 6]! = l.reverse[j / 6] := by rw [getElem!_pos l.reverse.toArray (j / 6) (by simpa using hi)]; rfl
        rw [e1, Nat.zero_add, ← ej, getElem!_pos (l.reverse[j / 6]).cells (j % 6) hr] at h3
        have h4 : (putRowK SOp.cells 6 (Sort.ahead w m) g 0 l.reverse.toArray).cell? ⟨g, j, none⟩ = cur'[j]? := by simp [World.cell?, hcur']
        rw [h4] at h3
        rw [Array.getElem?_toList, h3, List.getElem?_eq_getElem (show j % 6 < (l.reverse[j / 6]).cells.length from hr)]
        rfl
      · rw [List.getElem?_eq_none (by simp; omega), List.getElem?_eq_none (by rw [opsC_length]; simp; omega)]
    · refine ⟨rfl, rfl, rfl, ?_, fun k hk hn => ?_⟩
      · exact Nat.le_of_eq (by simp [putRowK, putRow, mapBlock, Sort.ahead])
      · have hne : g ≠ k := fun e => hn (by rw [e]; rfl)
        simp [putRowK, putRow, mapBlock, Sort.ahead, Array.getElem?_modify, hne]
/-- A row of steps of the call's own, as a row. -/
theorem opsRow_own {w : World} {base : Nat} {v : Value} {l : List SOp} (h : w.ownsRow base 54 6 v l.length (opsC l)) : ∃ A c, v = .slice A l.length c ∧ kOp.Row w A l := by
  rcases h.2 with ⟨rfl, hz⟩ | ⟨g, cap, cur, rfl, hb, -⟩
  · exact ⟨none, 0, by rw [hz], .inl (List.eq_nil_of_length_eq_zero hz)⟩
  · exact ⟨_, _, rfl, row_of_holds (holds_ops h)⟩
end Go.Proofs.YtoabiignjkcdmaaGreat
