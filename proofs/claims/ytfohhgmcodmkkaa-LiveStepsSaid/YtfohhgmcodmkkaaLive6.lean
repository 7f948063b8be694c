/-
  live.backwards: the iterator's contract.
-/
import Derived.RangeFuncNested
import Derived.RangeFuncBound
import Derived.RangeFuncCalls
import Derived.RangeFuncLeaves
import Derived.RangeFuncWrites
import Derived.Shelf.Abstract
import Derived.Shelf.RegionOpen
import Derived.OwnWalkIn
import Derived.TacticsInMore
import Derived.LoopNIn
import Derived.LoopIn
import Derived.Test.YtfohhgmcodmkkaaLive5
import Derived.Test.YtfohhgmcodmkkaaIrW4
namespace Go.Proofs.Ytfohhgmcodmkkaa
open Go.RowKit Go.Lib Go.Shelf
set_option linter.unusedVariables false
set_option linter.unusedSimpArgs false
attribute [local go_sem] Oper.semAt_some

/-- Cells below n are kept. -/
def KpC (n : Nat) (W W' : World) : Prop := ∀ a v, a.block < n → W.cell? a = some v → W'.cell? a = some v
theorem KpC.refl (n : Nat) (W : World) : KpC n W W := fun _ _ _ h => h
theorem KpC.trans {n : Nat} {A B C : World} (h : KpC n A B) (k : KpC n B C) : KpC n A C := fun a v ha hc => k a v ha (h a v ha hc)

def sopV (o : SOp) : Value := .agg #[.int .u8 o.k, .int .u8 o.fn, .int .i64 o.d, .int .i64 o.a, .int .i64 o.b, .int .u64 o.imm]

theorem rev_get (ops : List SOp) (first j : Nat) (h : j < ops.length - first) : (ops.drop first).reverse.take (j + 1) = (ops.drop first).reverse.take j ++ [ops[ops.length - 1 - j]'(by omega)] := by
  have hl : j < (ops.drop first).reverse.length := by simp; omega
  rw [List.take_succ_eq_append_getElem hl]
  congr 2
  simp
  congr 1
  omega

set_option maxRecDepth 100000 in
set_option maxHeartbeats 1000000 in
theorem back1_in (F : Fence) (n : Nat) (hf : F.fn 78) (hro : F.round = none) (hn : 1 ≤ n) (l Bb Bf n₀ : Nat) (ops : List SOp) (first : Nat) (hfl : first ≤ ops.length) (hm : ops.length ≤ 1000000) (O : Option Addr) (oc : Nat) (J Jx : List SOp → World → Prop)
    (hY : ∀ pre x W, J pre W → pre.length < ops.length - first → YieldAt F (n - 1) Try.prog l #[sopV x] W fun e W' =>
      (e = .returned (.bool true) ∧ J (pre ++ [x]) W' ∧ KpC n₀ W W') ∨ (e = .returned (.bool false) ∧ Jx (pre ++ [x]) W'))
    (W : World) (hBb : W.cell? ⟨Bb, 0, none⟩ = some (.slice O ops.length oc)) (hBf : W.cell? ⟨Bf, 0, none⟩ = some (.int .i64 first)) (hb1 : Bb < n₀) (hb2 : Bf < n₀) (hO : kOp.Row W O ops) (hOb : ∀ b o, O = some ⟨b, o, none⟩ → b < n₀) (h0 : J [] W) :
    CallsIn F n Try.prog 78 #[.func (.yield l) #[] #[], .pointer (some ⟨Bb, 0, none⟩), .pointer (some ⟨Bf, 0, none⟩)] W fun e W' => (∃ v, e = .returned v) ∧
      ((∃ ys, ys = (ops.drop first).reverse ∧ J ys W') ∨ (∃ pre, pre <+: (ops.drop first).reverse ∧ Jx pre W')) := by
  refine callsIn_of_wp Try.func78 rfl hf ?_ hro
  simp only [Try.ntmps78, List.size_toArray, List.length_cons, List.length_nil, Nat.reduceAdd, Nat.reduceSub, Array.replicate_succ, Array.replicate_zero, List.push_toArray, List.append_toArray, List.nil_append, List.cons_append]
  gi_wp2
  gi_loopw [4] (fun s wr => ∃ j : Nat, j ≤ ops.length - first ∧ s = .int .i64 ((ops.length : Int) - 1 - j) ∧ J ((ops.drop first).reverse.take j) wr ∧ KpC n₀ W wr)
    (fun s _ => (intOf s + 1 - first).toNat)
  case atStart => exact ⟨0, Nat.zero_le _, by simp, h0, KpC.refl _ _⟩
  case round =>
    obtain ⟨j, hj, rfl, hJ, hk⟩ := hrel
    have c1 := hk _ _ hb1 hBb
    have c2 := hk _ _ hb2 hBf
    by_cases hlt : j < ops.length - first
    · obtain ⟨i, hi, hei, hfi, hrg⟩ : ∃ i, ∃ hi : i < ops.length, (ops.length : Int) - 1 - j = (i : Int) ∧ first ≤ i ∧ (ops.drop first).reverse.take (j + 1) = (ops.drop first).reverse.take j ++ [ops[i]] :=
        ⟨ops.length - 1 - j, by omega, by omega, by omega, rev_get ops first j hlt⟩
      rw [hei]
      obtain ⟨b, o, rfl, g0, g1, g2, g3, g4, g5⟩ := kOp_at hO i hi
      have hbn := hOb b o rfl
      replace g0 := hk _ _ hbn g0
      replace g1 := hk _ _ hbn g1
      replace g2 := hk _ _ hbn g2
      replace g3 := hk _ _ hbn g3
      replace g4 := hk _ _ hbn g4
      replace g5 := hk _ _ hbn g5
      obtain ⟨fn, tmps, assign, body, hy, hR⟩ := hY _ ops[i] wr hJ (by simp; omega)
      unfold sopV at hy
      rw [← hrg] at hR
      have HR := Lib.hid hrg
      have HE := Lib.hid hei
      clear hrg hei
      gi_wp2
      refine hR.mono ?_
      rintro e W3 (⟨rfl, hJ3, hk3⟩ | ⟨rfl, hJx3⟩)
      · gi_wp2
        go_roundw
        case rel => exact ⟨j + 1, by omega, by have := HE.out; simp; omega, hJ3, hk.trans hk3⟩
        case measure => (have := HE.out; simp [intOf]; omega)
      · gi_wp2
        refine bodyPost_ret (results_none rfl _ _ _) rfl ?_
        exact ⟨⟨_, rfl⟩, .inr ⟨_, List.take_prefix _ _, hJx3⟩⟩
    · have ej : j = ops.length - first := by omega
      gi_wp2
      go_end0
      refine ⟨⟨_, rfl⟩, .inl ⟨_, ?_, hJ⟩⟩
      rw [List.take_of_length_le (by simp; omega)]

end Go.Proofs.Ytfohhgmcodmkkaa
