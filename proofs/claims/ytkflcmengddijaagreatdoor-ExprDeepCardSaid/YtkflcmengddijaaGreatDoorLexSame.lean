/-
  sacristyref06.Bare and Same, of rows that are the same.
-/
import Derived.Test.YtkflcmengddijaaGreatDoorLexJoin
import Derived.Laws.StructEq
namespace Go.Proofs.YtkflcmengddijaaGreatDoor
open Go.RowKit Lx
set_option linter.unusedVariables false
set_option linter.unusedSimpArgs false

/-- The same tokens, but for their places. -/
def BareEq (xs ys : List STok) : Prop := xs.map (fun t => (t.k, t.text, t.num)) = ys.map (fun t => (t.k, t.text, t.num))
theorem BareEq.length {xs ys : List STok} (h : BareEq xs ys) : xs.length = ys.length := by have := congrArg List.length h; simpa using this
theorem BareEq.at {xs ys : List STok} (h : BareEq xs ys) (k : Nat) (hk : k < xs.length) (hk' : k < ys.length) : ys[k].k = xs[k].k ∧ ys[k].text = xs[k].text ∧ ys[k].num = xs[k].num := by
  have : (xs.map (fun t => (t.k, t.text, t.num)))[k]'(by simpa using hk) = (ys.map (fun t => (t.k, t.text, t.num)))[k]'(by simpa using hk') := by
    simp only [BareEq] at h
    simp only [h]
  simp at this
  exact ⟨this.1.symm, this.2.1.symm, this.2.2.symm⟩

theorem belowN {B : Nat} {a w : World} (h : Below B a w) (n : Nat) : Below B a (w.drewN n) := ⟨h.os, h.tape, h.output, h.size, h.block⟩
set_option maxRecDepth 100000 in
set_option maxHeartbeats 4000000 in
theorem bare_c (xs ys : List STok) (A B : Option Addr) (c1 c2 : Nat) (w : World) (h : BareEq xs ys) (hx : kTok.Row w A xs) (hy : kTok.Row w B ys) (hl : xs.length ≤ 100000) :
    Calls Tryz.prog 24 #[.slice A xs.length c1, .slice B ys.length c2] w fun e w' => e = .returned (.bool true) ∧ Below w.heap.size w w' := by
  have hlen := h.length
  rw [← hlen]
  have HL := Lib.hid hlen
  clear hlen
  go_enter Tryz.func24, Tryz.ntmps24
  go_wp2
  go_loopw [5] (fun i wr => ∃ k : Nat, k ≤ xs.length ∧ i = .int .i64 k ∧ Below w.heap.size w wr) (fun i _ => xs.length - (intOf i).toNat)
  case atStart => exact ⟨0, Nat.zero_le _, rfl, Below.refl _ _⟩
  case round =>
    obtain ⟨k, hk, rfl, hb⟩ := hrel
    by_cases hlt : k < xs.length
    · obtain ⟨b, o, rfl, g0, g1, g2, g3⟩ := kTok_at (hx.mono hb) k hlt
      obtain ⟨b', o', rfl, f0, f1, f2, f3⟩ := kTok_at (hy.mono hb) k (by have := HL.out; omega)
      obtain ⟨e0, e1, e2⟩ := h.at k hlt (by have := HL.out; omega)
      rw [e0] at f0
      rw [e1] at f1
      rw [e2] at f2
      have i0 : (0 : Int) ≤ (k : Int) := by omega
      have i1 : (k : Int) < (xs.length : Int) := by omega
      clear e0 e1 e2 g3 f3
      go_upto_region 6 with (fail)
      go_quiet (fail)
      go_wp2
      exact ⟨⟨k + 1, by omega, by go_num, belowN hb _⟩, by simp [intOf]; omega⟩
    · go_wp2
      go_ret
      exact ⟨rfl, hb⟩

set_option maxRecDepth 100000 in
set_option maxHeartbeats 4000000 in
theorem same_c (xs : List STok) (A B : Option Addr) (c1 c2 : Nat) (w : World) (hx : kTok.Row w A xs) (hy : kTok.Row w B xs) (hl : xs.length ≤ 100000) :
    Calls Tryz.prog 10 #[.slice A xs.length c1, .slice B xs.length c2] w fun e w' => e = .returned (.bool true) ∧ Below w.heap.size w w' := by
  go_enter Tryz.func10, Tryz.ntmps10
  go_wp2
  go_loopw [5] (fun i wr => ∃ k : Nat, k ≤ xs.length ∧ i = .int .i64 k ∧ Below w.heap.size w wr) (fun i _ => xs.length - (intOf i).toNat)
  case atStart => exact ⟨0, Nat.zero_le _, rfl, Below.refl _ _⟩
  case round =>
    obtain ⟨k, hk, rfl, hb⟩ := hrel
    by_cases hlt : k < xs.length
    · obtain ⟨b, o, rfl, g0, g1, g2, g3⟩ := kTok_at (hx.mono hb) k hlt
      obtain ⟨b', o', rfl, f0, f1, f2, f3⟩ := kTok_at (hy.mono hb) k hlt
      have i0 : (0 : Int) ≤ (k : Int) := by omega
      have i1 : (k : Int) < (xs.length : Int) := by omega
      go_upto_region 6 with (fail)
      go_quiet (fail)
      go_wp2
      exact ⟨⟨k + 1, by omega, by go_num, belowN hb _⟩, by simp [intOf]; omega⟩
    · go_wp2
      go_ret
      exact ⟨rfl, hb⟩
end Go.Proofs.YtkflcmengddijaaGreatDoor
