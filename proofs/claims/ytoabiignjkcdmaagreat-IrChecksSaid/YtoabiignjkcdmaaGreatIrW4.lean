/-
  ir.op at every step; the closure of ir.Check; slices.IndexFunc and ContainsFunc over it.
-/
import Derived.Test.YtoabiignjkcdmaaGreatIrW23
import Derived.Test.YtoabiignjkcdmaaGreatIrW24
import Derived.Test.YtoabiignjkcdmaaGreatIrW25
import Derived.Test.YtoabiignjkcdmaaGreatIrW2o
namespace Go.Proofs.YtoabiignjkcdmaaGreat
open Go.RowKit
set_option linter.unusedVariables false
set_option linter.unusedSimpArgs false

set_option maxRecDepth 100000 in
set_option maxHeartbeats 400000 in
theorem op_out (p : SIr) (k fn d a b imm : Int) (S P B : Option Addr) (c1 c2 c3 : Nat) (w : World) (h : k < 1 ∨ 13 < k) :
    Calls Tryz.prog 25 #[.agg #[.slice S p.sec.length c1, .slice P p.par.length c2, .slice B p.blk.length c3], .agg #[.int .u8 k, .int .u8 fn, .int .i64 d, .int .i64 a, .int .i64 b, .int .u64 imm]] w
      fun e w' => e = .returned (.bool (opS p ⟨k, fn, d, a, b, imm⟩)) ∧ Below w.heap.size w w' := by
  rcases h with h | h
  · go_enter Tryz.func25, Tryz.ntmps25
    go_wp2
    go_ret
    exact ⟨ret_bool (by simp [opS, h]), ((Below.refl _ _).alloc (Nat.le_refl _) _).alloc (by simp) _⟩
  · have h' : ¬ k < 1 := by omega
    go_enter Tryz.func25, Tryz.ntmps25
    go_wp2
    go_ret
    exact ⟨ret_bool (by simp [opS, h]), ((Below.refl _ _).alloc (Nat.le_refl _) _).alloc (by simp) _⟩

/-- ir.op, whatever the step. -/
theorem op_c (p : SIr) (o : SOp) (S P B : Option Addr) (c1 c2 c3 : Nat) (w : World) (hs : kBool.Row w S p.sec) :
    Calls Tryz.prog 25 #[.agg #[.slice S p.sec.length c1, .slice P p.par.length c2, .slice B p.blk.length c3], .agg #[.int .u8 o.k, .int .u8 o.fn, .int .i64 o.d, .int .i64 o.a, .int .i64 o.b, .int .u64 o.imm]] w
      fun e w' => e = .returned (.bool (opS p o)) ∧ Below w.heap.size w w' := by
  obtain ⟨k, fn, d, a, b, imm⟩ := o
  by_cases h : k < 1 ∨ 13 < k
  · exact op_out p k fn d a b imm S P B c1 c2 c3 w h
  by_cases h3 : k = 3
  · subst h3; exact op_c3 p fn d a b imm S P B c1 c2 c3 w hs
  by_cases h4 : k = 4
  · subst h4; exact op_c4 p fn d a b imm S P B c1 c2 c3 w hs
  by_cases h5 : k = 5
  · subst h5; exact op_c5 p fn d a b imm S P B c1 c2 c3 w hs
  exact op_co p k fn d a b imm S P B c1 c2 c3 w hs (by omega) (by omega) (by simp [h3]) (by simp [h4]) (by simp [h5]) (by simp [h3])

set_option maxHeartbeats 400000 in
theorem notOp_c (p : SIr) (o : SOp) {S P B : Option Addr} {c1 c2 c3 : Nat} (w : World) (pb : Nat) (hp : Bk w pb #[.slice S p.sec.length c1, .slice P p.par.length c2, .slice B p.blk.length c3] 26) (hs : kBool.Row w S p.sec) :
    Calls Tryz.prog 24 #[.agg #[.int .u8 o.k, .int .u8 o.fn, .int .i64 o.d, .int .i64 o.a, .int .i64 o.b, .int .u64 o.imm], .pointer (some ⟨pb, 0, none⟩)] w
      fun e w' => e = .returned (.bool (!opS p o)) ∧ Below w.heap.size w w' := by
  have C := hp.cell
  have hl := hp.lt
  have hbW : Below w.heap.size w (w.alloc (.cells #[.int .u8 o.k, .int .u8 o.fn, .int .i64 o.d, .int .i64 o.a, .int .i64 o.b, .int .u64 o.imm] 54)) := (Below.refl _ _).alloc (Nat.le_refl _) _
  go_enter Tryz.func24, Tryz.ntmps24
  go_wp2_with (go_at_call 25; refine (op_c p o S P B c1 c2 c3 _ (hs.mono hbW)).mono ?_; rintro e w1 ⟨rfl, hb⟩)
  go_ret
  exact ⟨rfl, bt hbW hb⟩

theorem kOp_at {w : World} {A : Option Addr} {xs : List SOp} (h : kOp.Row w A xs) (i : Nat) (hi : i < xs.length) : ∃ b o, A = some ⟨b, o, none⟩ ∧
    w.cell? ⟨b, o + i * 6, none⟩ = some (.int .u8 xs[i].k) ∧ w.cell? ⟨b, o + i * 6 + 1, none⟩ = some (.int .u8 xs[i].fn) ∧ w.cell? ⟨b, o + i * 6 + 2, none⟩ = some (.int .i64 xs[i].d) ∧
    w.cell? ⟨b, o + i * 6 + 3, none⟩ = some (.int .i64 xs[i].a) ∧ w.cell? ⟨b, o + i * 6 + 4, none⟩ = some (.int .i64 xs[i].b) ∧ w.cell? ⟨b, o + i * 6 + 5, none⟩ = some (.int .u64 xs[i].imm) := by
  obtain ⟨b, o, cs, e, h1, h2⟩ := h.at i hi
  obtain rfl : cs = xs[i].cells := h1
  exact ⟨b, o, e, h2 0 (by simp [SOp.cells]), h2 1 (by simp [SOp.cells]), h2 2 (by simp [SOp.cells]), h2 3 (by simp [SOp.cells]), h2 4 (by simp [SOp.cells]), h2 5 (by simp [SOp.cells])⟩

set_option maxHeartbeats 1000000 in
theorem indexOp_c (p : SIr) (ops : List SOp) {S P B O : Option Addr} {c1 c2 c3 c : Nat} (w : World) (pb : Nat) (hp : Bk w pb #[.slice S p.sec.length c1, .slice P p.par.length c2, .slice B p.blk.length c3] 26) (hs : kBool.Row w S p.sec)
    (ho : kOp.Row w O ops) (hm : ops.length ≤ maxLen) :
    Calls Tryz.prog 49 #[.slice O ops.length c, .func (.func 24) #[] #[.pointer (some ⟨pb, 0, none⟩)]] w
      fun e w' => (∃ r : Int, e = .returned (.int .i64 r) ∧ (0 ≤ r ↔ ops.all (opS p) = false)) ∧ Below w.heap.size w w' := by
  unfold maxLen at hm
  go_enter Tryz.func49, Tryz.ntmps49
  go_wp2_with fail
  go_loopw [8] (fun s wr => ∃ k : Nat, k ≤ ops.length ∧ s = .int .i64 k ∧ (∀ j (h : j < ops.length), j < k → opS p ops[j] = true) ∧ Below w.heap.size w wr) (fun s _ => ops.length - (intOf s).toNat)
  case atStart => exact ⟨0, Nat.zero_le _, rfl, fun j _ h => absurd h (by omega), Below.refl _ _⟩
  case round =>
    obtain ⟨k, hk, rfl, hall, hb⟩ := hrel
    by_cases hlt : k < ops.length
    · obtain ⟨ob, oo, rfl, g0, g1, g2, g3, g4, g5⟩ := kOp_at (ho.mono hb) k hlt
      have HA := Lib.hid hall; clear hall
      cases hop : opS p ops[k] with
      | true =>
        have HO := Lib.hid hop; clear hop
        go_wp2_with (go_at_call 24; refine (notOp_c p ops[k] _ pb (hp.mono hb) (hs.mono hb)).mono ?_; rintro e w1 ⟨rfl, hb1⟩; rw [HO.out])
        go_roundw
        case rel => exact ⟨k + 1, by omega, by go_num, fun j h hj => by
          by_cases e : j = k
          · subst e; exact HO.out
          · exact HA.out j h (by omega), bt hb hb1⟩
        case measure => simp [intOf]; omega
      | false =>
        have HO := Lib.hid hop; clear hop
        go_wp2_with (go_at_call 24; refine (notOp_c p ops[k] _ pb (hp.mono hb) (hs.mono hb)).mono ?_; rintro e w1 ⟨rfl, hb1⟩; rw [HO.out])
        go_ret
        refine ⟨⟨k, rfl, fun _ => ?_, fun _ => by omega⟩, bt hb hb1⟩
        rw [List.all_eq_false]
        exact ⟨ops[k], List.getElem_mem hlt, by simp [HO.out]⟩
    · go_wp2_with fail
      go_ret
      refine ⟨⟨-1, rfl, fun h => by omega, fun h => ?_⟩, hb⟩
      rw [List.all_eq_false] at h
      obtain ⟨o, ho, hf⟩ := h
      obtain ⟨j, hj, rfl⟩ := List.getElem_of_mem ho
      exact absurd (hall j hj (by omega)) hf

set_option maxHeartbeats 400000 in
theorem containsOp_c (p : SIr) (ops : List SOp) {S P B O : Option Addr} {c1 c2 c3 c : Nat} (w : World) (pb : Nat) (hp : Bk w pb #[.slice S p.sec.length c1, .slice P p.par.length c2, .slice B p.blk.length c3] 26) (hs : kBool.Row w S p.sec)
    (ho : kOp.Row w O ops) (hm : ops.length ≤ maxLen) :
    Calls Tryz.prog 23 #[.slice O ops.length c, .func (.func 24) #[] #[.pointer (some ⟨pb, 0, none⟩)]] w
      fun e w' => e = .returned (.bool (!ops.all (opS p))) ∧ Below w.heap.size w w' := by
  go_enter Tryz.func23, Tryz.ntmps23
  go_wp2_with (go_at_call 49; refine (indexOp_c p ops _ pb hp hs ho hm).mono ?_; rintro e w1 ⟨⟨r, rfl, hr⟩, hb⟩; have HR := Lib.hid hr; clear hr)
  go_ret
  refine ⟨ret_bool ?_, hb⟩
  have := HR.out
  cases h : ops.all (opS p) <;> simp [h] at this ⊢ <;> omega

end Go.Proofs.YtoabiignjkcdmaaGreat
