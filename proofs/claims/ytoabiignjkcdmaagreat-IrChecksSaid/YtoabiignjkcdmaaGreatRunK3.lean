/-
  The chapter's sample; alive, walked.
-/
import Derived.Test.YtoabiignjkcdmaaGreatRunK2
namespace Go.Proofs.YtoabiignjkcdmaaGreat
open Go.RowKit
set_option linter.unusedVariables false
set_option linter.unusedSimpArgs false

def aOp : SOp := ⟨1, 0, 0, 0, 0, 7⟩
def aOq : SOp := ⟨2, 0, 0, 1, 0, 0⟩
def aIr (o : SOp) : SIr := ⟨[false, true], [], [⟨[o], 3, 0, 0, 0⟩]⟩
def aIn : SIn := ⟨[], []⟩
def aOut : SOut := ⟨3, 0, 7, [], [], 2⟩
theorem a_run : runS (aIr aOp) aIn 0 9 = (aOut, 0) := by rfl
theorem a_run2 : runS (aIr aOp) aIn 0 (-1) = (outZ, 2) := by rfl
theorem a_chk : checkN (aIr aOp) = 0 := by rfl
theorem a_chk2 : checkN (aIr aOq) = 2 := by rfl
theorem a_chk3 : checkN ⟨[], [], []⟩ = 2 := by rfl
theorem a_ok (o : SOp) (h : (0 ≤ o.imm ∧ o.imm < 18446744073709551616) ∧ 0 ≤ o.fn ∧ o.fn < 256) : RunOk (aIr o) aIn := by
  refine ⟨by simp [aIr], fun b hb => ?_, fun b hb p hp => ?_, by simp [aIn], by simp [aIn], fun b hb => by simp [aIn] at hb, fun b hb => by simp [aIn] at hb⟩
  · obtain rfl : b = ⟨[o], 3, 0, 0, 0⟩ := by simpa [aIr] using hb
    simp
  · obtain rfl : b = ⟨[o], 3, 0, 0, 0⟩ := by simpa [aIr] using hb
    obtain rfl : p = o := by simpa using hp
    exact h
theorem a_small (o : SOp) : Small (aIr o) := ⟨by simp [aIr], by simp [aIr], by simp [aIr], by simp [aIr, sumOps]⟩
theorem rowB2 {w : World} {n : Nat} {t : TypeId} (B : Bk w n #[.bool false, .bool true] t) : kBool.Row w (some ⟨n, 0, none⟩) [false, true] := by
  refine .inr ⟨n, 0, rfl, fun i hi => ⟨_, rfl, fun j hj => ?_⟩⟩
  have hj0 : j = 0 := by simpa [kBool, Kd.flat] using hj
  subst hj0
  have hi' : i = 0 ∨ i = 1 := by simp at hi; omega
  rcases hi' with rfl | rfl
  · exact B.cell 0
  · exact B.cell 1
theorem rowO1 {w : World} {n : Nat} {o : SOp} (h : ∀ j (hj : j < 6), w.cell? ⟨n, j, none⟩ = some (o.cells[j]'(by simpa [SOp.cells] using hj))) : kOp.Row w (some ⟨n, 0, none⟩) [o] := by
  refine .inr ⟨n, 0, rfl, fun i hi => ⟨_, rfl, fun j hj => ?_⟩⟩
  have hi0 : i = 0 := by simpa using hi
  subst hi0
  have hj' : j < 6 := by simpa [kOp, Kd.flat, SOp.cells] using hj
  simpa using h j hj'
theorem rowK1 {w : World} {n : Nat} {O : Option Addr} {c : Nat} {o : SOp} (hO : kOp.Row w O [o]) (h0 : w.cell? ⟨n, 0, none⟩ = some (.slice O 1 c)) (h1 : w.cell? ⟨n, 1, none⟩ = some (.int .u8 3)) (h2 : w.cell? ⟨n, 2, none⟩ = some (.int .i64 0)) (h3 : w.cell? ⟨n, 3, none⟩ = some (.int .i64 0)) (h4 : w.cell? ⟨n, 4, none⟩ = some (.int .i64 0)) :
    kBlock.Row w (some ⟨n, 0, none⟩) (aIr o).blk := by
  refine .inr ⟨n, 0, rfl, fun i hi => ?_⟩
  have hi0 : i = 0 := by simpa [aIr] using hi
  subst hi0
  refine ⟨[.slice O 1 c, .int .u8 3, .int .i64 0, .int .i64 0, .int .i64 0], ⟨O, c, rfl, by unfold maxLen; simp [aIr], hO⟩, fun j hj => ?_⟩
  have hj2 : j = 0 ∨ j = 1 ∨ j = 2 ∨ j = 3 ∨ j = 4 := by simp at hj; omega
  rcases hj2 with rfl | rfl | rfl | rfl | rfl
  · exact h0
  · exact h1
  · exact h2
  · exact h3
  · exact h4
set_option maxRecDepth 100000 in
set_option maxHeartbeats 8000000 in
theorem alive18_c (w : World) : Calls Tryz.prog 9 #[] w fun e w' => e = .returned (.bool true) ∧ Below w.heap.size w w' := by
  obtain ⟨W1, hW1⟩ : ∃ W1, W1 = (((w.alloc (.cells #[.bool false, .bool true] 4)).alloc (.cells #[.int .u8 1, .int .u8 0, .int .i64 0, .int .i64 0, .int .i64 0, .int .u64 7] 54)).alloc (.cells #[.slice (some ⟨w.heap.size + 1, 0, none⟩) 1 1, .int .u8 3, .int .i64 0, .int .i64 0, .int .i64 0] 38)).alloc (.cells #[.slice (some ⟨w.heap.size, 0, none⟩) 2 2, .slice none 0 0, .slice (some ⟨w.heap.size + 1 + 1, 0, none⟩) 1 1] 26) := ⟨_, rfl⟩
  have hb1 : Below w.heap.size w W1 := by rw [hW1]; exact ((((Below.refl w.heap.size w).alloc (Nat.le_refl _) _).alloc (by simp) _).alloc (by simp; omega) _).alloc (by simp; omega) _
  have B0 : Bk W1 w.heap.size #[.bool false, .bool true] 4 := by rw [hW1]; exact (((Bk.new w _ _).alloc _).alloc _).alloc _
  have B1 : Bk W1 (w.heap.size + 1) #[.int .u8 1, .int .u8 0, .int .i64 0, .int .i64 0, .int .i64 0, .int .u64 7] 54 := by rw [hW1]; exact ((Bk.newAt _ _ (by simp)).alloc _).alloc _
  have B2 : Bk W1 (w.heap.size + 2) #[.slice (some ⟨w.heap.size + 1, 0, none⟩) 1 1, .int .u8 3, .int .i64 0, .int .i64 0, .int .i64 0] 38 := by rw [hW1]; exact (Bk.newAt _ _ (by simp)).alloc _
  have B3 : Bk W1 (w.heap.size + 3) #[.slice (some ⟨w.heap.size, 0, none⟩) 2 2, .slice none 0 0, .slice (some ⟨w.heap.size + 2, 0, none⟩) 1 1] 26 := by rw [hW1]; exact Bk.newAt _ _ (by simp)
  have hrS : kBool.Row W1 (some ⟨w.heap.size, 0, none⟩) (aIr aOp).sec := rowB2 B0
  have hrO : kOp.Row W1 (some ⟨w.heap.size + 1, 0, none⟩) [aOp] := rowO1 fun j hj => by
    rw [B1.cell j]
    have hj' : j = 0 ∨ j = 1 ∨ j = 2 ∨ j = 3 ∨ j = 4 ∨ j = 5 := by omega
    rcases hj' with rfl | rfl | rfl | rfl | rfl | rfl <;> rfl
  have hrB : kBlock.Row W1 (some ⟨w.heap.size + 2, 0, none⟩) (aIr aOp).blk := rowK1 (c := 1) hrO (B2.cell 0) (B2.cell 1) (B2.cell 2) (B2.cell 3) (B2.cell 4)
  have hok := a_ok aOp (by decide)
  have HR : Hid (∀ w2, Below W1.heap.size W1 w2 → ∀ f : Int, Calls Tryz.prog 19 #[.agg #[.slice (some ⟨w.heap.size, 0, none⟩) 2 2, .slice none 0 0, .slice (some ⟨w.heap.size + 2, 0, none⟩) 1 1], .agg #[.slice none 0 0, .slice none 0 0], .int .i64 0, .int .i64 f] w2 (RunPost w2 (runS (aIr aOp) aIn 0 f))) :=
    Lib.hid fun w2 h2 f => run_c (aIr aOp) aIn 0 f w2 _ none _ none none 2 0 1 0 0 (hrS.mono h2) (.inl rfl) (hrB.mono h2) (.inl rfl) (.inl rfl) hok ⟨by simp [aIn], by omega⟩
  have HC : Hid (∀ w2, Below W1.heap.size W1 w2 → Calls Tryz.prog 11 #[.agg #[.slice (some ⟨w.heap.size, 0, none⟩) 2 2, .slice none 0 0, .slice (some ⟨w.heap.size + 2, 0, none⟩) 1 1]] w2 fun e w' => e = .returned (.int .i64 (checkN (aIr aOp))) ∧ Below w2.heap.size w2 w') :=
    Lib.hid fun w2 h2 => check_c (aIr aOp) _ none _ 2 0 1 w2 (hrS.mono h2) (.inl rfl) (hrB.mono h2) hok.par hok.ops
  have HCP : Hid (∀ w2, Below W1.heap.size W1 w2 → Calls Tryz.prog 10 #[.agg #[.slice (some ⟨w.heap.size, 0, none⟩) 2 2, .slice none 0 0, .slice (some ⟨w.heap.size + 2, 0, none⟩) 1 1]] w2 fun e w' => ∃ sv pv bv ovs, e = .returned (.agg #[sv, pv, bv]) ∧ Copied w2.heap.size (aIr aOp) w' sv pv bv ovs ∧ Below w2.heap.size w2 w') :=
    Lib.hid fun w2 h2 => copy_c (aIr aOp) w2 _ none _ 2 0 1 (hrS.mono h2) (.inl rfl) (hrB.mono h2) (a_small aOp)
  clear hrS hrO hrB hok B0 B1 B2
  go_enter Tryz.func9, Tryz.ntmps9
  go_upto_region 2 with (fail)
  rw [← hW1]
  clear hW1
  have C3 := B3.cell
  go_wp2_with fail
  refine (HR.out _ (Below.refl _ _) 9).mono ?_
  rw [a_run]
  rintro e w2 ⟨v, rfl, ⟨BS, bc, TS, tc, rfl, hrB, hrT, hlen⟩, hb2⟩
  have B32 := B3.mono hb2
  clear C3 B3
  go_upto_region 3 with (fail)
  obtain ⟨W2, hW2⟩ : ∃ W2, W2 = w2.alloc (.cells #[.int .u8 aOut.en, .int .i64 aOut.trap, .int .u64 aOut.ret, .slice BS aOut.bufs.length bc, .slice TS aOut.told.length tc, .int .i64 aOut.steps] 48) := ⟨_, rfl⟩
  rw [← hW2]
  have hbx : Below w2.heap.size w2 W2 := by rw [hW2]; exact (Below.refl _ _).alloc (Nat.le_refl _) _
  have BO : Bk W2 w2.heap.size #[.int .u8 aOut.en, .int .i64 aOut.trap, .int .u64 aOut.ret, .slice BS aOut.bufs.length bc, .slice TS aOut.told.length tc, .int .i64 aOut.steps] 48 := by rw [hW2]; exact Bk.new w2 _ _
  have hb12 : Below W1.heap.size W1 W2 := bt hb2 hbx
  have hO : OutAt aOut W2 (.agg #[.int .u8 aOut.en, .int .i64 aOut.trap, .int .u64 aOut.ret, .slice BS aOut.bufs.length bc, .slice TS aOut.told.length tc, .int .i64 aOut.steps]) := ⟨BS, bc, TS, tc, rfl, hrB.mono hbx, hrT.mono hbx, hlen⟩
  have B3b := B32.mono hbx
  obtain ⟨ob, hob⟩ : ∃ ob, ob = w2.heap.size := ⟨_, rfl⟩
  rw [← hob] at BO ⊢
  clear hW2 hrB hrT hb2 hbx B32 hob
  have C3 := B3b.cell
  go_wp2_with fail
  refine (HR.out _ hb12 (-1)).mono ?_
  rw [a_run2]
  rintro e w3 ⟨v, rfl, ⟨BS3, bc3, TS3, tc3, rfl, -, -, -⟩, hb3⟩
  have B33 := B3b.mono hb3
  have BO3 := BO.mono hb3
  have hO3 := hO.mono hb3
  have hb13 := bt hb12 hb3
  clear C3 B3b BO hO hb12 hb3
  go_upto_region 4 with (fail)
  obtain ⟨W3, hW3⟩ : ∃ W3, W3 = w3.alloc (.cells #[.int .u8 outZ.en, .int .i64 outZ.trap, .int .u64 outZ.ret, .slice BS3 outZ.bufs.length bc3, .slice TS3 outZ.told.length tc3, .int .i64 outZ.steps] 48) := ⟨_, rfl⟩
  rw [← hW3]
  have hbx : Below w3.heap.size w3 W3 := by rw [hW3]; exact (Below.refl _ _).alloc (Nat.le_refl _) _
  have B34 := B33.mono hbx
  have BO4 := BO3.mono hbx
  have hO4 := hO3.mono hbx
  have hb14 := bt hb13 hbx
  have hb14' := hb14
  obtain ⟨fb, hfb⟩ : ∃ fb, fb = w3.heap.size := ⟨_, rfl⟩
  rw [← hfb]
  clear hW3 hbx B33 BO3 hO3 hb13 hfb
  have C3 := B34.cell
  go_wp2_with fail
  refine (HCP.out _ hb14).mono ?_
  rintro e w5 ⟨sv, pv, bv, ovs, rfl, hcp, hb5⟩
  have B35 := B34.mono hb5
  have BO5 := BO4.mono hb5
  have hO5 := hO4.mono hb5
  have hb15 := bt hb14 hb5
  clear C3 B34 BO4 hO4 hb14
  obtain ⟨sa, sc, rfl⟩ := own_shape' hcp.rs
  obtain ⟨pa, pc, rfl⟩ := own_shape' hcp.rp
  obtain ⟨ba, bcc, rfl⟩ := own_shape' hcp.rb
  obtain ⟨ov, hov⟩ : ∃ ov, ovs = [ov] := List.length_eq_one_iff.1 hcp.l
  subst hov
  obtain ⟨gb, gc, hbe, hgb0, hgb1⟩ := hcp.rb.form (by decide)
  obtain ⟨rfl, rfl⟩ : ba = some ⟨gb, 0, none⟩ ∧ bcc = gc := by injection hbe with h1 h2 h3; exact ⟨h1, h3⟩
  clear hbe
  have hro0 := hcp.ro 0 (by decide) (by simp)
  obtain ⟨oa, oc, hoe⟩ := own_shape' hro0
  have hoe' : ov = .slice oa 1 oc := hoe
  subst hoe'
  obtain ⟨go, goc, hge, hgo0, hgo1⟩ := hro0.form (by decide)
  obtain ⟨rfl, rfl⟩ : oa = some ⟨go, 0, none⟩ ∧ oc = goc := by injection hge with h1 h2 h3; exact ⟨h1, h3⟩
  clear hge hoe
  have hro : w5.ownsRow W3.heap.size 54 6 (.slice (some ⟨go, 0, none⟩) 1 oc) 1 aOp.cells := hro0
  have hrs : w5.ownsRow W3.heap.size 4 1 (.slice sa 2 sc) 2 [.bool false, .bool true] := hcp.rs
  have hrb : w5.ownsRow W3.heap.size 38 5 (.slice (some ⟨gb, 0, none⟩) 1 bcc) 1 [.slice (some ⟨go, 0, none⟩) 1 oc, .int .u8 3, .int .i64 0, .int .i64 0, .int .i64 0] := hcp.rb
  have e1 : (aIr aOp).sec.length = 2 := rfl
  have e2 : (aIr aOp).par.length = 0 := rfl
  have e3 : (aIr aOp).blk.length = 1 := rfl
  rw [e1, e2, e3]
  clear e1 e2 e3 hcp hro0 hb5
  go_upto_region 5 with (fail)
  obtain ⟨W5, hW5⟩ : ∃ W5, W5 = w5.alloc (.cells #[.slice sa 2 sc, .slice pa 0 pc, .slice (some ⟨gb, 0, none⟩) 1 bcc] 26) := ⟨_, rfl⟩
  rw [← hW5]
  have hbx : Below w5.heap.size w5 W5 := by rw [hW5]; exact (Below.refl _ _).alloc (Nat.le_refl _) _
  have BQ : Bk W5 w5.heap.size #[.slice sa 2 sc, .slice pa 0 pc, .slice (some ⟨gb, 0, none⟩) 1 bcc] 26 := by rw [hW5]; exact Bk.new _ _ _
  have B36 := B35.mono hbx
  have BO6 := BO5.mono hbx
  have hO6 := hO5.mono hbx
  have hb16 := bt hb15 hbx
  have hro6 := own_below hro hbx
  have hrs6 := own_below hrs hbx
  have hrb6 := own_below hrb hbx
  obtain ⟨qb, hqb⟩ : ∃ qb, qb = w5.heap.size := ⟨_, rfl⟩
  rw [← hqb] at BQ ⊢
  clear hW5 hbx B35 BO5 hO5 hb15 hro hrs hrb hqb
  have CQ := BQ.cell
  have cb0 : W5.cell? ⟨gb, 0, none⟩ = some (.slice (some ⟨go, 0, none⟩) 1 oc) := World.ownsRow.cellAt hrb6 0 (by decide)
  have co0 : W5.cell? ⟨go, 0, none⟩ = some (.int .u8 1) := World.ownsRow.cellAt hro6 0 (by decide)
  have co1 : W5.cell? ⟨go, 1, none⟩ = some (.int .u8 0) := World.ownsRow.cellAt hro6 1 (by decide)
  have co2 : W5.cell? ⟨go, 2, none⟩ = some (.int .i64 0) := World.ownsRow.cellAt hro6 2 (by decide)
  have co3 : W5.cell? ⟨go, 3, none⟩ = some (.int .i64 0) := World.ownsRow.cellAt hro6 3 (by decide)
  have co4 : W5.cell? ⟨go, 4, none⟩ = some (.int .i64 0) := World.ownsRow.cellAt hro6 4 (by decide)
  have co5 : W5.cell? ⟨go, 5, none⟩ = some (.int .u64 7) := World.ownsRow.cellAt hro6 5 (by decide)
  have hfz : ∀ j, W5.frozen? ⟨go, j, none⟩ = false := fun j => World.ownsRow.frozenAt hro6 j
  go_upto_region 6 with (fail)
  obtain ⟨W6, hW6⟩ : ∃ W6, W6 = ((((((W5.setCell ⟨go, 0, none⟩ (.int .u8 2)).setCell ⟨go, 1, none⟩ (.int .u8 0)).setCell ⟨go, 2, none⟩ (.int .i64 0)).setCell ⟨go, 3, none⟩ (.int .i64 1)).setCell ⟨go, 4, none⟩ (.int .i64 0)).setCell ⟨go, 5, none⟩ (.int .u64 0)) := ⟨_, rfl⟩
  rw [← hW6]
  have hg6 : W5.grownBy W6 (some go) := by rw [hW6]; exact grown6 W5 go _ _ _ _ _ _
  have hro7 : W6.ownsRow W3.heap.size 54 6 (.slice (some ⟨go, 0, none⟩) 1 oc) 1 aOq.cells := by
    rw [hW6]
    exact ((((((hro6.stored 0 (.int .u8 2)).1.stored 1 (.int .u8 0)).1.stored 2 (.int .i64 0)).1.stored 3 (.int .i64 1)).1.stored 4 (.int .i64 0)).1.stored 5 (.int .u64 0)).1
  have hne : ∀ {n : Nat} {cs : Array Value} {t : TypeId}, Bk W5 n cs t → 54 ≠ t → some n ≠ some go := fun hk ht e => by
    injection e with e
    subst e
    exact own_not hro6 hk ht rfl
  have hrs7 := own_kept hrs6 hg6 (fun g e he => by
    cases e
    obtain ⟨cur, fz, hh⟩ := own_type hrs6 he
    exact own_not hro6 hh (by decide) rfl)
  have hrb7 := own_kept hrb6 hg6 (fun g e he => by
    cases e
    obtain ⟨cur, fz, hh⟩ := own_type hrb6 he
    exact own_not hro6 hh (by decide) rfl)
  have BQ7 := BQ.grown hg6 (hne BQ (by decide))
  have B37 := B36.grown hg6 (hne B36 (by decide))
  have BO7 := BO6.grown hg6 (hne BO6 (by decide))
  have hW3go : W1.heap.size ≤ go := Nat.le_trans hb14'.size hgo0
  have hb17 : Below W1.heap.size W1 W6 := hb16.grown hg6 hb16.size (fun k e => by cases e; exact hW3go)
  have hrS7 : kBool.Row W6 sa (aIr aOq).sec := row_of_flat (f := fun x : Bool => [.bool x]) (xs := [false, true]) hrs7 rfl
  have hrO7 : kOp.Row W6 (some ⟨go, 0, none⟩) [aOq] := row_of_flat (f := SOp.cells) (xs := [aOq]) hro7 rfl
  have hrB7 : kBlock.Row W6 (some ⟨gb, 0, none⟩) (aIr aOq).blk := rowK1 (c := oc) hrO7 (World.ownsRow.cellAt hrb7 0 (by decide)) (World.ownsRow.cellAt hrb7 1 (by decide)) (World.ownsRow.cellAt hrb7 2 (by decide)) (World.ownsRow.cellAt hrb7 3 (by decide)) (World.ownsRow.cellAt hrb7 4 (by decide))
  have hokq := a_ok aOq (by decide)
  have HC2 : Hid (∀ w2, Below W6.heap.size W6 w2 → Calls Tryz.prog 11 #[.agg #[.slice sa 2 sc, .slice pa 0 pc, .slice (some ⟨gb, 0, none⟩) 1 bcc]] w2 fun e w' => e = .returned (.int .i64 (checkN (aIr aOq))) ∧ Below w2.heap.size w2 w') :=
    Lib.hid fun w2 h2 => check_c (aIr aOq) _ pa _ sc pc bcc w2 (hrS7.mono h2) (.inl rfl) (hrB7.mono h2) hokq.par hokq.ops
  have HC3 : Hid (∀ w2, Calls Tryz.prog 11 #[.agg #[.slice none 0 0, .slice none 0 0, .slice none 0 0]] w2 fun e w' => e = .returned (.int .i64 (checkN ⟨[], [], []⟩)) ∧ Below w2.heap.size w2 w') :=
    Lib.hid fun w2 => check_c ⟨[], [], []⟩ none none none 0 0 0 w2 (.inl rfl) (.inl rfl) (.inl rfl) (by simp) (fun b hb => by simp at hb)
  have hO7 : OutAt aOut W6 (.agg #[.int .u8 aOut.en, .int .i64 aOut.trap, .int .u64 aOut.ret, .slice BS aOut.bufs.length bc, .slice TS aOut.told.length tc, .int .i64 aOut.steps]) := ⟨BS, bc, TS, tc, rfl, .inl rfl, .inl rfl, by decide, by decide⟩
  have HSO : Hid (∀ w2, Calls Tryz.prog 20 #[.agg #[.int .u8 3, .int .i64 0, .int .u64 7, .slice BS 0 bc, .slice TS 0 tc, .int .i64 2], .agg #[.int .u8 3, .int .i64 0, .int .u64 7, .slice none 0 0, .slice none 0 0, .int .i64 2]] w2 fun e w' => e = .returned (.bool true) ∧ Below w2.heap.size w2 w') :=
    Lib.hid fun w2 => sameOut_c aOut _ _ w2 ⟨BS, bc, TS, tc, rfl, .inl rfl, .inl rfl, by decide, by decide⟩ ⟨none, 0, none, 0, rfl, .inl rfl, .inl rfl, by decide, by decide⟩
  rw [a_chk] at HC
  rw [a_chk2] at HC2
  rw [a_chk3] at HC3
  have BO8 : Bk W6 ob #[.int .u8 3, .int .i64 0, .int .u64 7, .slice BS 0 bc, .slice TS 0 tc, .int .i64 2] 48 := BO7
  have hb1z := bt hb1 hb17
  clear hW6 hg6 hro7 hne hrs7 hrb7 hrS7 hrO7 hrB7 hokq hO7 BO7 hro6 hrs6 hrb6 BQ B36 BO6 hO6 CQ cb0 co0 co1 co2 co3 co4 co5 hfz HR HCP
  have C3 := B37.cell
  go_wp2_with fail
  refine (HC.out _ hb17).mono ?_
  rintro e w7 ⟨rfl, hb7⟩
  have BO9 := BO8.mono hb7
  have BQ9 := BQ7.mono hb7
  clear C3 B37 BO8 BQ7
  have CO := BO9.cell
  go_wp2_with fail
  refine (HSO.out _).mono ?_
  rintro e w8 ⟨rfl, hb8⟩
  have BQ10 := BQ9.mono hb8
  have hb78 := bt hb7 hb8
  clear CO BO9 BQ9
  have CQ := BQ10.cell
  go_wp2_with fail
  refine (HC2.out _ hb78).mono ?_
  rintro e w9 ⟨rfl, hb9⟩
  clear CQ
  go_wp2_with fail
  refine (HC3.out _).mono ?_
  rintro e w10 ⟨rfl, hb10⟩
  go_wp2_with fail
  go_ret
  exact ⟨rfl, bt (bt (bt hb1z hb78) hb9) hb10⟩
end Go.Proofs.YtoabiignjkcdmaaGreat
