/-
  Lemmas (texts FoldA FoldL1), each proved without a condition beyond its own hypotheses.
-/
import Derived.Test.YtoabiignjkcdmaaGreatFd40
import Derived.Test.YtoabiignjkcdmaaGreatFd43
import Derived.Test.YtoabiignjkcdmaaGreatFd38
namespace Go.Proofs.YtoabiignjkcdmaaGreat
open Go.RowKit Go.Lib Go.Shelf Go.Maps
set_option linter.unusedVariables false
set_option linter.unusedSimpArgs false

def lOps : List SOp := [⟨1, 0, 0, 0, 0, 2⟩, ⟨1, 0, 1, 0, 0, 3⟩, ⟨3, 1, 2, 0, 1, 0⟩]
def lBlk : SBlock := ⟨lOps, 3, 2, 0, 0⟩
def lIr : SIr := ⟨[false, false, false], [], [lBlk]⟩
theorem l_run : runS lIr aIn 0 9 = (⟨3, 0, 5, [], [], 4⟩, 0) := by rfl
theorem l_chk : checkS lIr = true := by rfl
theorem l_imm : ∀ b ∈ lIr.blk, ∀ o ∈ b.ops, ImmOk o := by
  intro b hb o ho
  obtain rfl : b = lBlk := by simpa [lIr] using hb
  simp [lBlk, lOps] at ho
  rcases ho with rfl | rfl | rfl <;> (unfold ImmOk; decide)
theorem l_ok : FoldOk lIr := foldOk_of (by decide) (by decide) (fun b hb => by obtain rfl : b = lBlk := (by simpa [lIr] using hb); decide) (by decide) l_imm
theorem l_rok : RunOk lIr aIn := ⟨by decide, fun b hb => by obtain rfl : b = lBlk := (by simpa [lIr] using hb); decide, l_imm, by decide, by decide, fun b hb => by simp [aIn] at hb, fun b hb => by simp [aIn] at hb⟩
theorem rowOs {w : World} {n : Nat} {t : TypeId} {l : List SOp} (B : Bk w n (opsC l).toArray t) : kOp.Row w (some ⟨n, 0, none⟩) l := by
  refine .inr ⟨n, 0, rfl, fun i hi => ⟨_, rfl, fun j hj => ?_⟩⟩
  have hj' : j < 6 := by simpa [kOp, Kd.flat, SOp.cells] using hj
  rw [show 0 + i * kOp.sz + j = i * 6 + j from by simp [kOp, Kd.flat], B.cell, List.getElem?_toArray, opsC_get l i hi j hj']
  simp [SOp.cells]
theorem rowBs {w : World} {n : Nat} {t : TypeId} {l : List Bool} (B : Bk w n (l.map Value.bool).toArray t) : kBool.Row w (some ⟨n, 0, none⟩) l := by
  refine .inr ⟨n, 0, rfl, fun i hi => ⟨_, rfl, fun j hj => ?_⟩⟩
  have hj0 : j = 0 := by simpa [kBool, Kd.flat] using hj
  subst hj0
  rw [show 0 + i * kBool.sz + 0 = i from by simp [kBool, Kd.flat], B.cell]
  simp [hi]
theorem rowK {w : World} {n c : Nat} {t : TypeId} {O : Option Addr} {b : SBlock} (hO : kOp.Row w O b.ops) (hl : b.ops.length ≤ 100000) (B : Bk w n #[.slice O b.ops.length c, .int .u8 b.e, .int .i64 b.a, .int .i64 b.go, .int .i64 b.els] t) : kBlock.Row w (some ⟨n, 0, none⟩) [b] := by
  refine .inr ⟨n, 0, rfl, fun i hi => ?_⟩
  have hi0 : i = 0 := by simpa using hi
  subst hi0
  refine ⟨[.slice O b.ops.length c, .int .u8 b.e, .int .i64 b.a, .int .i64 b.go, .int .i64 b.els], ⟨O, c, rfl, by unfold maxLen; simp; omega, hO⟩, fun j hj => ?_⟩
  have hj2 : j = 0 ∨ j = 1 ∨ j = 2 ∨ j = 3 ∨ j = 4 := by simp at hj; omega
  rcases hj2 with rfl | rfl | rfl | rfl | rfl
  · exact B.cell 0
  · exact B.cell 1
  · exact B.cell 2
  · exact B.cell 3
  · exact B.cell 4
theorem l_fold (ins : Int → Want) (hfix : FixedW (forwardP lIr).blk ins) : ∃ s, runS (foldS lIr ins) aIn 0 9 = (⟨3, 0, 5, [], [], s⟩, 0) ∧ s ≤ 4 := by
  obtain ⟨s, h1, h2⟩ := fold_runs l_chk hfix aIn 0 9 (by rw [l_run]) (by rw [l_run]; decide)
  rw [l_run] at h1 h2
  exact ⟨s, h1, h2⟩
theorem fold_blk_bare (p : SIr) (ins : Int → Want) : ∀ b ∈ (foldS p ins).blk, bareP [] b.ops = true := by
  intro b hb
  have hb' : b ∈ (p.blk.map forwardS).map (cutB ins) := hb
  obtain ⟨b1, hb1, rfl⟩ := List.mem_map.1 hb'
  obtain ⟨b2, hb2, rfl⟩ := List.mem_map.1 hb1
  exact fold_bare ins b2
theorem kinds_of {p : SIr} (hc : checkS p = true) : ∀ b ∈ p.blk, ∀ o ∈ b.ops, 1 ≤ o.k ∧ o.k ≤ 13 := by
  intro b hbm o hom
  have h1 : blockS p b = true := by
    unfold checkS at hc
    simp only [Bool.and_eq_true, List.all_eq_true] at hc
    exact hc.2 b hbm
  unfold blockS at h1
  rw [Bool.and_eq_true, List.all_eq_true] at h1
  exact (opS_parts (h1.2 o hom)).1
set_option maxRecDepth 100000 in
set_option maxHeartbeats 8000000 in
theorem alive23_c (w : World) : Calls Tryz.prog 14 #[] w fun e w' => e = .returned (.bool true) ∧ Below w.heap.size w w' := by
  have HMK := run_make_row' (P := Tryz.prog) 22 4 (.bool false) 1 Tryz.underlying22 infoBool rfl .i64 .i64 3 (by omega) (by omega)
  simp only [Int.cast_ofNat_Int] at HMK
  go_enter Tryz.func14, Tryz.ntmps14
  go_upto_region 2 with (fail)
  clear HMK
  obtain ⟨W1, hW1⟩ : ∃ W1, W1 = (((w.alloc (.cells (madeCells #[.bool false] 3) 4)).alloc (.cells (opsC lOps).toArray 54)).alloc (.cells #[.slice (some ⟨w.heap.size + 1, 0, none⟩) 3 3, .int .u8 3, .int .i64 2, .int .i64 0, .int .i64 0] 38)).alloc (.cells #[.slice (some ⟨w.heap.size, 0, none⟩) 3 3, .slice none 0 0, .slice (some ⟨w.heap.size + 1 + 1, 0, none⟩) 1 1] 26) := ⟨_, rfl⟩
  refine Eq.mp (congrArg _ hW1) ?_
  have hb1 : Below w.heap.size w W1 := by rw [hW1]; exact ((((Below.refl w.heap.size w).alloc (Nat.le_refl _) _).alloc (by simp) _).alloc (by simp; omega) _).alloc (by simp; omega) _
  have B0 : Bk W1 w.heap.size (lIr.sec.map Value.bool).toArray 4 := by rw [hW1, show (lIr.sec.map Value.bool).toArray = madeCells #[.bool false] 3 by kernel_rfl]; exact (((Bk.new w _ _).alloc _).alloc _).alloc _
  have B1 : Bk W1 (w.heap.size + 1) (opsC lOps).toArray 54 := by rw [hW1]; exact ((Bk.newAt _ _ (by simp)).alloc _).alloc _
  have B2 : Bk W1 (w.heap.size + 1 + 1) #[.slice (some ⟨w.heap.size + 1, 0, none⟩) lBlk.ops.length 3, .int .u8 lBlk.e, .int .i64 lBlk.a, .int .i64 lBlk.go, .int .i64 lBlk.els] 38 := by rw [hW1]; exact (Bk.newAt _ _ (by simp)).alloc _
  have B3 : Bk W1 (w.heap.size + 1 + 1 + 1) #[.slice (some ⟨w.heap.size, 0, none⟩) 3 3, .slice none 0 0, .slice (some ⟨w.heap.size + 1 + 1, 0, none⟩) 1 1] 26 := by rw [hW1]; exact Bk.newAt _ _ (by simp)
  have hrS : kBool.Row W1 (some ⟨w.heap.size, 0, none⟩) lIr.sec := rowBs B0
  have hrB : kBlock.Row W1 (some ⟨w.heap.size + 1 + 1, 0, none⟩) lIr.blk := rowK (b := lBlk) (rowOs B1) (by decide) B2
  have HF := Lib.hid (fold_of_c lIr _ none _ 3 0 1 W1 hrS (.inl rfl) hrB l_ok)
  clear hW1 hrS hrB B0 B1 B2
  have C3 := B3.cell
  go_upto_region 3 with (go_at_call 15; go_must (refine HF.out.mono ?_); rintro e w2 ⟨-, hp⟩; obtain ⟨ins, sv, pv, bv, vs, hfix, rfl, hcp, hb2⟩ := hp l_chk; obtain ⟨sa, pa, ba, sc, pc, bc, rfl, rfl, rfl, hq1, hq2, hq3⟩ := copied_rows hcp (fun b hb => by have := fold_opslen ins l_ok.ops b hb; unfold maxLen; omega))
  have hrun := l_fold ins hfix
  have hrok := l_rok.fold ins
  have hbare := fold_blk_bare lIr ins
  have hkin := kinds_of (checkS_fold ins l_chk)
  have hlen := foldS_len lIr ins
  have hopl := fold_opslen ins l_ok.ops
  obtain ⟨q, hq⟩ : ∃ q, foldS lIr ins = q := ⟨_, rfl⟩
  rw [hq] at hrun hrok hbare hkin hlen hopl hq1 hq2 hq3 hcp ⊢
  clear hq hcp hfix
  obtain ⟨s, hrun, hs4⟩ := hrun
  have BQ := Bk.new w2 #[.slice sa q.sec.length sc, .slice pa q.par.length pc, .slice ba q.blk.length bc] 26
  have hbx : Below w2.heap.size w2 (w2.alloc (.cells #[.slice sa q.sec.length sc, .slice pa q.par.length pc, .slice ba q.blk.length bc] 26)) := (Below.refl _ _).alloc (Nat.le_refl _) _
  generalize w2.alloc (.cells #[.slice sa q.sec.length sc, .slice pa q.par.length pc, .slice ba q.blk.length bc] 26) = w3 at BQ hbx ⊢
  obtain ⟨qb, hqb⟩ : ∃ qb, qb = w2.heap.size := ⟨_, rfl⟩
  rw [← hqb] at BQ ⊢
  have hb3 := bt hb1 (bt hb2 hbx)
  replace hq1 := hq1.mono hbx
  replace hq2 := hq2.mono hbx
  replace hq3 := hq3.mono hbx
  have HR : Hid (Calls Tryz.prog 19 #[.agg #[.slice sa q.sec.length sc, .slice pa q.par.length pc, .slice ba q.blk.length bc], .agg #[.slice none 0 0, .slice none 0 0], .int .i64 0, .int .i64 9] w3 (RunPost w3 (runS q aIn 0 9))) := Lib.hid (run_c q aIn 0 9 w3 sa pa ba none none sc pc bc 0 0 hq1 hq2 hq3 (.inl rfl) (.inl rfl) hrok ⟨by decide, by decide⟩)
  have HRUN := Lib.hid hrun
  have C4 := BQ.cell
  have HK := Lib.hid (⟨hbare, hkin, hlen, hopl⟩ : (∀ b ∈ q.blk, bareP [] b.ops = true) ∧ (∀ b ∈ q.blk, ∀ o ∈ b.ops, 1 ≤ o.k ∧ o.k ≤ 13) ∧ q.blk.length = lIr.blk.length ∧ ∀ b ∈ q.blk, b.ops.length ≤ 100000)
  clear hqb hb1 hb2 hbx B3 C3 HF hrun hq1 hq2 hbare hkin hlen hopl hrok
  go_upto_region 4 with (go_at_call 19; go_must (refine HR.out.mono ?_); rw [HRUN.out]; rintro e w4 ⟨v, rfl, ⟨BS1, bc1, TS1, tc1, rfl, hO1⟩, hb4⟩)
  have BO := Bk.new w4 #[.int .u8 3, .int .i64 0, .int .u64 5, .slice BS1 0 bc1, .slice TS1 0 tc1, .int .i64 s] 48
  have hbx : Below w4.heap.size w4 (w4.alloc (.cells #[.int .u8 3, .int .i64 0, .int .u64 5, .slice BS1 0 bc1, .slice TS1 0 tc1, .int .i64 s] 48)) := (Below.refl _ _).alloc (Nat.le_refl _) _
  generalize w4.alloc (.cells #[.int .u8 3, .int .i64 0, .int .u64 5, .slice BS1 0 bc1, .slice TS1 0 tc1, .int .i64 s] 48) = w5 at BO hbx ⊢
  obtain ⟨ob, hob⟩ : ∃ ob, ob = w4.heap.size := ⟨_, rfl⟩
  rw [← hob] at BO ⊢
  have hb35 := bt hb4 hbx
  have BQ5 := BQ.mono hb35
  have hb5 := bt hb3 hb35
  replace hq3 := hq3.mono hb35
  have HF2 : Hid (Calls Tryz.prog 15 #[.agg #[.slice none 0 0, .slice none 0 0, .slice none 0 0]] w5 (OfPost ⟨[], [], []⟩ w5)) := Lib.hid (fold_of_c ⟨[], [], []⟩ none none none 0 0 0 w5 (.inl rfl) (.inl rfl) (.inl rfl) (foldOk_of (by decide) (by decide) (fun b hb => by cases hb) (by decide) (fun b hb => by cases hb)))
  have HC0 := Lib.hid (show checkS ⟨[], [], []⟩ = false by rfl)
  clear hob hbx hb35 hb4 hb3 BQ C4 HR HRUN hO1
  go_upto_region 5 with (go_at_call 15; go_must (refine HF2.out.mono ?_); rintro e w6 ⟨hz, -⟩; obtain ⟨rfl, hb6⟩ := hz HC0.out; unfold zeroIr)
  have hbx : Below w6.heap.size w6 (w6.alloc (.cells #[.slice none 0 0, .slice none 0 0, .slice none 0 0] 26)) := (Below.refl _ _).alloc (Nat.le_refl _) _
  generalize w6.alloc (.cells #[.slice none 0 0, .slice none 0 0, .slice none 0 0] 26) = w7 at hbx ⊢
  have hb57 := bt hb6 hbx
  have BQ7 := BQ5.mono hb57
  have BO7 := BO.mono hb57
  have hb7 := bt hb5 hb57
  have hq7 := hq3.mono hb57
  obtain ⟨hbare, hkin, hlen, hopl⟩ := HK.out
  have hl1 : q.blk.length = 1 := hlen
  have h0 : 0 < q.blk.length := by omega
  obtain ⟨bb, bo, O, oc, rfl, g0, g1, g2, g3, g4, -, hO⟩ := kBlock_at hq7 0 h0
  obtain ⟨b, hbe⟩ : ∃ b, q.blk[0] = b := ⟨_, rfl⟩
  have hbm : b ∈ q.blk := by rw [← hbe]; exact List.getElem_mem h0
  rw [hbe] at g0 g1 g2 g3 g4 hO
  have HB := Lib.hid (bare_c b O oc w7 hO (hopl b hbm) (hkin b hbm))
  have HBT := Lib.hid (hbare b hbm)
  simp only [Nat.zero_mul, Nat.add_zero] at g0 g1 g2 g3 g4
  rw [hl1] at BQ7 ⊢
  have CQ := BQ7.cell
  have CO := BO7.cell
  clear hbare hkin hlen hopl hl1 h0 hbe hbm hO hq7 hq3 hbx hb57 BQ5 BO hb5 hb6 HF2 HC0 HK
  go_wp2_with (go_at_call 17; go_must (refine HB.out.mono ?_); rintro e w8 ⟨rfl, hb8⟩; rw [HBT.out]; have CO8 := (BO7.mono hb8).cell)
  go_ret
  refine ⟨?_, bt hb7 hb8⟩
  first | rfl | (show Ending.returned _ = _; simp [hs4])
end Go.Proofs.YtoabiignjkcdmaaGreat

namespace Go.Proofs.YtoabiignjkcdmaaGreat
open Go.RowKit
set_option linter.unusedVariables false
set_option linter.unusedSimpArgs false

abbrev irV (p : SIr) (S P B : Option Addr) (c1 c2 c3 : Nat) : Array Value := #[.slice S p.sec.length c1, .slice P p.par.length c2, .slice B p.blk.length c3]
abbrev inV (inp : SIn) (NA BA : Option Addr) (nc bc : Nat) : Array Value := #[.slice NA inp.nums.length nc, .slice BA inp.bufs.length bc]
abbrev outC (o : SOut) (BS TS : Option Addr) (bc tc : Nat) : Array Value := #[.int .u8 o.en, .int .i64 o.trap, .int .u64 o.ret, .slice BS o.bufs.length bc, .slice TS o.told.length tc, .int .i64 o.steps]
theorem runS_nochk {p : SIr} {inp : SIn} {arena n : Int} (h : checkS p = false) : runS p inp arena n = (outZ, 2) := by
  refine runS_no ?_
  unfold mayRun
  rw [h]
  rfl
theorem cell_set_ne {w : World} {ob i g o : Nat} (h : ¬ (g = ob ∧ o = i)) (v : Value) : (w.setCell ⟨ob, i, none⟩ v).cell? ⟨g, o, none⟩ = w.cell? ⟨g, o, none⟩ := by
  have := World.cell?_setCells_out ob [v] i w ⟨g, o, none⟩ (fun hb _ => by
    have hb' : g = ob := hb
    show o < i ∨ i + 1 ≤ o
    omega)
  exact this
/-- A row of cells is not touched by a store to a cell of another kind. -/
theorem row1_set {α : Type} {f : α → List Value} {hf : ∀ x, (f x).length = 1} {w : World} {A : Option Addr} {xs : List α} (h : (Kd.flat 1 f hf).Row w A xs) {ob i : Nat} {u : Value} (hc : w.cell? ⟨ob, i, none⟩ = some u) (hu : ∀ x, f x ≠ [u]) (v : Value) : (Kd.flat 1 f hf).Row (w.setCell ⟨ob, i, none⟩ v) A xs := by
  rcases h with h | ⟨b, o, e, h⟩
  · exact .inl h
  refine .inr ⟨b, o, e, fun k hk => ?_⟩
  obtain ⟨cs, h1, h2⟩ := h k hk
  refine ⟨cs, h1, fun j hj => ?_⟩
  rw [cell_set_ne (fun he => ?_)]
  · exact h2 j hj
  · have e1 : cs = f xs[k] := h1
    have h3 := h2 j hj
    have hl : cs.length = 1 := by rw [e1]; exact hf _
    have hj0 : j = 0 := by omega
    subst hj0
    rw [he.1, he.2, hc] at h3
    injection h3 with h3
    refine hu xs[k] ?_
    rw [← e1, h3]
    match cs, hl with
    | [c], _ => rfl
theorem foldOk_small {p : SIr} {inp : SIn} (hs : Small p) (hok : RunOk p inp) : FoldOk p :=
  foldOk_of (by have := hs.sec; omega) (by have := hs.par; omega) (fun b hb => by have := hs.each b hb; omega) (by have := hs.blk; omega) (fun b hb o ho => hok.opw b hb o ho)
set_option maxRecDepth 100000 in
set_option maxHeartbeats 16000000 in
theorem foldRuns_c (p : SIr) (inp : SIn) (arena fu : Int) (w : World) (S P B NA BA : Option Addr) (c1 c2 c3 nc bc : Nat) (hS : kBool.Row w S p.sec) (hP : kHanded.Row w P p.par) (hB : kBlock.Row w B p.blk) (hNA : kU64.Row w NA inp.nums) (hBA : kStr.Row w BA inp.bufs)
    (hm : p.sec.length ≤ 9223372036854775807 ∧ p.par.length ≤ 9223372036854775807 ∧ p.blk.length ≤ 9223372036854775807) (hok : Small p → RunOk p inp) (hops : ∀ b ∈ p.blk, b.ops.length ≤ 1000000000000000) (hn : inp.nums.length ≤ 9223372036854775807 ∧ inp.bufs.length ≤ 9223372036854775807) (hnc : inp.nums.length ≤ nc ∧ nc ≤ 9223372036854775807) (hf : 0 ≤ fu ∧ fu < 65536) :
    Calls Tryz.prog 5 #[.agg (irV p S P B c1 c2 c3), .agg (inV inp NA BA nc bc), .int .i64 arena, .int .u16 fu] w fun e w' => e = .returned (.bool true) ∧ Below w.heap.size w w' := by
  obtain ⟨W1, hW1⟩ : ∃ W1, W1 = (w.alloc (.cells (irV p S P B c1 c2 c3) 26)).alloc (.cells (inV inp NA BA nc bc) 43) := ⟨_, rfl⟩
  have hb1 : Below w.heap.size w W1 := by rw [hW1]; exact ((Below.refl w.heap.size w).alloc (Nat.le_refl _) _).alloc (by simp) _
  have BP : Bk W1 w.heap.size (irV p S P B c1 c2 c3) 26 := by rw [hW1]; exact (Bk.new w _ _).alloc _
  have BI : Bk W1 (w.heap.size + 1) (inV inp NA BA nc bc) 43 := by rw [hW1]; exact Bk.newAt _ _ (by simp)
  have HH := Lib.hid (heavy_c p inp W1 S P B NA BA c1 c2 c3 nc bc (hB.mono hb1) hm hops hn)
  obtain ⟨n, hnn⟩ : ∃ n, n = fu % 8000 := ⟨_, rfl⟩
  have hn0 : 0 ≤ n ∧ n < 8000 := by omega
  have HRQ : Hid (∀ (q : SIr) (w2 : World) (sa pa ba : Option Addr) (sc pc bk : Nat), Below w.heap.size w w2 → kBool.Row w2 sa q.sec → kHanded.Row w2 pa q.par → kBlock.Row w2 ba q.blk → RunOk q inp → Calls Tryz.prog 19 #[.agg (irV q sa pa ba sc pc bk), .agg (inV inp NA BA nc bc), .int .i64 arena, .int .i64 n] w2 (RunPost w2 (runS q inp arena n))) :=
    Lib.hid fun q w2 sa pa ba sc pc bk h2 h3 h4 h5 h6 => run_c q inp arena n w2 sa pa ba NA BA sc pc bk nc bc h3 h4 h5 (hNA.mono h2) (hBA.mono h2) h6 hnc
  have HROW := Lib.hid (⟨hS, hP, hB⟩ : kBool.Row w S p.sec ∧ kHanded.Row w P p.par ∧ kBlock.Row w B p.blk)
  have hmn : fu % 8000 = n := hnn.symm
  clear hnn hS hP hB hNA hBA
  obtain ⟨hf0, hf1⟩ := hf
  go_enter Tryz.func5, Tryz.ntmps5
  go_upto_region 1 with (fail)
  rw [← hW1]
  clear hW1
  have CP := BP.cell
  have CI := BI.cell
  go_wp2_with fail
  refine HH.out.mono ?_
  rintro e w2 ⟨r, rfl, hr, hb2⟩
  have hbw := bt hb1 hb2
  cases r with
  | true =>
    clear hr CP CI
    go_wp2_with fail
    refine (alive23_c _).mono ?_
    rintro e w3 ⟨rfl, hb3⟩
    go_wp2_with fail
    go_ret
    exact ⟨rfl, bt hbw hb3⟩
  | false =>
    have hsm := (hr rfl).1
    have hrok := hok hsm
    have hfok := foldOk_small hsm hrok
    obtain ⟨hS, hP, hB⟩ := HROW.out
    have BP2 := BP.mono hb2
    have BI2 := BI.mono hb2
    have HF := Lib.hid (fold_of_c p S P B c1 c2 c3 w2 (hS.mono hbw) (hP.mono hbw) (hB.mono hbw) hfok)
    have HRP : Hid (∀ w3, Below w.heap.size w w3 → Calls Tryz.prog 19 #[.agg (irV p S P B c1 c2 c3), .agg (inV inp NA BA nc bc), .int .i64 arena, .int .i64 n] w3 (RunPost w3 (runS p inp arena n))) := Lib.hid fun w3 h => HRQ.out p w3 S P B c1 c2 c3 h (hS.mono h) (hP.mono h) (hB.mono h) hrok
    have HOK := Lib.hid hrok
    clear hr CP CI BP BI hb2 HH hsm hS hP hB HROW hrok hfok hok hops hn hnc hm
    have CP := BP2.cell
    have CI := BI2.cell
    cases hck : checkS p with
    | false =>
      have HC := Lib.hid hck
      have hrun : runS p inp arena n = (outZ, 2) := runS_nochk hck
      have HR := Lib.hid hrun
      clear hck hrun HRQ HOK
      go_upto_region 5 with (go_at_call 15; go_must (refine HF.out.mono ?_); rintro e w3 ⟨hz, -⟩; obtain ⟨rfl, hb3⟩ := hz HC.out; unfold zeroIr)
      clear hz
      obtain ⟨W3, hW3⟩ : ∃ W3, W3 = w3.alloc (.cells #[.slice none 0 0, .slice none 0 0, .slice none 0 0] 26) := ⟨_, rfl⟩
      rw [← hW3]
      have hbx : Below w3.heap.size w3 W3 := by rw [hW3]; exact (Below.refl _ _).alloc (Nat.le_refl _) _
      have hb4 := bt hbw (bt hb3 hbx)
      have BP4 := BP2.mono (bt hb3 hbx)
      have BI4 := BI2.mono (bt hb3 hbx)
      clear hW3 hbx hb3 hbw BP2 BI2 CP CI HF HC
      have CP := BP4.cell
      have CI := BI4.cell
      go_upto_region 6 with (go_at_call 19; go_must (refine (HRP.out _ hb4).mono ?_); rw [HR.out]; rintro e w5 ⟨v, rfl, ⟨BS1, bc1, TS1, tc1, rfl, hO1⟩, hb5⟩; simp only)
      obtain ⟨W5, hW5⟩ : ∃ W5, W5 = w5.alloc (.cells (outC outZ BS1 TS1 bc1 tc1) 48) := ⟨_, rfl⟩
      rw [← hW5]
      have hbx : Below w5.heap.size w5 W5 := by rw [hW5]; exact (Below.refl _ _).alloc (Nat.le_refl _) _
      have hb6 := bt hb4 (bt hb5 hbx)
      clear hW5 hbx hb4 hb5 hO1 BP4 BI4 CP CI HRP HR
      go_wp2_with fail
      refine (alive23_c _).mono ?_
      rintro e w7 ⟨rfl, hb7⟩
      go_wp2_with fail
      go_ret
      exact ⟨rfl, bt hb6 hb7⟩
    | true =>
      have HC := Lib.hid hck
      clear hck
      go_upto_region 5 with (go_at_call 15; go_must (refine HF.out.mono ?_); rintro e w3 ⟨-, hp⟩; obtain ⟨ins, sv, pv, bv, vs, hfix, rfl, hcp, hb3⟩ := hp HC.out; obtain ⟨sa, pa, ba, sc, pc, bk, rfl, rfl, rfl, hq1, hq2, hq3⟩ := copied_rows hcp (fun b hb => by have := (HOK.out.fold ins).ops b hb; unfold maxLen; omega))
      have HLAW := Lib.hid (fold_runs HC.out hfix inp arena n)
      have HQOK := Lib.hid (HOK.out.fold ins)
      obtain ⟨q, hq⟩ : ∃ q, foldS p ins = q := ⟨_, rfl⟩
      rw [hq] at HLAW HQOK hq1 hq2 hq3 ⊢
      clear hq hcp hfix HC HF HOK
      obtain ⟨W3, hW3⟩ : ∃ W3, W3 = w3.alloc (.cells (irV q sa pa ba sc pc bk) 26) := ⟨_, rfl⟩
      rw [← hW3]
      have hbx : Below w3.heap.size w3 W3 := by rw [hW3]; exact (Below.refl _ _).alloc (Nat.le_refl _) _
      have BQ4 : Bk W3 w3.heap.size (irV q sa pa ba sc pc bk) 26 := by rw [hW3]; exact Bk.new w3 _ _
      have HQR4 := Lib.hid (⟨hq1.mono hbx, hq2.mono hbx, hq3.mono hbx⟩ : kBool.Row W3 sa q.sec ∧ kHanded.Row W3 pa q.par ∧ kBlock.Row W3 ba q.blk)
      have hb4 := bt hbw (bt hb3 hbx)
      have BP4 := BP2.mono (bt hb3 hbx)
      have BI4 := BI2.mono (bt hb3 hbx)
      obtain ⟨qb, hqb⟩ : ∃ qb, qb = w3.heap.size := ⟨_, rfl⟩
      rw [← hqb] at BQ4 ⊢
      clear hW3 hbx hb3 hbw BP2 BI2 CP CI hq1 hq2 hq3 hqb
      have CP := BP4.cell
      have CI := BI4.cell
      have CQ := BQ4.cell
      generalize hr1 : runS p inp arena n = r1 at HLAW HRP
      obtain ⟨o1, x1⟩ := r1
      clear hr1
      go_upto_region 6 with (go_at_call 19; go_must (refine (HRP.out _ hb4).mono ?_); rintro e w5 ⟨v, rfl, ⟨BS1, bc1, TS1, tc1, rfl, hO1⟩, hb5⟩; simp only at hO1 ⊢)
      obtain ⟨W5, hW5⟩ : ∃ W5, W5 = w5.alloc (.cells (outC o1 BS1 TS1 bc1 tc1) 48) := ⟨_, rfl⟩
      rw [← hW5]
      have hbx : Below w5.heap.size w5 W5 := by rw [hW5]; exact (Below.refl _ _).alloc (Nat.le_refl _) _
      have BO6 : Bk W5 w5.heap.size (outC o1 BS1 TS1 bc1 tc1) 48 := by rw [hW5]; exact Bk.new w5 _ _
      have HA6 := Lib.hid (⟨hO1.1.mono hbx, hO1.2.1.mono hbx, hO1.2.2⟩ : kStr.Row W5 BS1 o1.bufs ∧ kU64.Row W5 TS1 o1.told ∧ o1.bufs.length ≤ 9223372036854775807 ∧ o1.told.length ≤ 9223372036854775807)
      have hb6 := bt hb4 (bt hb5 hbx)
      have BI6 := BI4.mono (bt hb5 hbx)
      have BQ6 := BQ4.mono (bt hb5 hbx)
      obtain ⟨hq1, hq2, hq3⟩ := HQR4.out
      have HRUN := Lib.hid (HRQ.out q W5 sa pa ba sc pc bk hb6 (hq1.mono (bt hb5 hbx)) (hq2.mono (bt hb5 hbx)) (hq3.mono (bt hb5 hbx)) HQOK.out)
      have HOB : Hid (w.heap.size ≤ w5.heap.size) := Lib.hid (bt hb4 hb5).size
      obtain ⟨ob, hob⟩ : ∃ ob, ob = w5.heap.size := ⟨_, rfl⟩
      rw [← hob] at BO6 HOB ⊢
      clear hW5 hbx hb4 hb5 hO1 BP4 BI4 CP CI CQ HRP HRQ HQOK HQR4 hq1 hq2 hq3 BQ4 hob
      have CI := BI6.cell
      have CQ := BQ6.cell
      have CO := BO6.cell
      by_cases hx1 : x1 = 0
      · have t0 : (x1 != 0) = false := by rw [hx1]; rfl
        by_cases hen : o1.en = 0
        · have e0 : (o1.en == 0) = true := by rw [hen]; rfl
          clear hx1 hen HRUN HLAW
          go_wp2_with fail
          refine (alive23_c _).mono ?_
          rintro e w8 ⟨rfl, hb8⟩
          go_wp2_with fail
          go_ret
          exact ⟨rfl, bt hb6 hb8⟩
        · have e0 : (o1.en == 0) = false := by simpa using hen
          obtain ⟨s, hrq, hle⟩ := HLAW.out hx1 hen
          have HRE := Lib.hid hrq
          have HLE := Lib.hid hle
          clear hx1 hen hrq hle HLAW
          go_upto_region 9 with (go_at_call 19; go_must (refine HRUN.out.mono ?_); rw [HRE.out]; rintro e w7 ⟨v, rfl, ⟨BS2, bc2, TS2, tc2, rfl, hO2⟩, hb7⟩; simp only at hO2 ⊢)
          obtain ⟨W7, hW7⟩ : ∃ W7, W7 = w7.alloc (.cells (outC { o1 with steps := s } BS2 TS2 bc2 tc2) 48) := ⟨_, rfl⟩
          rw [← hW7]
          have hbx : Below w7.heap.size w7 W7 := by rw [hW7]; exact (Below.refl _ _).alloc (Nat.le_refl _) _
          have BO2 : Bk W7 w7.heap.size (outC { o1 with steps := s } BS2 TS2 bc2 tc2) 48 := by rw [hW7]; exact Bk.new w7 _ _
          have hb8 := bt hb6 (bt hb7 hbx)
          have BO8 := BO6.mono (bt hb7 hbx)
          obtain ⟨h1, h2, h3⟩ := HA6.out
          have HA8 := Lib.hid (⟨h1.mono (bt hb7 hbx), h2.mono (bt hb7 hbx), h3⟩ : kStr.Row W7 BS1 o1.bufs ∧ kU64.Row W7 TS1 o1.told ∧ o1.bufs.length ≤ 9223372036854775807 ∧ o1.told.length ≤ 9223372036854775807)
          have HB8 := Lib.hid (⟨hO2.1.mono hbx, hO2.2.1.mono hbx⟩ : kStr.Row W7 BS2 o1.bufs ∧ kU64.Row W7 TS2 o1.told)
          have hpb1 : ob < w7.heap.size := Nat.lt_of_lt_of_le BO6.lt hb7.size
          have hpb0 : w.heap.size ≤ ob := HOB.out
          obtain ⟨pb, hpb⟩ : ∃ pb, pb = w7.heap.size := ⟨_, rfl⟩
          rw [← hpb] at BO2 hpb1 ⊢
          have hpb2 : w.heap.size ≤ pb := Nat.le_trans hpb0 (Nat.le_of_lt hpb1)
          clear hpb
          clear hW7 hbx hb6 hb7 hO2 CI CQ CO HRUN HRE h1 h2 h3 HA6 BO6 BI6 BQ6 HOB
          have CO := BO8.cell
          have C2 := BO2.cell
          have FO := BO8.free
          have F2 := BO2.free
          have hle : s ≤ o1.steps := HLE.out
          have hle' : ¬ o1.steps < s := by omega
          go_upto_region 13 with (fail)
          obtain ⟨W9, hW9⟩ : ∃ W9, W9 = (W7.setCell ⟨ob, 5, none⟩ (.int .i64 0)).setCell ⟨pb, 5, none⟩ (.int .i64 0) := ⟨_, rfl⟩
          rw [← hW9]
          have BO9 : Bk W9 ob (outC { o1 with steps := 0 } BS1 TS1 bc1 tc1) 48 := by rw [hW9]; exact (BO8.set 5 _).other (Nat.ne_of_lt hpb1) _
          have BP9 : Bk W9 pb (outC { o1 with steps := 0 } BS2 TS2 bc2 tc2) 48 := by rw [hW9]; exact (BO2.other (Nat.ne_of_gt hpb1) _).set 5 _
          have hb9 : Below w.heap.size w W9 := by rw [hW9]; exact (hb8.setCell (p := ⟨ob, 5, none⟩) hpb0 _).setCell (p := ⟨pb, 5, none⟩) hpb2 _
          have cB : (W7.setCell ⟨ob, 5, none⟩ (.int .i64 0)).cell? ⟨pb, 5, none⟩ = some (.int .i64 s) := (BO2.other (Nat.ne_of_gt hpb1) _).cell 5
          obtain ⟨h1, h2, h3, h4⟩ := HA8.out
          obtain ⟨h5, h6⟩ := HB8.out
          have nS : ∀ (z : Int) (x : ByteArray), [Value.string x] ≠ [Value.int .i64 z] := fun z x e => by simp at e
          have nU : ∀ (z x : Int), [Value.int .u64 x] ≠ [Value.int .i64 z] := fun z x e => by simp at e
          have HSO := Lib.hid (sameOut_c { o1 with steps := 0 } _ _ W9
            ⟨BS1, bc1, TS1, tc1, rfl, by rw [hW9]; exact row1_set (row1_set h1 (CO 5) (nS _) _) cB (nS _) _, by rw [hW9]; exact row1_set (row1_set h2 (CO 5) (nU _) _) cB (nU _) _, h3, h4⟩
            ⟨BS2, bc2, TS2, tc2, rfl, by rw [hW9]; exact row1_set (row1_set h5 (CO 5) (nS _) _) cB (nS _) _, by rw [hW9]; exact row1_set (row1_set h6 (CO 5) (nU _) _) cB (nU _) _, h3, h4⟩)
          clear hW9 CO C2 FO F2 hle hle' h1 h2 h3 h4 h5 h6 cB HA8 HB8 BO8 BO2 hb8 hpb0 hpb1 hpb2 HLE
          have CO := BO9.cell
          have C2 := BP9.cell
          go_wp2_with (first
            | (go_at_call 20; go_must (refine HSO.out.mono ?_); rintro e w10 ⟨rfl, hb10⟩)
            | (go_at_call 14; go_must (refine (alive23_c _).mono ?_); rintro e w11 ⟨rfl, hb11⟩))
          go_ret
          exact ⟨rfl, bt (bt hb9 hb10) hb11⟩
      · have t0 : (x1 != 0) = true := by simpa using hx1
        clear hx1 HRUN HLAW
        go_wp2_with fail
        refine (alive23_c _).mono ?_
        rintro e w8 ⟨rfl, hb8⟩
        go_wp2_with fail
        go_ret
        exact ⟨rfl, bt hb6 hb8⟩
end Go.Proofs.YtoabiignjkcdmaaGreat
