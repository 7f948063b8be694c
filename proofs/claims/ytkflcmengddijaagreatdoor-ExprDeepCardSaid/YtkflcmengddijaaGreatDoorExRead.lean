/-
  expr.Read walked.
-/
import Derived.Test.YtkflcmengddijaaGreatDoorExRd8
import Derived.Deep.RegionLaw
import Derived.RegionTactic
namespace Go.Proofs.YtkflcmengddijaaGreatDoor
open Go.RowKit Lx
set_option linter.unusedVariables false
set_option linter.unusedSimpArgs false

theorem below5 {w W : World} (h : Below w.heap.size w W) (a b c d e : Value) : Below w.heap.size w (((((W.setCell ⟨w.heap.size, 0, none⟩ a).setCell ⟨w.heap.size, 1, none⟩ b).setCell ⟨w.heap.size, 2, none⟩ c).setCell ⟨w.heap.size, 3, none⟩ d).setCell ⟨w.heap.size, 4, none⟩ e) :=
  ((((h.setCell (p := ⟨w.heap.size, 0, none⟩) (Nat.le_refl _) _).setCell (p := ⟨w.heap.size, 1, none⟩) (Nat.le_refl _) _).setCell (p := ⟨w.heap.size, 2, none⟩) (Nat.le_refl _) _).setCell (p := ⟨w.heap.size, 3, none⟩) (Nat.le_refl _) _).setCell (p := ⟨w.heap.size, 4, none⟩) (Nat.le_refl _) _
theorem below_grow {w w' : World} {r : Nat} (h : w.grownBy w' (some r)) (hr : w.heap.size ≤ r) : Below w.heap.size w w' := ⟨h.os, h.tape, h.output, h.size, fun n hn => h.block n hn (fun e => by injection e with e; omega)⟩
/-- What Read answers. -/
def ReadR (w : World) (r : Ex × RS) (e : Ending) (w' : World) : Prop :=
  match r.2.err with
  | some (a, c) => e = .returned (.tuple #[.agg exZero, .int .i64 0, .iface 30 (.agg #[.int .i64 a, .int .i64 c])])
  | none => ∃ K k, e = .returned (.tuple #[.agg (exL r.1 K k).toArray, .int .i64 r.2.pos, .nilIface]) ∧ kEx.Foot (fun m => w.heap.size ≤ m) w' r.1 (exL r.1 K k)
set_option maxRecDepth 100000 in
set_option maxHeartbeats 2000000 in
theorem read_c (L : List STok) (A : Option Addr) (c : Nat) (p : Int) (w : World) (hr : kTok.Row w A L) (hl : L.length ≤ 1000000000000) (hsg : SgTab w) :
    Calls Tryz.prog 23 #[.slice A L.length c, .int .i64 p] w fun e w' => ReadR w (Rd.expr L 40 ⟨p, none⟩) e w' ∧ Below w.heap.size w w' := by
  have B0 := (Bk.new w exZero 40).alloc (.cells #[.slice A L.length c, .int .i64 p, .nilIface] 75)
  have RB := Bk.newAt (w := w.alloc (.cells exZero 40)) (n := w.heap.size + 1) #[.slice A L.length c, .int .i64 p, .nilIface] 75 (by simp)
  have hb0 := ((Below.refl w.heap.size w).alloc (Nat.le_refl _) (.cells exZero 40)).alloc (by simp) (.cells #[.slice A L.length c, .int .i64 p, .nilIface] 75)
  have R0 : Rdr L A c (w.heap.size + 1) w ((w.alloc (.cells exZero 40)).alloc (.cells #[.slice A L.length c, .int .i64 p, .nilIface] 75)) ⟨p, none⟩ := ⟨hr, hl, hb0, by omega, RB⟩
  have HE := Lib.hid (expr_c L 40 A c (w.heap.size + 1) w _ ⟨p, none⟩ 1 R0 hsg (by omega) (by omega))
  generalize Rd.expr L 40 ⟨p, none⟩ = r at HE ⊢
  obtain ⟨x, q, er⟩ := r
  have hzz : w.heap.size + 2 = ((w.alloc (.cells exZero 40)).alloc (.cells #[.slice A L.length c, .int .i64 p, .nilIface] 75)).heap.size := by simp
  have HZ := Lib.hid hzz
  clear hzz
  go_enter Tryz.func23, Tryz.ntmps23
  go_wp2_with fail
  refine HE.out.mono ?_
  rintro e w1 ⟨K, k, rfl, hf, hp⟩
  have B1 := B0.g hp (by omega)
  have hb1 : Below w.heap.size w w1 := hb0.grown hp.grow hb0.size (fun z hz => by cases hz; omega)
  cases er with
  | some er =>
    obtain ⟨xa, xc⟩ := er
    have hk : Bk w1 (w.heap.size + 1) #[.slice A L.length c, .int .i64 q, .iface 30 (.agg #[.int .i64 xa, .int .i64 xc])] 75 := hp.bk
    have C1 := B1.cell
    have F1 := B1.free
    have D1 := hk.cell
    go_upto_region 4 with (fail)
    obtain ⟨W, hW⟩ : ∃ W, W = (((((w1.setCell ⟨w.heap.size, 0, none⟩ (.int .u8 x.k)).setCell ⟨w.heap.size, 1, none⟩ (.int .u64 x.num)).setCell ⟨w.heap.size, 2, none⟩ (.string x.name)).setCell ⟨w.heap.size, 3, none⟩ (.int .u8 x.op)).setCell ⟨w.heap.size, 4, none⟩ (.slice K x.kids.length k)) := ⟨_, rfl⟩
    have BW : Bk W w.heap.size #[.int .u8 x.k, .int .u64 x.num, .string x.name, .int .u8 x.op, .slice K x.kids.length k] 40 := by rw [hW]; exact bk5 B1 (.int .u8 x.k) (.int .u64 x.num) (.string x.name) (.int .u8 x.op) (.slice K x.kids.length k)
    have kW := bk5o (n := w.heap.size) hk (by omega) (.int .u8 x.k) (.int .u64 x.num) (.string x.name) (.int .u8 x.op) (.slice K x.kids.length k)
    have gW := set5 (rb := w.heap.size + 1) (grow_below (r := some (w.heap.size + 1)) hb1) (Nat.le_refl _) (.int .u8 x.k) (.int .u64 x.num) (.string x.name) (.int .u8 x.op) (.slice K x.kids.length k)
    have hfW : kEx.Foot (fun m => w.heap.size + 1 ≤ m) W x (exL x K k) := by
      rw [hW]
      refine foot_keep (hf.weak fun m hm _ => ?_) (by simp) (fun m hm _ => ?_)
      · have := HZ.out
        show w.heap.size + 1 ≤ m
        omega
      · rw [heap_setCell_other _ _ _ _ (by show m ≠ w.heap.size; omega), heap_setCell_other _ _ _ _ (by show m ≠ w.heap.size; omega), heap_setCell_other _ _ _ _ (by show m ≠ w.heap.size; omega), heap_setCell_other _ _ _ _ (by show m ≠ w.heap.size; omega), heap_setCell_other _ _ _ _ (by show m ≠ w.heap.size; omega)]
    rw [← hW] at kW gW ⊢
    have CW := BW.cell
    have FW := BW.free
    have DW := kW.cell
    have hbW : Below w.heap.size w W := below_grow gW (by omega)
    clear hW C1 F1 D1
    go_region_law (fail)
    all_goals (go_wp2_with fail)
    all_goals
      exact bodyPost_ret (results_row3 rfl _ _ w.heap.size _ _ rfl (bk5 BW (.int .u8 0) (.int .u64 0) (.string ⟨#[]⟩) (.int .u8 0) (.slice none 0 0)).drew Tryz.underlying40 rfl (by kernel_rfl)) rfl ⟨by show _ = Ending.returned (.tuple #[.agg exZero, .int .i64 0, .iface 30 (.agg #[.int .i64 xa, .int .i64 xc])]); rfl, (below5 hbW _ _ _ _ _).drew⟩
  | none =>
    have hk : Bk w1 (w.heap.size + 1) #[.slice A L.length c, .int .i64 q, .nilIface] 75 := hp.bk
    have C1 := B1.cell
    have F1 := B1.free
    have D1 := hk.cell
    go_upto_region 5 with (fail)
    obtain ⟨W, hW⟩ : ∃ W, W = (((((w1.setCell ⟨w.heap.size, 0, none⟩ (.int .u8 x.k)).setCell ⟨w.heap.size, 1, none⟩ (.int .u64 x.num)).setCell ⟨w.heap.size, 2, none⟩ (.string x.name)).setCell ⟨w.heap.size, 3, none⟩ (.int .u8 x.op)).setCell ⟨w.heap.size, 4, none⟩ (.slice K x.kids.length k)) := ⟨_, rfl⟩
    have BW : Bk W w.heap.size #[.int .u8 x.k, .int .u64 x.num, .string x.name, .int .u8 x.op, .slice K x.kids.length k] 40 := by rw [hW]; exact bk5 B1 (.int .u8 x.k) (.int .u64 x.num) (.string x.name) (.int .u8 x.op) (.slice K x.kids.length k)
    have kW := bk5o (n := w.heap.size) hk (by omega) (.int .u8 x.k) (.int .u64 x.num) (.string x.name) (.int .u8 x.op) (.slice K x.kids.length k)
    have gW := set5 (rb := w.heap.size + 1) (grow_below (r := some (w.heap.size + 1)) hb1) (Nat.le_refl _) (.int .u8 x.k) (.int .u64 x.num) (.string x.name) (.int .u8 x.op) (.slice K x.kids.length k)
    have hfW : kEx.Foot (fun m => w.heap.size + 1 ≤ m) W x (exL x K k) := by
      rw [hW]
      refine foot_keep (hf.weak fun m hm _ => ?_) (by simp) (fun m hm _ => ?_)
      · have := HZ.out
        show w.heap.size + 1 ≤ m
        omega
      · rw [heap_setCell_other _ _ _ _ (by show m ≠ w.heap.size; omega), heap_setCell_other _ _ _ _ (by show m ≠ w.heap.size; omega), heap_setCell_other _ _ _ _ (by show m ≠ w.heap.size; omega), heap_setCell_other _ _ _ _ (by show m ≠ w.heap.size; omega), heap_setCell_other _ _ _ _ (by show m ≠ w.heap.size; omega)]
    rw [← hW] at kW gW ⊢
    have CW := BW.cell
    have FW := BW.free
    have DW := kW.cell
    have hbW : Below w.heap.size w W := below_grow gW (by omega)
    clear hW C1 F1 D1
    go_region_law (fail)
    all_goals (go_wp2_with fail)
    all_goals
      exact bodyPost_ret (results_row3 rfl _ _ w.heap.size _ _ rfl (bk5 BW (.int .u8 x.k) (.int .u64 x.num) (.string x.name) (.int .u8 x.op) (.slice K x.kids.length k)).drew Tryz.underlying40 rfl (by kernel_rfl)) rfl ⟨⟨K, k, rfl, foot_keep (foot_set (by omega) hfW) (by simp) (fun m _ _ => rfl)⟩, (below5 hbW _ _ _ _ _).drew⟩
end Go.Proofs.YtkflcmengddijaaGreatDoor
