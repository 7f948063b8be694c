/-
  The reader's expr, walked: two put together; all ways joined.
-/
import Derived.Test.YtkflcmengddijaaGreatDoorExRd7
namespace Go.Proofs.YtkflcmengddijaaGreatDoor
open Go.RowKit Lx
set_option linter.unusedVariables false
set_option linter.unusedSimpArgs false

theorem foot_two {F : Nat → Prop} {W : World} {nb : Nat} {y z : Ex} {K K2 : Option Addr} {k k2 : Nat} {kk num : Int} {s : ByteArray} {o : Int} (hb : Bk W nb (exL y K k ++ exL z K2 k2).toArray 40) (hF : F nb) (hy : kEx.Foot F W y (exL y K k)) (hz : kEx.Foot F W z (exL z K2 k2)) :
    kEx.Foot F W (.mk kk num s o [y, z]) (exL (.mk kk num s o [y, z]) (some ⟨nb, 0, none⟩) 2) := by
  intro w' hs hbl
  have hb' : Bk w' nb (exL y K k ++ exL z K2 k2).toArray 40 := (hbl nb hF hb.lt).trans hb
  refine kEx_iff.2 ⟨some ⟨nb, 0, none⟩, 2, rfl, (by show 2 ≤ maxLen; decide), (fun e => nomatch e), .inr ⟨nb, 0, rfl, fun i hi => ?_⟩⟩
  have hi2 : i = 0 ∨ i = 1 := by simp [Ex.kids] at hi; omega
  rcases hi2 with rfl | rfl
  · refine ⟨exL y K k, hy w' hs hbl, fun j hj => ?_⟩
    have hc := hb'.cell (0 + 0 * kEx.sz + j)
    show w'.cell? ⟨nb, 0 + 0 * kEx.sz + j, none⟩ = _
    rw [hc]
    simp only [Nat.zero_mul, Nat.zero_add, List.getElem?_toArray]
    rw [List.getElem?_append_left hj]
    exact List.getElem?_eq_getElem hj
  · refine ⟨exL z K2 k2, hz w' hs hbl, fun j hj => ?_⟩
    have hc := hb'.cell (0 + 1 * kEx.sz + j)
    show w'.cell? ⟨nb, 0 + 1 * kEx.sz + j, none⟩ = _
    rw [hc]
    simp only [List.getElem?_toArray]
    rw [List.getElem?_append_right (by show 5 ≤ 0 + 1 * 5 + j; omega)]
    have e : 0 + 1 * kEx.sz + j - (exL y K k).length = j := by show 0 + 1 * 5 + j - 5 = j; omega
    rw [e]
    exact List.getElem?_eq_getElem hj

set_option maxRecDepth 100000 in
set_option maxHeartbeats 4000000 in
theorem expr_bin (L : List STok) (n : Nat) (hI : ExprOf L n) (A : Option Addr) (c rb : Nat) (w0 w : World) (p : Int) (d : Int) (h : Rdr L A c rb w0 w ⟨p, none⟩) (hsg : SgTab w0) (hd : d + n = 40) (hd0 : 0 ≤ d) (h3 : ¬ (Rd.look L p).k = 3) (hs : Rd.signB L ⟨p, none⟩ [35] = false) (hs2 : Rd.signB L ⟨p, none⟩ [40] = true) :
    Calls Tryz.prog 46 #[.pointer (some ⟨rb, 0, none⟩), .int .i64 d] w (ExprR L A c rb w (.mk 3 0 ⟨#[]⟩ (Rd.op L (Rd.expr L n ⟨p + 1, none⟩).2).1 [(Rd.expr L n ⟨p + 1, none⟩).1, (Rd.expr L n (Rd.op L (Rd.expr L n ⟨p + 1, none⟩).2).2).1], Rd.need L (Rd.expr L n (Rd.op L (Rd.expr L n ⟨p + 1, none⟩).2).2).2 [41])) := by
  have B0 := Bk.new w exZero 40
  have R0 := h.alloc (.cells exZero 40)
  have hrb0 := h.bk.lt
  have hrb : w.heap.size ≠ rb := by omega
  have hd1 : d ≤ 40 := by omega
  have HLK := Lib.hid (look_v R0 (Rd.look L p).k ⟨(Rd.look L p).text.toArray⟩ (Rd.look L p).num (Rd.look L p).at' rfl rfl rfl rfl)
  have q3 : ((Rd.look L p).k == 3) = false := by simpa using h3
  go_enter Tryz.func46, Tryz.ntmps46
  go_wp2_with fail
  refine HLK.out.mono ?_
  rintro e w2 ⟨rfl, hb2⟩
  have R2 := (R0.keep hb2).alloc (.cells #[.int .u8 (Rd.look L p).k, .string ⟨(Rd.look L p).text.toArray⟩, .int .u64 (Rd.look L p).num, .int .i64 (Rd.look L p).at'] 50)
  have BE := (B0.mono hb2).alloc (.cells #[.int .u8 (Rd.look L p).k, .string ⟨(Rd.look L p).text.toArray⟩, .int .u64 (Rd.look L p).num, .int .i64 (Rd.look L p).at'] 50)
  have BT := Bk.new w2 #[.int .u8 (Rd.look L p).k, .string ⟨(Rd.look L p).text.toArray⟩, .int .u64 (Rd.look L p).num, .int .i64 (Rd.look L p).at'] 50
  have hg := grow_trans (grow_alloc w (.cells exZero 40) (some rb)) (grow_trans (grow_below hb2) (grow_alloc w2 (.cells #[.int .u8 (Rd.look L p).k, .string ⟨(Rd.look L p).text.toArray⟩, .int .u64 (Rd.look L p).num, .int .i64 (Rd.look L p).at'] 50) (some rb)))
  have hz2 := hb2.size
  rw [World.size_alloc] at hz2
  go_upto_region 9 with (fail)
  obtain ⟨W, hW⟩ : ∃ W, W = w2.alloc (.cells #[.int .u8 (Rd.look L p).k, .string ⟨(Rd.look L p).text.toArray⟩, .int .u64 (Rd.look L p).num, .int .i64 (Rd.look L p).at'] 50) := ⟨_, rfl⟩
  rw [← hW] at R2 BE BT hg ⊢
  have hkW : Bk W rb #[.slice A L.length c, .int .i64 p, .nilIface] 75 := R2.bk
  have CE := BE.cell
  have FE := BE.free
  have CT := BT.cell
  have CR := hkW.cell
  have FR := hkW.free
  have zE := BE.lt
  have zT := BT.lt
  have hTr : w2.heap.size ≠ rb := by omega
  clear hW
  have HS := Lib.hid (fun W (R : Rdr L A c rb w0 W ⟨p, none⟩) => sign_f (L := L) ⟨#[35]⟩ R hs)
  have HS2 := Lib.hid (fun W (R : Rdr L A c rb w0 W ⟨p, none⟩) => sign_t (L := L) ⟨#[40]⟩ R hs2)
  clear hs hs2
  go_wp2_with fail
  refine (HS.out _ R2).mono ?_
  rintro e w3 ⟨rfl, hp3⟩
  have R3 : Rdr L A c rb w0 w3 ⟨p, none⟩ := R2.next hp3
  have BE3 := BE.g hp3 hrb
  have hg3 := grow_trans hg hp3.grow
  clear CE FE CT CR FR
  go_wp2_with fail
  refine (HS2.out _ R3).mono ?_
  rintro e w4 ⟨rfl, hp4⟩
  have R4 : Rdr L A c rb w0 w4 ⟨p + 1, none⟩ := R3.next hp4
  have BE4 := BE3.g hp4 hrb
  have hg4 := grow_trans hg3 hp4.grow
  have z4 := BE4.lt
  have zr4 := R4.bk.lt
  go_wp2_with fail
  refine (hI A c rb w0 w4 _ (d + 1) R4 hsg (by omega) (by omega)).mono ?_
  rintro e w5 ⟨Ka, ka, rfl, hfa, hp5⟩
  have BE5 := (BE4.g hp5 hrb).alloc (.cells (exL (Rd.expr L n ⟨p + 1, none⟩).1 Ka ka).toArray 40)
  have BA5 := Bk.new w5 (exL (Rd.expr L n ⟨p + 1, none⟩).1 Ka ka).toArray 40
  have R5 := (R4.next hp5).alloc (.cells (exL (Rd.expr L n ⟨p + 1, none⟩).1 Ka ka).toArray 40)
  have hg5 := grow_trans (grow_trans hg4 hp5.grow) (grow_alloc w5 (.cells (exL (Rd.expr L n ⟨p + 1, none⟩).1 Ka ka).toArray 40) (some rb))
  have hfa5 := foot_keep hfa (w1 := w5.alloc (.cells (exL (Rd.expr L n ⟨p + 1, none⟩).1 Ka ka).toArray 40)) (by simp) (fun m _ hlt => Below.heap_alloc w5 _ m hlt)
  have z5 := hp5.grow.size
  go_upto_region 17 with (fail)
  obtain ⟨W5, hW5⟩ : ∃ W5, W5 = w5.alloc (.cells (exL (Rd.expr L n ⟨p + 1, none⟩).1 Ka ka).toArray 40) := ⟨_, rfl⟩
  rw [← hW5] at BE5 BA5 R5 hg5 hfa5 ⊢
  clear hW5
  go_wp2_with fail
  refine (op_c L A c rb w0 W5 _ R5 (hsg.mono R5.below)).mono ?_
  rintro e w6 ⟨rfl, hp6⟩
  have R6 := R5.next hp6
  have BE6 := BE5.g hp6 hrb
  have BA6 := BA5.g hp6 (by omega)
  have hg6 := grow_trans hg5 hp6.grow
  have hfa6 := foot_keep hfa5 hp6.grow.size (fun m hm hlt => hp6.grow.block m hlt (fun e => by injection e with e; omega))
  have z6 := hp6.grow.size
  have zA5 := BA5.lt
  go_wp2_with fail
  refine (hI A c rb w0 w6 _ (d + 1) R6 hsg (by omega) (by omega)).mono ?_
  rintro e w7 ⟨Kb, kb, rfl, hfb, hp7⟩
  have BE7 := (BE6.g hp7 hrb).alloc (.cells (exL (Rd.expr L n (Rd.op L (Rd.expr L n ⟨p + 1, none⟩).2).2).1 Kb kb).toArray 40)
  have BA7 := (BA6.g hp7 (by omega)).alloc (.cells (exL (Rd.expr L n (Rd.op L (Rd.expr L n ⟨p + 1, none⟩).2).2).1 Kb kb).toArray 40)
  have BB7 := Bk.new w7 (exL (Rd.expr L n (Rd.op L (Rd.expr L n ⟨p + 1, none⟩).2).2).1 Kb kb).toArray 40
  have R7 := (R6.next hp7).alloc (.cells (exL (Rd.expr L n (Rd.op L (Rd.expr L n ⟨p + 1, none⟩).2).2).1 Kb kb).toArray 40)
  have hg7 := grow_trans (grow_trans hg6 hp7.grow) (grow_alloc w7 (.cells (exL (Rd.expr L n (Rd.op L (Rd.expr L n ⟨p + 1, none⟩).2).2).1 Kb kb).toArray 40) (some rb))
  have hfb7 := foot_keep hfb (w1 := w7.alloc (.cells (exL (Rd.expr L n (Rd.op L (Rd.expr L n ⟨p + 1, none⟩).2).2).1 Kb kb).toArray 40)) (by simp) (fun m _ hlt => Below.heap_alloc w7 _ m hlt)
  have hfa6' := foot_keep hfa6 hp7.grow.size (fun m hm hlt => hp7.grow.block m hlt (fun e => by injection e with e; omega))
  have hfa7 := foot_keep hfa6' (w1 := w7.alloc (.cells (exL (Rd.expr L n (Rd.op L (Rd.expr L n ⟨p + 1, none⟩).2).2).1 Kb kb).toArray 40)) (by simp) (fun m _ hlt => Below.heap_alloc w7 _ m hlt)
  have z7 := hp7.grow.size
  go_upto_region 19 with (fail)
  obtain ⟨W7, hW7⟩ : ∃ W7, W7 = w7.alloc (.cells (exL (Rd.expr L n (Rd.op L (Rd.expr L n ⟨p + 1, none⟩).2).2).1 Kb kb).toArray 40) := ⟨_, rfl⟩
  rw [← hW7] at BE7 BA7 BB7 R7 hg7 hfa7 hfb7 ⊢
  clear hW7
  go_wp2_with fail
  refine (need_c L A c rb w0 W7 _ ⟨#[41]⟩ R7).mono ?_
  rintro e w8 ⟨rfl, hp8⟩
  have BE8 := BE7.g hp8 hrb
  have BA8 := BA7.g hp8 (by omega)
  have BB8 := BB7.g hp8 (by omega)
  have hg8 := grow_trans hg7 hp8.grow
  have hfa8 := foot_keep hfa7 hp8.grow.size (fun m hm hlt => hp8.grow.block m hlt (fun e => by injection e with e; omega))
  have hfb8 := foot_keep hfb7 hp8.grow.size (fun m hm hlt => hp8.grow.block m hlt (fun e => by injection e with e; omega))
  have C8 := BA8.cell
  have D8 := BB8.cell
  have E8 := BE8.cell
  have G8 := BE8.free
  have z8 := BE8.lt
  have zB8 := BB8.lt
  have zA8 := BA8.lt
  go_upto_region 21 with (fail)
  obtain ⟨W9, hW9⟩ : ∃ W9, W9 = ((((((w8.setCell ⟨w.heap.size, 0, none⟩ (.int .u8 3)).setCell ⟨w.heap.size, 1, none⟩ (.int .u64 0)).setCell ⟨w.heap.size, 2, none⟩ (.string ⟨#[]⟩)).setCell ⟨w.heap.size, 3, none⟩ (.int .u8 (Rd.op L (Rd.expr L n ⟨p + 1, none⟩).2).1)).setCell ⟨w.heap.size, 4, none⟩ (.slice (some ⟨w8.heap.size, 0, none⟩) 2 2)).alloc (.cells #[.int .u8 (Rd.expr L n ⟨p + 1, none⟩).1.k, .int .u64 (Rd.expr L n ⟨p + 1, none⟩).1.num, .string (Rd.expr L n ⟨p + 1, none⟩).1.name, .int .u8 (Rd.expr L n ⟨p + 1, none⟩).1.op, .slice Ka (Rd.expr L n ⟨p + 1, none⟩).1.kids.length ka, .int .u8 (Rd.expr L n (Rd.op L (Rd.expr L n ⟨p + 1, none⟩).2).2).1.k, .int .u64 (Rd.expr L n (Rd.op L (Rd.expr L n ⟨p + 1, none⟩).2).2).1.num, .string (Rd.expr L n (Rd.op L (Rd.expr L n ⟨p + 1, none⟩).2).2).1.name, .int .u8 (Rd.expr L n (Rd.op L (Rd.expr L n ⟨p + 1, none⟩).2).2).1.op, .slice Kb (Rd.expr L n (Rd.op L (Rd.expr L n ⟨p + 1, none⟩).2).2).1.kids.length kb] 40)) := ⟨_, rfl⟩
  have B9 : Bk W9 w.heap.size #[(.int .u8 3), (.int .u64 0), (.string ⟨#[]⟩), (.int .u8 (Rd.op L (Rd.expr L n ⟨p + 1, none⟩).2).1), (.slice (some ⟨w8.heap.size, 0, none⟩) 2 2)] 40 := by rw [hW9]; exact ((bk5 BE8 (.int .u8 3) (.int .u64 0) (.string ⟨#[]⟩) (.int .u8 (Rd.op L (Rd.expr L n ⟨p + 1, none⟩).2).1) (.slice (some ⟨w8.heap.size, 0, none⟩) 2 2)).alloc _)
  have k9 := (bk5o (n := w.heap.size) hp8.bk (Ne.symm hrb) (.int .u8 3) (.int .u64 0) (.string ⟨#[]⟩) (.int .u8 (Rd.op L (Rd.expr L n ⟨p + 1, none⟩).2).1) (.slice (some ⟨w8.heap.size, 0, none⟩) 2 2)).alloc (.cells #[.int .u8 (Rd.expr L n ⟨p + 1, none⟩).1.k, .int .u64 (Rd.expr L n ⟨p + 1, none⟩).1.num, .string (Rd.expr L n ⟨p + 1, none⟩).1.name, .int .u8 (Rd.expr L n ⟨p + 1, none⟩).1.op, .slice Ka (Rd.expr L n ⟨p + 1, none⟩).1.kids.length ka, .int .u8 (Rd.expr L n (Rd.op L (Rd.expr L n ⟨p + 1, none⟩).2).2).1.k, .int .u64 (Rd.expr L n (Rd.op L (Rd.expr L n ⟨p + 1, none⟩).2).2).1.num, .string (Rd.expr L n (Rd.op L (Rd.expr L n ⟨p + 1, none⟩).2).2).1.name, .int .u8 (Rd.expr L n (Rd.op L (Rd.expr L n ⟨p + 1, none⟩).2).2).1.op, .slice Kb (Rd.expr L n (Rd.op L (Rd.expr L n ⟨p + 1, none⟩).2).2).1.kids.length kb] 40)
  have g9 := grow_trans (set5 hg8 (Nat.le_refl _) (.int .u8 3) (.int .u64 0) (.string ⟨#[]⟩) (.int .u8 (Rd.op L (Rd.expr L n ⟨p + 1, none⟩).2).1) (.slice (some ⟨w8.heap.size, 0, none⟩) 2 2)) (grow_alloc _ (.cells #[.int .u8 (Rd.expr L n ⟨p + 1, none⟩).1.k, .int .u64 (Rd.expr L n ⟨p + 1, none⟩).1.num, .string (Rd.expr L n ⟨p + 1, none⟩).1.name, .int .u8 (Rd.expr L n ⟨p + 1, none⟩).1.op, .slice Ka (Rd.expr L n ⟨p + 1, none⟩).1.kids.length ka, .int .u8 (Rd.expr L n (Rd.op L (Rd.expr L n ⟨p + 1, none⟩).2).2).1.k, .int .u64 (Rd.expr L n (Rd.op L (Rd.expr L n ⟨p + 1, none⟩).2).2).1.num, .string (Rd.expr L n (Rd.op L (Rd.expr L n ⟨p + 1, none⟩).2).2).1.name, .int .u8 (Rd.expr L n (Rd.op L (Rd.expr L n ⟨p + 1, none⟩).2).2).1.op, .slice Kb (Rd.expr L n (Rd.op L (Rd.expr L n ⟨p + 1, none⟩).2).2).1.kids.length kb] 40) (some rb))
  rw [← hW9] at k9 g9 ⊢
  have C9 := B9.cell
  have F9 := B9.free
  have BN9 : Bk W9 w8.heap.size (exL (Rd.expr L n ⟨p + 1, none⟩).1 Ka ka ++ exL (Rd.expr L n (Rd.op L (Rd.expr L n ⟨p + 1, none⟩).2).2).1 Kb kb).toArray 40 := by rw [hW9]; exact Bk.newAt _ _ (by simp)
  have hfa9 : kEx.Foot (fun m => w4.heap.size ≤ m) W9 (Rd.expr L n ⟨p + 1, none⟩).1 (exL (Rd.expr L n ⟨p + 1, none⟩).1 Ka ka) := foot_keep hfa8 (by rw [hW9]; simp) (fun m hm hlt => by
    rw [hW9, Below.heap_alloc _ _ _ (by simpa using hlt), heap_setCell_other _ _ _ _ (by show m ≠ w.heap.size; omega), heap_setCell_other _ _ _ _ (by show m ≠ w.heap.size; omega), heap_setCell_other _ _ _ _ (by show m ≠ w.heap.size; omega), heap_setCell_other _ _ _ _ (by show m ≠ w.heap.size; omega), heap_setCell_other _ _ _ _ (by show m ≠ w.heap.size; omega)])
  have hfb9 : kEx.Foot (fun m => w6.heap.size ≤ m) W9 (Rd.expr L n (Rd.op L (Rd.expr L n ⟨p + 1, none⟩).2).2).1 (exL (Rd.expr L n (Rd.op L (Rd.expr L n ⟨p + 1, none⟩).2).2).1 Kb kb) := foot_keep hfb8 (by rw [hW9]; simp) (fun m hm hlt => by
    rw [hW9, Below.heap_alloc _ _ _ (by simpa using hlt), heap_setCell_other _ _ _ _ (by show m ≠ w.heap.size; omega), heap_setCell_other _ _ _ _ (by show m ≠ w.heap.size; omega), heap_setCell_other _ _ _ _ (by show m ≠ w.heap.size; omega), heap_setCell_other _ _ _ _ (by show m ≠ w.heap.size; omega), heap_setCell_other _ _ _ _ (by show m ≠ w.heap.size; omega)])
  clear hW9 C8 D8 E8 G8
  go_wp2_with fail
  exact bodyPost_ret (results_cell_row rfl _ _ w.heap.size 40 _ (0, 0) _ rfl (bk5 B9 (.int .u8 3) (.int .u64 0) (.string ⟨#[]⟩) (.int .u8 (Rd.op L (Rd.expr L n ⟨p + 1, none⟩).2).1) (.slice (some ⟨w8.heap.size, 0, none⟩) 2 2)) Tryz.underlying40 rfl (by kernel_rfl)) rfl ⟨_, _, rfl, foot_set (by omega) (foot_two BN9 (by show w.heap.size + 1 ≤ w8.heap.size; omega) (hfa9.weak fun m hm _ => by show w.heap.size + 1 ≤ m; omega) (hfb9.weak fun m hm _ => by show w.heap.size + 1 ≤ m; omega)), bk5o k9 (by omega) _ _ _ _ _, set5 g9 (Nat.le_refl _) _ _ _ _ _⟩

theorem expr_c (L : List STok) : ∀ n, ExprOf L n
  | 0 => expr_zero L
  | n + 1 => by
    have hI := expr_c L n
    intro A c rb w0 w s d h hsg hd hd0
    have hd' : d + n = 40 := by omega
    obtain ⟨p, x⟩ := s
    cases x with
    | some x =>
      have e : Rd.expr L (n + 1) ⟨p, some x⟩ = (Rd.exZ, ⟨p, some x⟩) := rfl
      rw [e]
      exact expr_err L n A c rb w0 w p x.1 x.2 d h hsg hd' hd0
    | none =>
      by_cases h3 : (Rd.look L p).k = 3
      · have e : Rd.expr L (n + 1) ⟨p, none⟩ = (.mk 1 (Rd.look L p).num ⟨#[]⟩ 0 [], ⟨p + 1, none⟩) := by simp [Rd.expr, h3, Rd.adv]
        rw [e]
        obtain ⟨h0, h1⟩ := Rd.look_in (L := L) (p := p) (by omega)
        exact expr_num L n A c rb w0 w p d h hsg hd' hd0 h3 h0 (by have := h.len; omega)
      · cases hs : Rd.signB L ⟨p, none⟩ [35] with
        | true =>
          have e : Rd.expr L (n + 1) ⟨p, none⟩ = (.mk 4 0 (Rd.str (Rd.name L ⟨p + 1, none⟩).1) 0 [], (Rd.name L ⟨p + 1, none⟩).2) := by simp [Rd.expr, h3, hs, Rd.adv]
          rw [e]
          exact expr_len L n A c rb w0 w p d h hsg hd' hd0 h3 hs
        | false =>
          cases hs2 : Rd.signB L ⟨p, none⟩ [40] with
          | true =>
            have e : Rd.expr L (n + 1) ⟨p, none⟩ = (.mk 3 0 ⟨#[]⟩ (Rd.op L (Rd.expr L n ⟨p + 1, none⟩).2).1 [(Rd.expr L n ⟨p + 1, none⟩).1, (Rd.expr L n (Rd.op L (Rd.expr L n ⟨p + 1, none⟩).2).2).1], Rd.need L (Rd.expr L n (Rd.op L (Rd.expr L n ⟨p + 1, none⟩).2).2).2 [41]) := by simp [Rd.expr, h3, hs, hs2, Rd.adv]
            rw [e]
            exact expr_bin L n hI A c rb w0 w p d h hsg hd' hd0 h3 hs hs2
          | false =>
            cases hs3 : Rd.signB L (Rd.name L ⟨p, none⟩).2 [91] with
            | true =>
              have e : Rd.expr L (n + 1) ⟨p, none⟩ = (.mk 5 0 (Rd.str (Rd.name L ⟨p, none⟩).1) 0 [(Rd.expr L n ⟨(Rd.name L ⟨p, none⟩).2.pos + 1, (Rd.name L ⟨p, none⟩).2.err⟩).1], Rd.need L (Rd.expr L n ⟨(Rd.name L ⟨p, none⟩).2.pos + 1, (Rd.name L ⟨p, none⟩).2.err⟩).2 [93]) := by simp [Rd.expr, h3, hs, hs2, hs3, Rd.adv]
              rw [e]
              exact expr_byte L n hI A c rb w0 w p d h hsg hd' hd0 h3 hs hs2 hs3
            | false =>
              have e : Rd.expr L (n + 1) ⟨p, none⟩ = (.mk 2 0 (Rd.str (Rd.name L ⟨p, none⟩).1) 0 [], (Rd.name L ⟨p, none⟩).2) := by simp [Rd.expr, h3, hs, hs2, hs3]
              rw [e]
              exact expr_var L n A c rb w0 w p d h hsg hd' hd0 h3 hs hs2 hs3
end Go.Proofs.YtkflcmengddijaaGreatDoor
