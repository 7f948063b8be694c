/-
  The reader's expr, walked: a name alone, or a byte.
-/
import Derived.Test.YtkflcmengddijaaGreatDoorExRd6
namespace Go.Proofs.YtkflcmengddijaaGreatDoor
open Go.RowKit Lx
set_option linter.unusedVariables false
set_option linter.unusedSimpArgs false

set_option maxRecDepth 100000 in
set_option maxHeartbeats 4000000 in
theorem expr_var (L : List STok) (n : Nat) (A : Option Addr) (c rb : Nat) (w0 w : World) (p : Int) (d : Int) (h : Rdr L A c rb w0 w ⟨p, none⟩) (hsg : SgTab w0) (hd : d + n = 40) (hd0 : 0 ≤ d) (h3 : ¬ (Rd.look L p).k = 3) (hs : Rd.signB L ⟨p, none⟩ [35] = false) (hs2 : Rd.signB L ⟨p, none⟩ [40] = false) (hs3 : Rd.signB L (Rd.name L ⟨p, none⟩).2 [91] = false) :
    Calls Tryz.prog 46 #[.pointer (some ⟨rb, 0, none⟩), .int .i64 d] w (ExprR L A c rb w (.mk 2 0 (Rd.str (Rd.name L ⟨p, none⟩).1) 0 [], (Rd.name L ⟨p, none⟩).2)) := by
  have B0 := Bk.new w exZero 40
  have R0 := h.alloc (.cells exZero 40)
  have hrb0 := h.bk.lt
  have hrb : w.heap.size ≠ rb := by omega
  have hd1 : d ≤ 40 := by omega
  have HLK := Lib.hid (look_v R0 (Rd.look L p).k ⟨(Rd.look L p).text.toArray⟩ (Rd.look L p).num (Rd.look L p).at' rfl rfl rfl rfl)
  have q3 : ((Rd.look L p).k == 3) = false := by simpa using h3
  go_enter Tryz.func46, Tryz.ntmps46
  go_wp2_with fail
  refine HLK.out.mono ?_
  rintro e w2 ⟨rfl, hb2⟩
  have R2 := (R0.keep hb2).alloc (.cells #[.int .u8 (Rd.look L p).k, .string ⟨(Rd.look L p).text.toArray⟩, .int .u64 (Rd.look L p).num, .int .i64 (Rd.look L p).at'] 50)
  have BE := (B0.mono hb2).alloc (.cells #[.int .u8 (Rd.look L p).k, .string ⟨(Rd.look L p).text.toArray⟩, .int .u64 (Rd.look L p).num, .int .i64 (Rd.look L p).at'] 50)
  have BT := Bk.new w2 #[.int .u8 (Rd.look L p).k, .string ⟨(Rd.look L p).text.toArray⟩, .int .u64 (Rd.look L p).num, .int .i64 (Rd.look L p).at'] 50
  have hg := grow_trans (grow_alloc w (.cells exZero 40) (some rb)) (grow_trans (grow_below hb2) (grow_alloc w2 (.cells #[.int .u8 (Rd.look L p).k, .string ⟨(Rd.look L p).text.toArray⟩, .int .u64 (Rd.look L p).num, .int .i64 (Rd.look L p).at'] 50) (some rb)))
  have hz2 := hb2.size
  rw [World.size_alloc] at hz2
  go_upto_region 9 with (fail)
  obtain ⟨W, hW⟩ : ∃ W, W = w2.alloc (.cells #[.int .u8 (Rd.look L p).k, .string ⟨(Rd.look L p).text.toArray⟩, .int .u64 (Rd.look L p).num, .int .i64 (Rd.look L p).at'] 50) := ⟨_, rfl⟩
  rw [← hW] at R2 BE BT hg ⊢
  have hkW : Bk W rb #[.slice A L.length c, .int .i64 p, .nilIface] 75 := R2.bk
  have CE := BE.cell
  have FE := BE.free
  have CT := BT.cell
  have CR := hkW.cell
  have FR := hkW.free
  have zE := BE.lt
  have zT := BT.lt
  have hTr : w2.heap.size ≠ rb := by omega
  clear hW
  have HS3 := Lib.hid (fun W (R : Rdr L A c rb w0 W (Rd.name L ⟨p, none⟩).2) => sign_f (L := L) ⟨#[91]⟩ R hs3)
  clear hs3
  have HS := Lib.hid (fun W (R : Rdr L A c rb w0 W ⟨p, none⟩) => sign_f (L := L) ⟨#[35]⟩ R hs)
  have HS2 := Lib.hid (fun W (R : Rdr L A c rb w0 W ⟨p, none⟩) => sign_f (L := L) ⟨#[40]⟩ R hs2)
  clear hs hs2
  go_wp2_with fail
  refine (HS.out _ R2).mono ?_
  rintro e w3 ⟨rfl, hp3⟩
  have R3 : Rdr L A c rb w0 w3 ⟨p, none⟩ := R2.next hp3
  have BE3 := BE.g hp3 hrb
  have hg3 := grow_trans hg hp3.grow
  clear CE FE CT CR FR
  go_wp2_with fail
  refine (HS2.out _ R3).mono ?_
  rintro e w3' ⟨rfl, hp3'⟩
  have R3' : Rdr L A c rb w0 w3' ⟨p, none⟩ := R3.next hp3'
  have BE3' := BE3.g hp3' hrb
  have hg3' := grow_trans hg3 hp3'.grow
  go_wp2_with fail
  refine (name_c L A c rb w0 w3' _ R3').mono ?_
  rintro e w4 ⟨rfl, hp4⟩
  have R4 := R3'.next hp4
  have BE4 := BE3'.g hp4 hrb
  have hg4 := grow_trans hg3' hp4.grow
  have CE4 := BE4.cell
  have FE4 := BE4.free
  go_upto_region 6 with (fail)
  obtain ⟨W5, hW5⟩ : ∃ W5, W5 = (((((w4.setCell ⟨w.heap.size, 0, none⟩ (.int .u8 2)).setCell ⟨w.heap.size, 1, none⟩ (.int .u64 0)).setCell ⟨w.heap.size, 2, none⟩ (.string (Rd.str (Rd.name L ⟨p, none⟩).1))).setCell ⟨w.heap.size, 3, none⟩ (.int .u8 0)).setCell ⟨w.heap.size, 4, none⟩ (.slice none 0 0)) := ⟨_, rfl⟩
  have BE5 : Bk W5 w.heap.size #[(.int .u8 2), (.int .u64 0), (.string (Rd.str (Rd.name L ⟨p, none⟩).1)), (.int .u8 0), (.slice none 0 0)] 40 := by rw [hW5]; exact bk5 BE4 (.int .u8 2) (.int .u64 0) (.string (Rd.str (Rd.name L ⟨p, none⟩).1)) (.int .u8 0) (.slice none 0 0)
  have k5 : Bk W5 rb (rdC L A c (Rd.name L ⟨p, none⟩).2) 75 := by rw [hW5]; exact bk5o (n := w.heap.size) R4.bk (Ne.symm hrb) (.int .u8 2) (.int .u64 0) (.string (Rd.str (Rd.name L ⟨p, none⟩).1)) (.int .u8 0) (.slice none 0 0)
  have hg5 : w.grownBy W5 (some rb) := by rw [hW5]; exact set5 hg4 (Nat.le_refl _) (.int .u8 2) (.int .u64 0) (.string (Rd.str (Rd.name L ⟨p, none⟩).1)) (.int .u8 0) (.slice none 0 0)
  have R5 : Rdr L A c rb w0 W5 (Rd.name L ⟨p, none⟩).2 := ⟨h.row, h.len, h.below.grown hg5 h.below.size (fun q hq => by cases hq; exact h.rb0), h.rb0, k5⟩
  rw [← hW5]
  clear hW5 CE4 FE4
  go_wp2_with fail
  refine (HS3.out _ R5).mono ?_
  rintro e w6 ⟨rfl, hp6⟩
  have BE6 := BE5.g hp6 hrb
  go_upto_region 21 with (fail)
  obtain ⟨W9, hW9⟩ : ∃ W9, W9 = w6 := ⟨_, rfl⟩
  have B9 : Bk W9 w.heap.size #[(.int .u8 2), (.int .u64 0), (.string (Rd.str (Rd.name L ⟨p, none⟩).1)), (.int .u8 0), (.slice none 0 0)] 40 := by rw [hW9]; exact BE6
  have k9 := hp6.bk
  have g9 := grow_trans hg5 hp6.grow
  rw [← hW9] at k9 g9 ⊢
  have C9 := B9.cell
  have F9 := B9.free
  clear hW9 
  go_wp2_with fail
  exact bodyPost_ret (results_cell_row rfl _ _ w.heap.size 40 _ (0, 0) _ rfl (bk5 B9 (.int .u8 2) (.int .u64 0) (.string (Rd.str (Rd.name L ⟨p, none⟩).1)) (.int .u8 0) (.slice none 0 0)) Tryz.underlying40 rfl (by kernel_rfl)) rfl ⟨_, _, rfl, foot_leaf rfl, bk5o k9 (by omega) _ _ _ _ _, set5 g9 (Nat.le_refl _) _ _ _ _ _⟩

theorem foot_set {w W : World} {x : Ex} {cs : List Value} {a b c d e : Value} (hle : w.heap.size ≤ w.heap.size) (h : kEx.Foot (fun m => w.heap.size + 1 ≤ m) W x cs) :
    kEx.Foot (fun m => w.heap.size ≤ m) (((((W.setCell ⟨w.heap.size, 0, none⟩ a).setCell ⟨w.heap.size, 1, none⟩ b).setCell ⟨w.heap.size, 2, none⟩ c).setCell ⟨w.heap.size, 3, none⟩ d).setCell ⟨w.heap.size, 4, none⟩ e) x cs :=
  (foot_keep h (by simp) (fun m hm _ => by
    rw [heap_setCell_other _ _ _ _ (by show m ≠ w.heap.size; omega), heap_setCell_other _ _ _ _ (by show m ≠ w.heap.size; omega), heap_setCell_other _ _ _ _ (by show m ≠ w.heap.size; omega), heap_setCell_other _ _ _ _ (by show m ≠ w.heap.size; omega), heap_setCell_other _ _ _ _ (by show m ≠ w.heap.size; omega)])).weak fun m hm _ => by show w.heap.size ≤ m; omega
theorem foot_one {F : Nat → Prop} {W : World} {nb : Nat} {y : Ex} {K : Option Addr} {k : Nat} {kk num : Int} {s : ByteArray} {o : Int} (hb : Bk W nb (exL y K k).toArray 40) (hF : F nb) (hy : kEx.Foot F W y (exL y K k)) :
    kEx.Foot F W (.mk kk num s o [y]) (exL (.mk kk num s o [y]) (some ⟨nb, 0, none⟩) 1) := by
  intro w' hs hbl
  have hb' : Bk w' nb (exL y K k).toArray 40 := (hbl nb hF hb.lt).trans hb
  refine kEx_iff.2 ⟨some ⟨nb, 0, none⟩, 1, rfl, (by show 1 ≤ maxLen; decide), (fun e => nomatch e), .inr ⟨nb, 0, rfl, fun i hi => ⟨exL y K k, ?_, fun j hj => ?_⟩⟩⟩
  · obtain rfl : i = 0 := by simp [Ex.kids] at hi; omega
    exact hy w' hs hbl
  · obtain rfl : i = 0 := by simp [Ex.kids] at hi; omega
    have hc := hb'.cell (0 + 0 * kEx.sz + j)
    show w'.cell? ⟨nb, 0 + 0 * kEx.sz + j, none⟩ = _
    rw [hc]
    simp only [Nat.zero_mul, Nat.zero_add, List.getElem?_toArray]
    exact List.getElem?_eq_getElem hj

set_option maxRecDepth 100000 in
set_option maxHeartbeats 4000000 in
theorem expr_byte (L : List STok) (n : Nat) (hI : ExprOf L n) (A : Option Addr) (c rb : Nat) (w0 w : World) (p : Int) (d : Int) (h : Rdr L A c rb w0 w ⟨p, none⟩) (hsg : SgTab w0) (hd : d + n = 40) (hd0 : 0 ≤ d) (h3 : ¬ (Rd.look L p).k = 3) (hs : Rd.signB L ⟨p, none⟩ [35] = false) (hs2 : Rd.signB L ⟨p, none⟩ [40] = false) (hs3 : Rd.signB L (Rd.name L ⟨p, none⟩).2 [91] = true) :
    Calls Tryz.prog 46 #[.pointer (some ⟨rb, 0, none⟩), .int .i64 d] w (ExprR L A c rb w (.mk 5 0 (Rd.str (Rd.name L ⟨p, none⟩).1) 0 [(Rd.expr L n ⟨(Rd.name L ⟨p, none⟩).2.pos + 1, (Rd.name L ⟨p, none⟩).2.err⟩).1], Rd.need L (Rd.expr L n ⟨(Rd.name L ⟨p, none⟩).2.pos + 1, (Rd.name L ⟨p, none⟩).2.err⟩).2 [93])) := by
  have B0 := Bk.new w exZero 40
  have R0 := h.alloc (.cells exZero 40)
  have hrb0 := h.bk.lt
  have hrb : w.heap.size ≠ rb := by omega
  have hd1 : d ≤ 40 := by omega
  have HLK := Lib.hid (look_v R0 (Rd.look L p).k ⟨(Rd.look L p).text.toArray⟩ (Rd.look L p).num (Rd.look L p).at' rfl rfl rfl rfl)
  have q3 : ((Rd.look L p).k == 3) = false := by simpa using h3
  go_enter Tryz.func46, Tryz.ntmps46
  go_wp2_with fail
  refine HLK.out.mono ?_
  rintro e w2 ⟨rfl, hb2⟩
  have R2 := (R0.keep hb2).alloc (.cells #[.int .u8 (Rd.look L p).k, .string ⟨(Rd.look L p).text.toArray⟩, .int .u64 (Rd.look L p).num, .int .i64 (Rd.look L p).at'] 50)
  have BE := (B0.mono hb2).alloc (.cells #[.int .u8 (Rd.look L p).k, .string ⟨(Rd.look L p).text.toArray⟩, .int .u64 (Rd.look L p).num, .int .i64 (Rd.look L p).at'] 50)
  have BT := Bk.new w2 #[.int .u8 (Rd.look L p).k, .string ⟨(Rd.look L p).text.toArray⟩, .int .u64 (Rd.look L p).num, .int .i64 (Rd.look L p).at'] 50
  have hg := grow_trans (grow_alloc w (.cells exZero 40) (some rb)) (grow_trans (grow_below hb2) (grow_alloc w2 (.cells #[.int .u8 (Rd.look L p).k, .string ⟨(Rd.look L p).text.toArray⟩, .int .u64 (Rd.look L p).num, .int .i64 (Rd.look L p).at'] 50) (some rb)))
  have hz2 := hb2.size
  rw [World.size_alloc] at hz2
  go_upto_region 9 with (fail)
  obtain ⟨W, hW⟩ : ∃ W, W = w2.alloc (.cells #[.int .u8 (Rd.look L p).k, .string ⟨(Rd.look L p).text.toArray⟩, .int .u64 (Rd.look L p).num, .int .i64 (Rd.look L p).at'] 50) := ⟨_, rfl⟩
  rw [← hW] at R2 BE BT hg ⊢
  have hkW : Bk W rb #[.slice A L.length c, .int .i64 p, .nilIface] 75 := R2.bk
  have CE := BE.cell
  have FE := BE.free
  have CT := BT.cell
  have CR := hkW.cell
  have FR := hkW.free
  have zE := BE.lt
  have zT := BT.lt
  have hTr : w2.heap.size ≠ rb := by omega
  clear hW
  have HS3 := Lib.hid (fun W (R : Rdr L A c rb w0 W (Rd.name L ⟨p, none⟩).2) => sign_t (L := L) ⟨#[91]⟩ R hs3)
  clear hs3
  have HS := Lib.hid (fun W (R : Rdr L A c rb w0 W ⟨p, none⟩) => sign_f (L := L) ⟨#[35]⟩ R hs)
  have HS2 := Lib.hid (fun W (R : Rdr L A c rb w0 W ⟨p, none⟩) => sign_f (L := L) ⟨#[40]⟩ R hs2)
  clear hs hs2
  go_wp2_with fail
  refine (HS.out _ R2).mono ?_
  rintro e w3 ⟨rfl, hp3⟩
  have R3 : Rdr L A c rb w0 w3 ⟨p, none⟩ := R2.next hp3
  have BE3 := BE.g hp3 hrb
  have hg3 := grow_trans hg hp3.grow
  clear CE FE CT CR FR
  go_wp2_with fail
  refine (HS2.out _ R3).mono ?_
  rintro e w3' ⟨rfl, hp3'⟩
  have R3' : Rdr L A c rb w0 w3' ⟨p, none⟩ := R3.next hp3'
  have BE3' := BE3.g hp3' hrb
  have hg3' := grow_trans hg3 hp3'.grow
  go_wp2_with fail
  refine (name_c L A c rb w0 w3' _ R3').mono ?_
  rintro e w4 ⟨rfl, hp4⟩
  have R4 := R3'.next hp4
  have BE4 := BE3'.g hp4 hrb
  have hg4 := grow_trans hg3' hp4.grow
  have CE4 := BE4.cell
  have FE4 := BE4.free
  go_upto_region 6 with (fail)
  obtain ⟨W5, hW5⟩ : ∃ W5, W5 = (((((w4.setCell ⟨w.heap.size, 0, none⟩ (.int .u8 2)).setCell ⟨w.heap.size, 1, none⟩ (.int .u64 0)).setCell ⟨w.heap.size, 2, none⟩ (.string (Rd.str (Rd.name L ⟨p, none⟩).1))).setCell ⟨w.heap.size, 3, none⟩ (.int .u8 0)).setCell ⟨w.heap.size, 4, none⟩ (.slice none 0 0)) := ⟨_, rfl⟩
  have BE5 : Bk W5 w.heap.size #[(.int .u8 2), (.int .u64 0), (.string (Rd.str (Rd.name L ⟨p, none⟩).1)), (.int .u8 0), (.slice none 0 0)] 40 := by rw [hW5]; exact bk5 BE4 (.int .u8 2) (.int .u64 0) (.string (Rd.str (Rd.name L ⟨p, none⟩).1)) (.int .u8 0) (.slice none 0 0)
  have k5 : Bk W5 rb (rdC L A c (Rd.name L ⟨p, none⟩).2) 75 := by rw [hW5]; exact bk5o (n := w.heap.size) R4.bk (Ne.symm hrb) (.int .u8 2) (.int .u64 0) (.string (Rd.str (Rd.name L ⟨p, none⟩).1)) (.int .u8 0) (.slice none 0 0)
  have hg5 : w.grownBy W5 (some rb) := by rw [hW5]; exact set5 hg4 (Nat.le_refl _) (.int .u8 2) (.int .u64 0) (.string (Rd.str (Rd.name L ⟨p, none⟩).1)) (.int .u8 0) (.slice none 0 0)
  have R5 : Rdr L A c rb w0 W5 (Rd.name L ⟨p, none⟩).2 := ⟨h.row, h.len, h.below.grown hg5 h.below.size (fun q hq => by cases hq; exact h.rb0), h.rb0, k5⟩
  rw [← hW5]
  clear hW5 CE4 FE4
  go_wp2_with fail
  refine (HS3.out _ R5).mono ?_
  rintro e w6 ⟨rfl, hp6⟩
  have BE6 := BE5.g hp6 hrb
  have R6 : Rdr L A c rb w0 w6 ⟨(Rd.name L ⟨p, none⟩).2.pos + 1, (Rd.name L ⟨p, none⟩).2.err⟩ := R5.next hp6
  have hg6 := grow_trans hg5 hp6.grow
  go_wp2_with fail
  refine (hI A c rb w0 w6 _ (d + 1) R6 hsg (by omega) (by omega)).mono ?_
  rintro e w7 ⟨KK, kk, rfl, hf7, hp7⟩
  have BE7 := BE6.g hp7 hrb
  have hg7 := grow_trans hg6 hp7.grow
  have R7 := R6.next hp7
  have BN7 := Bk.new w7 (exL (Rd.expr L n ⟨(Rd.name L ⟨p, none⟩).2.pos + 1, (Rd.name L ⟨p, none⟩).2.err⟩).1 KK kk).toArray 40
  have CE7 := BE7.cell
  have FE7 := BE7.free
  have zE7 := BE7.lt
  go_upto_region 8 with (fail)
  obtain ⟨W8, hW8⟩ : ∃ W8, W8 = ((w7.setCell ⟨w.heap.size, 0, none⟩ (.int .u8 5)).setCell ⟨w.heap.size, 4, none⟩ (.slice (some ⟨w7.heap.size, 0, none⟩) 1 1)).alloc (.cells (exL (Rd.expr L n ⟨(Rd.name L ⟨p, none⟩).2.pos + 1, (Rd.name L ⟨p, none⟩).2.err⟩).1 KK kk).toArray 40) := ⟨_, rfl⟩
  have BE8 : Bk W8 w.heap.size #[(.int .u8 5), (.int .u64 0), (.string (Rd.str (Rd.name L ⟨p, none⟩).1)), (.int .u8 0), (.slice (some ⟨w7.heap.size, 0, none⟩) 1 1)] 40 := by rw [hW8]; exact ((BE7.set 0 (.int .u8 5)).set 4 (.slice (some ⟨w7.heap.size, 0, none⟩) 1 1)).alloc _
  have k8 : Bk W8 rb (rdC L A c (Rd.expr L n ⟨(Rd.name L ⟨p, none⟩).2.pos + 1, (Rd.name L ⟨p, none⟩).2.err⟩).2) 75 := by rw [hW8]; exact ((R7.bk.other (a := ⟨w.heap.size, 0, none⟩) (Ne.symm hrb) _).other (a := ⟨w.heap.size, 4, none⟩) (Ne.symm hrb) _).alloc _
  have hg8 : w.grownBy W8 (some rb) := by rw [hW8]; exact grow_trans (grow_new (grow_new hg7 w.heap.size 0 _ (Nat.le_refl _)) w.heap.size 4 _ (Nat.le_refl _)) (grow_alloc ..)
  have BN8 : Bk W8 w7.heap.size (exL (Rd.expr L n ⟨(Rd.name L ⟨p, none⟩).2.pos + 1, (Rd.name L ⟨p, none⟩).2.err⟩).1 KK kk).toArray 40 := by rw [hW8]; exact Bk.newAt _ _ (by simp)
  have hf8 : kEx.Foot (fun m => w6.heap.size ≤ m) W8 (Rd.expr L n ⟨(Rd.name L ⟨p, none⟩).2.pos + 1, (Rd.name L ⟨p, none⟩).2.err⟩).1 (exL (Rd.expr L n ⟨(Rd.name L ⟨p, none⟩).2.pos + 1, (Rd.name L ⟨p, none⟩).2.err⟩).1 KK kk) := foot_keep hf7 (by rw [hW8]; simp) (fun m hm hlt => by
    have h6 := BE6.lt
    rw [hW8, Below.heap_alloc _ _ _ (by simpa using hlt), heap_setCell_other _ _ _ _ (by show m ≠ w.heap.size; omega), heap_setCell_other _ _ _ _ (by show m ≠ w.heap.size; omega)])
  have R8 : Rdr L A c rb w0 W8 (Rd.expr L n ⟨(Rd.name L ⟨p, none⟩).2.pos + 1, (Rd.name L ⟨p, none⟩).2.err⟩).2 := ⟨h.row, h.len, h.below.grown hg8 h.below.size (fun q hq => by cases hq; exact h.rb0), h.rb0, k8⟩
  rw [← hW8]
  have hs67 : w6.heap.size ≤ w7.heap.size := hp7.grow.size
  have h6 := BE6.lt
  have h8s := BN8.lt
  clear hW8 CE7 FE7 BN7 hf7
  go_wp2_with fail
  refine (need_c L A c rb w0 W8 _ ⟨#[93]⟩ R8).mono ?_
  rintro e w9 ⟨rfl, hp9⟩
  have BE9 := BE8.g hp9 hrb
  have BN9 := BN8.g hp9 (by have := R6.bk.lt; omega)
  have hf9 : kEx.Foot (fun m => w6.heap.size ≤ m) w9 (Rd.expr L n ⟨(Rd.name L ⟨p, none⟩).2.pos + 1, (Rd.name L ⟨p, none⟩).2.err⟩).1 (exL (Rd.expr L n ⟨(Rd.name L ⟨p, none⟩).2.pos + 1, (Rd.name L ⟨p, none⟩).2.err⟩).1 KK kk) := foot_keep hf8 hp9.grow.size (fun m hm hlt => hp9.grow.block m hlt (fun e => by injection e with e; have := R6.bk.lt; omega))
  go_upto_region 21 with (fail)
  obtain ⟨W9, hW9⟩ : ∃ W9, W9 = w9 := ⟨_, rfl⟩
  have BN9' : Bk W9 w7.heap.size (exL (Rd.expr L n ⟨(Rd.name L ⟨p, none⟩).2.pos + 1, (Rd.name L ⟨p, none⟩).2.err⟩).1 KK kk).toArray 40 := by rw [hW9]; exact BN9
  have hf9' : kEx.Foot (fun m => w6.heap.size ≤ m) W9 (Rd.expr L n ⟨(Rd.name L ⟨p, none⟩).2.pos + 1, (Rd.name L ⟨p, none⟩).2.err⟩).1 (exL (Rd.expr L n ⟨(Rd.name L ⟨p, none⟩).2.pos + 1, (Rd.name L ⟨p, none⟩).2.err⟩).1 KK kk) := by rw [hW9]; exact hf9
  have B9 : Bk W9 w.heap.size #[(.int .u8 5), (.int .u64 0), (.string (Rd.str (Rd.name L ⟨p, none⟩).1)), (.int .u8 0), (.slice (some ⟨w7.heap.size, 0, none⟩) 1 1)] 40 := by rw [hW9]; exact BE9
  have k9 := hp9.bk
  have g9 := grow_trans hg8 hp9.grow
  rw [← hW9] at k9 g9 ⊢
  have C9 := B9.cell
  have F9 := B9.free
  clear hW9 
  go_wp2_with fail
  exact bodyPost_ret (results_cell_row rfl _ _ w.heap.size 40 _ (0, 0) _ rfl (bk5 B9 (.int .u8 5) (.int .u64 0) (.string (Rd.str (Rd.name L ⟨p, none⟩).1)) (.int .u8 0) (.slice (some ⟨w7.heap.size, 0, none⟩) 1 1)) Tryz.underlying40 rfl (by kernel_rfl)) rfl ⟨_, _, rfl, foot_set (by omega) (foot_one BN9' (by show w.heap.size + 1 ≤ w7.heap.size; omega) (hf9'.weak fun m hm _ => by show w.heap.size + 1 ≤ m; omega)), bk5o k9 (by omega) _ _ _ _ _, set5 g9 (Nat.le_refl _) _ _ _ _ _⟩
end Go.Proofs.YtkflcmengddijaaGreatDoor
