/-
  The reader's expr, walked: the ways without kids.
-/
import Derived.Test.YtkflcmengddijaaGreatDoorExRd5
import Derived.Test.YtkflcmengddijaaGreatDoorExCopy
namespace Go.Proofs.YtkflcmengddijaaGreatDoor
open Go.RowKit Lx
set_option linter.unusedVariables false
set_option linter.unusedSimpArgs false

def ExprR (L : List STok) (A : Option Addr) (c rb : Nat) (w : World) (r : Ex × RS) (e : Ending) (w' : World) : Prop :=
  ∃ K k, e = .returned (.agg (exL r.1 K k).toArray) ∧ kEx.Foot (fun m => w.heap.size ≤ m) w' r.1 (exL r.1 K k) ∧ RdPost L A c rb w w' r.2
/-- What expr answers, so many levels being left. -/
def ExprOf (L : List STok) (n : Nat) : Prop := ∀ (A : Option Addr) (c rb : Nat) (w0 w : World) (s : RS) (d : Int), Rdr L A c rb w0 w s → SgTab w0 → d + n = 41 → 0 ≤ d →
  Calls Tryz.prog 46 #[.pointer (some ⟨rb, 0, none⟩), .int .i64 d] w (ExprR L A c rb w (Rd.expr L n s))
theorem foot_leaf {F : Nat → Prop} {w : World} {x : Ex} (h : x.kids = []) : kEx.Foot F w x (exL x none 0) := by
  intro w' _ _
  refine kEx_iff.2 ⟨none, 0, rfl, by rw [h]; exact Nat.zero_le _, fun _ => rfl, .inl h⟩
theorem Bk.g {w w' : World} {n : Nat} {cs : Array Value} {t : TypeId} {L : List STok} {A : Option Addr} {c rb : Nat} {s : RS} (h : Bk w n cs t) (p : RdPost L A c rb w w' s) (hn : n ≠ rb) : Bk w' n cs t := h.grown p.grow (fun e => hn (by injection e))
theorem set5 {w W : World} {n rb : Nat} (h : w.grownBy W (some rb)) (hn : w.heap.size ≤ n) (a b c d e : Value) :
    w.grownBy (((((W.setCell ⟨n, 0, none⟩ a).setCell ⟨n, 1, none⟩ b).setCell ⟨n, 2, none⟩ c).setCell ⟨n, 3, none⟩ d).setCell ⟨n, 4, none⟩ e) (some rb) :=
  grow_new (grow_new (grow_new (grow_new (grow_new h n 0 a hn) n 1 b hn) n 2 c hn) n 3 d hn) n 4 e hn
theorem bk5o {W : World} {n m : Nat} {cs : Array Value} {t : TypeId} (h : Bk W m cs t) (hn : m ≠ n) (a b c d e : Value) :
    Bk (((((W.setCell ⟨n, 0, none⟩ a).setCell ⟨n, 1, none⟩ b).setCell ⟨n, 2, none⟩ c).setCell ⟨n, 3, none⟩ d).setCell ⟨n, 4, none⟩ e) m cs t :=
  ((((h.other (a := ⟨n, 0, none⟩) hn a).other (a := ⟨n, 1, none⟩) hn b).other (a := ⟨n, 2, none⟩) hn c).other (a := ⟨n, 3, none⟩) hn d).other (a := ⟨n, 4, none⟩) hn e
theorem bk5 {W : World} {n : Nat} {x0 x1 x2 x3 x4 : Value} {t : TypeId} (h : Bk W n #[x0, x1, x2, x3, x4] t) (a b c d e : Value) :
    Bk (((((W.setCell ⟨n, 0, none⟩ a).setCell ⟨n, 1, none⟩ b).setCell ⟨n, 2, none⟩ c).setCell ⟨n, 3, none⟩ d).setCell ⟨n, 4, none⟩ e) n #[a, b, c, d, e] t :=
  ((((h.set 0 a).set 1 b).set 2 c).set 3 d).set 4 e
/-- A footprint stands while its blocks do. -/
theorem foot_keep {F : Nat → Prop} {w w1 : World} {x : Ex} {cs : List Value} (h : kEx.Foot F w x cs) (hs : w.heap.size ≤ w1.heap.size) (hb : ∀ n, F n → n < w.heap.size → w1.heap[n]? = w.heap[n]?) : kEx.Foot F w1 x cs :=
  (h.later hs hb).weak fun n hn _ => hn.1
theorem sign_t {L : List STok} {A : Option Addr} {c rb : Nat} {w0 w : World} {s : RS} (t : ByteArray) (h : Rdr L A c rb w0 w s) (hb : Rd.signB L s t.data.toList = true) :
    Calls Tryz.prog 69 #[.pointer (some ⟨rb, 0, none⟩), .string t] w (RdR L A c rb w (.bool true) (Rd.adv s)) := by
  have := rSign_any L A c rb w0 w s t h
  rw [hb] at this
  exact this
theorem sign_f {L : List STok} {A : Option Addr} {c rb : Nat} {w0 w : World} {s : RS} (t : ByteArray) (h : Rdr L A c rb w0 w s) (hb : Rd.signB L s t.data.toList = false) :
    Calls Tryz.prog 69 #[.pointer (some ⟨rb, 0, none⟩), .string t] w (RdR L A c rb w (.bool false) s) := by
  have := rSign_any L A c rb w0 w s t h
  rw [hb] at this
  exact this

set_option maxRecDepth 100000 in
set_option maxHeartbeats 4000000 in
theorem expr_err (L : List STok) (n : Nat) (A : Option Addr) (c rb : Nat) (w0 w : World) (p xa xc : Int) (d : Int) (h : Rdr L A c rb w0 w ⟨p, some (xa, xc)⟩) (hsg : SgTab w0) (hd : d + n = 40) (hd0 : 0 ≤ d) :
    Calls Tryz.prog 46 #[.pointer (some ⟨rb, 0, none⟩), .int .i64 d] w (ExprR L A c rb w (Rd.exZ, ⟨p, some (xa, xc)⟩)) := by
  have B0 := Bk.new w exZero 40
  have R0 := h.alloc (.cells exZero 40)
  have hrb0 := h.bk.lt
  have hrb : w.heap.size ≠ rb := by omega
  have hd1 : d ≤ 40 := by omega
  have HLK := Lib.hid (look_v R0 (Rd.look L p).k ⟨(Rd.look L p).text.toArray⟩ (Rd.look L p).num (Rd.look L p).at' rfl rfl rfl rfl)
  go_enter Tryz.func46, Tryz.ntmps46
  go_wp2_with fail
  refine HLK.out.mono ?_
  rintro e w2 ⟨rfl, hb2⟩
  have R2 := (R0.keep hb2).alloc (.cells #[.int .u8 (Rd.look L p).k, .string ⟨(Rd.look L p).text.toArray⟩, .int .u64 (Rd.look L p).num, .int .i64 (Rd.look L p).at'] 50)
  have BE := (B0.mono hb2).alloc (.cells #[.int .u8 (Rd.look L p).k, .string ⟨(Rd.look L p).text.toArray⟩, .int .u64 (Rd.look L p).num, .int .i64 (Rd.look L p).at'] 50)
  have BT := Bk.new w2 #[.int .u8 (Rd.look L p).k, .string ⟨(Rd.look L p).text.toArray⟩, .int .u64 (Rd.look L p).num, .int .i64 (Rd.look L p).at'] 50
  have hg := grow_trans (grow_alloc w (.cells exZero 40) (some rb)) (grow_trans (grow_below hb2) (grow_alloc w2 (.cells #[.int .u8 (Rd.look L p).k, .string ⟨(Rd.look L p).text.toArray⟩, .int .u64 (Rd.look L p).num, .int .i64 (Rd.look L p).at'] 50) (some rb)))
  have hz2 := hb2.size
  rw [World.size_alloc] at hz2
  go_upto_region 9 with (fail)
  obtain ⟨W, hW⟩ : ∃ W, W = w2.alloc (.cells #[.int .u8 (Rd.look L p).k, .string ⟨(Rd.look L p).text.toArray⟩, .int .u64 (Rd.look L p).num, .int .i64 (Rd.look L p).at'] 50) := ⟨_, rfl⟩
  rw [← hW] at R2 BE BT hg ⊢
  have hkW : Bk W rb #[.slice A L.length c, .int .i64 p, .iface 30 (.agg #[.int .i64 xa, .int .i64 xc])] 75 := R2.bk
  have CE := BE.cell
  have FE := BE.free
  have CT := BT.cell
  have CR := hkW.cell
  have FR := hkW.free
  have zE := BE.lt
  have zT := BT.lt
  have hTr : w2.heap.size ≠ rb := by omega
  clear hW
  go_upto_region 21 with (fail)
  obtain ⟨W9, hW9⟩ : ∃ W9, W9 = W := ⟨_, rfl⟩
  have B9 : Bk W9 w.heap.size #[(.int .u8 0), (.int .u64 0), (.string ⟨#[]⟩), (.int .u8 0), (.slice none 0 0)] 40 := by rw [hW9]; exact BE
  have k9 := hkW
  have g9 := hg
  rw [← hW9] at k9 g9 ⊢
  have C9 := B9.cell
  have F9 := B9.free
  clear hW9 CE FE CT CR FR
  go_wp2_with fail
  exact bodyPost_ret (results_cell_row rfl _ _ w.heap.size 40 _ (0, 0) _ rfl (bk5 B9 (.int .u8 0) (.int .u64 0) (.string ⟨#[]⟩) (.int .u8 0) (.slice none 0 0)) Tryz.underlying40 rfl (by kernel_rfl)) rfl ⟨_, _, rfl, foot_leaf rfl, bk5o k9 (by omega) _ _ _ _ _, set5 g9 (Nat.le_refl _) _ _ _ _ _⟩

set_option maxRecDepth 100000 in
set_option maxHeartbeats 4000000 in
theorem expr_num (L : List STok) (n : Nat) (A : Option Addr) (c rb : Nat) (w0 w : World) (p : Int) (d : Int) (h : Rdr L A c rb w0 w ⟨p, none⟩) (hsg : SgTab w0) (hd : d + n = 40) (hd0 : 0 ≤ d) (h3 : (Rd.look L p).k = 3) (h0 : 0 ≤ p) (h1 : p < 1000000000000) :
    Calls Tryz.prog 46 #[.pointer (some ⟨rb, 0, none⟩), .int .i64 d] w (ExprR L A c rb w (.mk 1 (Rd.look L p).num ⟨#[]⟩ 0 [], ⟨p + 1, none⟩)) := by
  have B0 := Bk.new w exZero 40
  have R0 := h.alloc (.cells exZero 40)
  have hrb0 := h.bk.lt
  have hrb : w.heap.size ≠ rb := by omega
  have hd1 : d ≤ 40 := by omega
  have HLK := Lib.hid (look_v R0 3 ⟨(Rd.look L p).text.toArray⟩ (Rd.look L p).num (Rd.look L p).at' h3 rfl rfl rfl)
  clear h3
  go_enter Tryz.func46, Tryz.ntmps46
  go_wp2_with fail
  refine HLK.out.mono ?_
  rintro e w2 ⟨rfl, hb2⟩
  have R2 := (R0.keep hb2).alloc (.cells #[.int .u8 3, .string ⟨(Rd.look L p).text.toArray⟩, .int .u64 (Rd.look L p).num, .int .i64 (Rd.look L p).at'] 50)
  have BE := (B0.mono hb2).alloc (.cells #[.int .u8 3, .string ⟨(Rd.look L p).text.toArray⟩, .int .u64 (Rd.look L p).num, .int .i64 (Rd.look L p).at'] 50)
  have BT := Bk.new w2 #[.int .u8 3, .string ⟨(Rd.look L p).text.toArray⟩, .int .u64 (Rd.look L p).num, .int .i64 (Rd.look L p).at'] 50
  have hg := grow_trans (grow_alloc w (.cells exZero 40) (some rb)) (grow_trans (grow_below hb2) (grow_alloc w2 (.cells #[.int .u8 3, .string ⟨(Rd.look L p).text.toArray⟩, .int .u64 (Rd.look L p).num, .int .i64 (Rd.look L p).at'] 50) (some rb)))
  have hz2 := hb2.size
  rw [World.size_alloc] at hz2
  go_upto_region 9 with (fail)
  obtain ⟨W, hW⟩ : ∃ W, W = w2.alloc (.cells #[.int .u8 3, .string ⟨(Rd.look L p).text.toArray⟩, .int .u64 (Rd.look L p).num, .int .i64 (Rd.look L p).at'] 50) := ⟨_, rfl⟩
  rw [← hW] at R2 BE BT hg ⊢
  have hkW : Bk W rb #[.slice A L.length c, .int .i64 p, .nilIface] 75 := R2.bk
  have CE := BE.cell
  have FE := BE.free
  have CT := BT.cell
  have CR := hkW.cell
  have FR := hkW.free
  have zE := BE.lt
  have zT := BT.lt
  have hTr : w2.heap.size ≠ rb := by omega
  clear hW
  go_upto_region 21 with (fail)
  obtain ⟨W9, hW9⟩ : ∃ W9, W9 = ((((((W.setCell ⟨rb, 1, none⟩ (.int .i64 (p + 1))).setCell ⟨w.heap.size, 0, none⟩ (.int .u8 1)).setCell ⟨w.heap.size, 1, none⟩ (.int .u64 (Rd.look L p).num)).setCell ⟨w.heap.size, 2, none⟩ (.string ⟨#[]⟩)).setCell ⟨w.heap.size, 3, none⟩ (.int .u8 0)).setCell ⟨w.heap.size, 4, none⟩ (.slice none 0 0)) := ⟨_, rfl⟩
  have B9 : Bk W9 w.heap.size #[(.int .u8 1), (.int .u64 (Rd.look L p).num), (.string ⟨#[]⟩), (.int .u8 0), (.slice none 0 0)] 40 := by rw [hW9]; exact bk5 (BE.other (a := ⟨rb, 1, none⟩) hrb (.int .i64 (p + 1))) (.int .u8 1) (.int .u64 (Rd.look L p).num) (.string ⟨#[]⟩) (.int .u8 0) (.slice none 0 0)
  have k9 := bk5o (n := w.heap.size) (hkW.set 1 (.int .i64 (p + 1))) (Ne.symm hrb) (.int .u8 1) (.int .u64 (Rd.look L p).num) (.string ⟨#[]⟩) (.int .u8 0) (.slice none 0 0)
  have g9 := set5 (grow_trans hg (grow_set W rb 1 (.int .i64 (p + 1)))) (Nat.le_refl _) (.int .u8 1) (.int .u64 (Rd.look L p).num) (.string ⟨#[]⟩) (.int .u8 0) (.slice none 0 0)
  rw [← hW9] at k9 g9 ⊢
  have C9 := B9.cell
  have F9 := B9.free
  clear hW9 CE FE CT CR FR
  go_wp2_with fail
  exact bodyPost_ret (results_cell_row rfl _ _ w.heap.size 40 _ (0, 0) _ rfl (bk5 B9 (.int .u8 1) (.int .u64 (Rd.look L p).num) (.string ⟨#[]⟩) (.int .u8 0) (.slice none 0 0)) Tryz.underlying40 rfl (by kernel_rfl)) rfl ⟨_, _, rfl, foot_leaf rfl, bk5o k9 (by omega) _ _ _ _ _, set5 g9 (Nat.le_refl _) _ _ _ _ _⟩

set_option maxRecDepth 100000 in
set_option maxHeartbeats 4000000 in
theorem expr_len (L : List STok) (n : Nat) (A : Option Addr) (c rb : Nat) (w0 w : World) (p : Int) (d : Int) (h : Rdr L A c rb w0 w ⟨p, none⟩) (hsg : SgTab w0) (hd : d + n = 40) (hd0 : 0 ≤ d) (h3 : ¬ (Rd.look L p).k = 3) (hs : Rd.signB L ⟨p, none⟩ [35] = true) :
    Calls Tryz.prog 46 #[.pointer (some ⟨rb, 0, none⟩), .int .i64 d] w (ExprR L A c rb w (.mk 4 0 (Rd.str (Rd.name L ⟨p + 1, none⟩).1) 0 [], (Rd.name L ⟨p + 1, none⟩).2)) := by
  have B0 := Bk.new w exZero 40
  have R0 := h.alloc (.cells exZero 40)
  have hrb0 := h.bk.lt
  have hrb : w.heap.size ≠ rb := by omega
  have hd1 : d ≤ 40 := by omega
  have HLK := Lib.hid (look_v R0 (Rd.look L p).k ⟨(Rd.look L p).text.toArray⟩ (Rd.look L p).num (Rd.look L p).at' rfl rfl rfl rfl)
  have q3 : ((Rd.look L p).k == 3) = false := by simpa using h3
  go_enter Tryz.func46, Tryz.ntmps46
  go_wp2_with fail
  refine HLK.out.mono ?_
  rintro e w2 ⟨rfl, hb2⟩
  have R2 := (R0.keep hb2).alloc (.cells #[.int .u8 (Rd.look L p).k, .string ⟨(Rd.look L p).text.toArray⟩, .int .u64 (Rd.look L p).num, .int .i64 (Rd.look L p).at'] 50)
  have BE := (B0.mono hb2).alloc (.cells #[.int .u8 (Rd.look L p).k, .string ⟨(Rd.look L p).text.toArray⟩, .int .u64 (Rd.look L p).num, .int .i64 (Rd.look L p).at'] 50)
  have BT := Bk.new w2 #[.int .u8 (Rd.look L p).k, .string ⟨(Rd.look L p).text.toArray⟩, .int .u64 (Rd.look L p).num, .int .i64 (Rd.look L p).at'] 50
  have hg := grow_trans (grow_alloc w (.cells exZero 40) (some rb)) (grow_trans (grow_below hb2) (grow_alloc w2 (.cells #[.int .u8 (Rd.look L p).k, .string ⟨(Rd.look L p).text.toArray⟩, .int .u64 (Rd.look L p).num, .int .i64 (Rd.look L p).at'] 50) (some rb)))
  have hz2 := hb2.size
  rw [World.size_alloc] at hz2
  go_upto_region 9 with (fail)
  obtain ⟨W, hW⟩ : ∃ W, W = w2.alloc (.cells #[.int .u8 (Rd.look L p).k, .string ⟨(Rd.look L p).text.toArray⟩, .int .u64 (Rd.look L p).num, .int .i64 (Rd.look L p).at'] 50) := ⟨_, rfl⟩
  rw [← hW] at R2 BE BT hg ⊢
  have hkW : Bk W rb #[.slice A L.length c, .int .i64 p, .nilIface] 75 := R2.bk
  have CE := BE.cell
  have FE := BE.free
  have CT := BT.cell
  have CR := hkW.cell
  have FR := hkW.free
  have zE := BE.lt
  have zT := BT.lt
  have hTr : w2.heap.size ≠ rb := by omega
  clear hW
  have HS := Lib.hid (sign_t (L := L) ⟨#[35]⟩ R2 hs)
  clear hs
  go_wp2_with fail
  refine HS.out.mono ?_
  rintro e w3 ⟨rfl, hp3⟩
  have R3 : Rdr L A c rb w0 w3 ⟨p + 1, none⟩ := R2.next hp3
  have BE3 := BE.g hp3 hrb
  have hg3 := grow_trans hg hp3.grow
  clear CE FE CT CR FR
  go_wp2_with fail
  refine (name_c L A c rb w0 w3 _ R3).mono ?_
  rintro e w4 ⟨rfl, hp4⟩
  have R4 := R3.next hp4
  have BE4 := BE3.g hp4 hrb
  have hg4 := grow_trans hg3 hp4.grow
  have CE4 := BE4.cell
  have FE4 := BE4.free
  go_upto_region 21 with (fail)
  obtain ⟨W9, hW9⟩ : ∃ W9, W9 = (((((w4.setCell ⟨w.heap.size, 0, none⟩ (.int .u8 4)).setCell ⟨w.heap.size, 1, none⟩ (.int .u64 0)).setCell ⟨w.heap.size, 2, none⟩ (.string (Rd.str (Rd.name L ⟨p + 1, none⟩).1))).setCell ⟨w.heap.size, 3, none⟩ (.int .u8 0)).setCell ⟨w.heap.size, 4, none⟩ (.slice none 0 0)) := ⟨_, rfl⟩
  have B9 : Bk W9 w.heap.size #[(.int .u8 4), (.int .u64 0), (.string (Rd.str (Rd.name L ⟨p + 1, none⟩).1)), (.int .u8 0), (.slice none 0 0)] 40 := by rw [hW9]; exact bk5 BE4 (.int .u8 4) (.int .u64 0) (.string (Rd.str (Rd.name L ⟨p + 1, none⟩).1)) (.int .u8 0) (.slice none 0 0)
  have k9 := bk5o (n := w.heap.size) R4.bk (Ne.symm hrb) (.int .u8 4) (.int .u64 0) (.string (Rd.str (Rd.name L ⟨p + 1, none⟩).1)) (.int .u8 0) (.slice none 0 0)
  have g9 := set5 hg4 (Nat.le_refl _) (.int .u8 4) (.int .u64 0) (.string (Rd.str (Rd.name L ⟨p + 1, none⟩).1)) (.int .u8 0) (.slice none 0 0)
  rw [← hW9] at k9 g9 ⊢
  have C9 := B9.cell
  have F9 := B9.free
  clear hW9 CE4 FE4
  go_wp2_with fail
  exact bodyPost_ret (results_cell_row rfl _ _ w.heap.size 40 _ (0, 0) _ rfl (bk5 B9 (.int .u8 4) (.int .u64 0) (.string (Rd.str (Rd.name L ⟨p + 1, none⟩).1)) (.int .u8 0) (.slice none 0 0)) Tryz.underlying40 rfl (by kernel_rfl)) rfl ⟨_, _, rfl, foot_leaf rfl, bk5o k9 (by omega) _ _ _ _ _, set5 g9 (Nat.le_refl _) _ _ _ _ _⟩

set_option maxRecDepth 100000 in
set_option maxHeartbeats 1000000 in
theorem expr_zero (L : List STok) : ExprOf L 0 := by
  intro A c rb w0 w s d h hsg hd hd0
  obtain ⟨xa, xc, hx⟩ : ∃ xa xc, Rd.bad L s 70 = ⟨s.pos, some (xa, xc)⟩ := by
    obtain ⟨p, x⟩ := s
    cases x with
    | none => exact ⟨_, _, rfl⟩
    | some x => exact ⟨_, _, rfl⟩
  have hex : Rd.expr L 0 s = (Rd.exZ, ⟨s.pos, some (xa, xc)⟩) := by rw [← hx]; rfl
  rw [hex]
  have hd1 : d = 41 := by omega
  subst hd1
  have B0 := Bk.new w exZero 40
  have R0 := h.alloc (.cells exZero 40)
  have hrb0 := h.bk.lt
  have hrb : w.heap.size ≠ rb := by omega
  have hbad : Calls Tryz.prog 67 #[.pointer (some ⟨rb, 0, none⟩), .int .i64 70] (w.alloc (.cells exZero 40)) (BadR L A c rb (w.alloc (.cells exZero 40)) ⟨s.pos, some (xa, xc)⟩) := by
    have := bad_c L A c rb w0 _ s 70 R0
    rw [hx] at this
    exact this
  have HB := Lib.hid hbad
  clear hex hx hbad
  go_enter Tryz.func46, Tryz.ntmps46
  go_wp2_with fail
  refine HB.out.mono ?_
  rintro e w1 ⟨rfl, hp1⟩
  have R1 := R0.next hp1
  have B1 := B0.g hp1 hrb
  go_wp2_with fail
  refine (look_v R1 _ ⟨(Rd.look L s.pos).text.toArray⟩ _ _ rfl rfl rfl rfl).mono ?_
  rintro e w2 ⟨rfl, hb2⟩
  have hk2 : Bk w2 rb #[.slice A L.length c, .int .i64 s.pos, .iface 30 (.agg #[.int .i64 xa, .int .i64 xc])] 75 := R1.bk.mono hb2
  have hkW := hk2.alloc (.cells #[.int .u8 (Rd.look L s.pos).k, .string ⟨(Rd.look L s.pos).text.toArray⟩, .int .u64 (Rd.look L s.pos).num, .int .i64 (Rd.look L s.pos).at'] 50)
  have BE := (B1.mono hb2).alloc (.cells #[.int .u8 (Rd.look L s.pos).k, .string ⟨(Rd.look L s.pos).text.toArray⟩, .int .u64 (Rd.look L s.pos).num, .int .i64 (Rd.look L s.pos).at'] 50)
  have hg := grow_trans (grow_trans (grow_trans (grow_alloc w (.cells exZero 40) (some rb)) hp1.grow) (grow_below hb2)) (grow_alloc w2 (.cells #[.int .u8 (Rd.look L s.pos).k, .string ⟨(Rd.look L s.pos).text.toArray⟩, .int .u64 (Rd.look L s.pos).num, .int .i64 (Rd.look L s.pos).at'] 50) (some rb))
  go_upto_region 9 with (fail)
  obtain ⟨W, hW⟩ : ∃ W, W = w2.alloc (.cells #[.int .u8 (Rd.look L s.pos).k, .string ⟨(Rd.look L s.pos).text.toArray⟩, .int .u64 (Rd.look L s.pos).num, .int .i64 (Rd.look L s.pos).at'] 50) := ⟨_, rfl⟩
  rw [← hW] at hkW BE hg ⊢
  have CE := BE.cell
  have FE := BE.free
  have CR := hkW.cell
  clear hW
  go_upto_region 21 with (fail)
  obtain ⟨W9, hW9⟩ : ∃ W9, W9 = W := ⟨_, rfl⟩
  have B9 : Bk W9 w.heap.size #[(.int .u8 0), (.int .u64 0), (.string ⟨#[]⟩), (.int .u8 0), (.slice none 0 0)] 40 := by rw [hW9]; exact BE
  have k9 := hkW
  have g9 := hg
  rw [← hW9] at k9 g9 ⊢
  have C9 := B9.cell
  have F9 := B9.free
  clear hW9 CE FE CR
  go_wp2_with fail
  exact bodyPost_ret (results_cell_row rfl _ _ w.heap.size 40 _ (0, 0) _ rfl (bk5 B9 (.int .u8 0) (.int .u64 0) (.string ⟨#[]⟩) (.int .u8 0) (.slice none 0 0)) Tryz.underlying40 rfl (by kernel_rfl)) rfl ⟨_, _, rfl, foot_leaf rfl, bk5o k9 (by omega) _ _ _ _ _, set5 g9 (Nat.le_refl _) _ _ _ _ _⟩
end Go.Proofs.YtkflcmengddijaaGreatDoor
