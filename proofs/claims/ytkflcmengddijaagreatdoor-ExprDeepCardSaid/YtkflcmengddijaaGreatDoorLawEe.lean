/-
  The document's Tell, walked at trees of any depth.
  What is told is read again, plainly.
  Deep expressions, plainly: how deep they are, and how they are read.
  ExprDeep walked.
  ExprDeep: how deep expressions may be, checked and read; no condition but the listed variables, which the card ties to the program's text.
-/
import Derived.Test.YtkflcmengddijaaGreatDoorExRTell2
import Derived.Test.YtkflcmengddijaaGreatDoorExRd5
import Derived.Test.YtkflcmengddijaaGreatDoorExTell3
import Derived.Test.YtkflcmengddijaaGreatDoorExTells
import Derived.Test.YtkflcmengddijaaGreatDoorCards
import Derived.Test.YtkflcmengddijaaGreatDoorTie
import Derived.Test.YtkflcmengddijaaGreatDoorExRow
import Derived.SevenTiedAt
import Derived.Deep.DeepWitnessRowRef
namespace Go.Proofs.YtkflcmengddijaaGreatDoor
open Go.RowKit Lx
set_option linter.unusedVariables false
set_option linter.unusedSimpArgs false

/-- An expression as its kind asks, however deep. -/
inductive Tree : Ex → Prop
  | n1 (num : Int) : Tree (.mk 1 num ⟨#[]⟩ 0 [])
  | n2 (s : ByteArray) : Tree (.mk 2 0 s 0 [])
  | n4 (s : ByteArray) : Tree (.mk 4 0 s 0 [])
  | n3 (op : Int) (a b : Ex) : 1 ≤ op → op ≤ 14 → Tree a → Tree b → Tree (.mk 3 0 ⟨#[]⟩ op [a, b])
  | n5 (s : ByteArray) (a : Ex) : Tree a → Tree (.mk 5 0 s 0 [a])
theorem Tree.pos {x : Ex} (h : Tree x) : 0 < (tellP x).length := by
  cases h
  · rw [tellP_1]; simp
  · rw [tellP_2]; simp
  · rw [tellP_4]; simp
  · rw [tellP_3]; simp
  · rw [tellP_5]; simp

def RTreeOf (x : Ex) : Prop := ∀ (K : Option Addr) (c : Nat) (w : World), Tree x → kEx.Row w K x.kids → (tellP x).length ≤ 1000000000 →
  Calls Tryz.prog 21 #[.agg #[.int .u8 x.k, .int .u64 x.num, .string x.name, .int .u8 x.op, .slice K x.kids.length c]] w fun e w' => RTellR x w e w' ∧ Below w.heap.size w w'
set_option maxRecDepth 100000 in
set_option maxHeartbeats 1000000 in
theorem rtree_1 (num : Int) (name : ByteArray) (op : Int) (kids : List Ex) : RTreeOf (.mk 1 num name op kids) := by
  intro K c w hmay hr hl
  have ht := tellP_1 num name op kids
  unfold RTellR
  rw [ht]
  simp only [Ex.k, Ex.num, Ex.name, Ex.op, Ex.kids] at *
  have hb0 := (Below.refl w.heap.size w).alloc (Nat.le_refl _) (.cells #[.int .u8 1, .int .u64 num, .string name, .int .u8 op, .slice K kids.length c] 40)
  have hb1 := hb0.alloc (by simp) (.cells #[.int .u8 3, .string ⟨#[]⟩, .int .u64 num, .int .i64 0] 50)
  have ho := own_lit (w := (w.alloc (.cells #[.int .u8 1, .int .u64 num, .string name, .int .u8 op, .slice K kids.length c] 40)).alloc (.cells #[.int .u8 3, .string ⟨#[]⟩, .int .u64 num, .int .i64 0] 50)) (n := w.heap.size + 1) (ts := [⟨3, [], num, 0⟩]) (B := w.heap.size) (m := 1) (Bk.newAt _ _ (by simp)) (by omega) rfl (by decide)
  have HO := Lib.hid ho
  clear ht hmay ho
  go_enter Tryz.func21, Tryz.ntmps21
  go_wp2_with fail
  go_ret
  exact ⟨⟨_, rfl, HO.out⟩, hb1⟩

set_option maxRecDepth 100000 in
set_option maxHeartbeats 1000000 in
theorem rtree_2 (num : Int) (name : ByteArray) (op : Int) (kids : List Ex) : RTreeOf (.mk 2 num name op kids) := by
  intro K c w hmay hr hl
  have ht := tellP_2 num name op kids
  unfold RTellR
  rw [ht]
  simp only [Ex.k, Ex.num, Ex.name, Ex.op, Ex.kids] at *
  have hb0 := (Below.refl w.heap.size w).alloc (Nat.le_refl _) (.cells #[.int .u8 2, .int .u64 num, .string name, .int .u8 op, .slice K kids.length c] 40)
  clear ht hmay
  go_enter Tryz.func21, Tryz.ntmps21
  go_wp2_with fail
  refine (rnm_c name _).mono ?_
  rintro e w1 ⟨rfl, hb1⟩
  have hB1 := bt hb0 hb1
  have hB2 := hB1.alloc hB1.size (.cells #[.int .u8 1, .string name, .int .u64 0, .int .i64 0] 50)
  have ho := own_lit (w := w1.alloc (.cells #[.int .u8 1, .string name, .int .u64 0, .int .i64 0] 50)) (n := w1.heap.size) (ts := [nmT name]) (B := w.heap.size) (m := 1) (Bk.newAt _ _ rfl) hB1.size rfl (by decide)
  have HO := Lib.hid ho
  clear ho
  go_wp2_with fail
  go_ret
  exact ⟨⟨_, rfl, HO.out⟩, hB2⟩

set_option maxRecDepth 100000 in
set_option maxHeartbeats 1000000 in
theorem rtree_4 (num : Int) (name : ByteArray) (op : Int) (kids : List Ex) : RTreeOf (.mk 4 num name op kids) := by
  intro K c w hmay hr hl
  have ht := tellP_4 num name op kids
  unfold RTellR
  rw [ht]
  simp only [Ex.k, Ex.num, Ex.name, Ex.op, Ex.kids] at *
  have hb0 := (Below.refl w.heap.size w).alloc (Nat.le_refl _) (.cells #[.int .u8 4, .int .u64 num, .string name, .int .u8 op, .slice K kids.length c] 40)
  have B0 := Bk.new w #[.int .u8 4, .int .u64 num, .string name, .int .u8 op, .slice K kids.length c] 40
  have C0 := B0.cell
  clear ht hmay
  go_enter Tryz.func21, Tryz.ntmps21
  go_wp2_with fail
  go_region_held3 (fun w' => w'.cell? ⟨w.heap.size, 2, none⟩ = some (.string name)) (first | go_keep | (exact cm (by assumption) hbk))
    (first
      | (go_at_call 44; refine (rsgn_c _ _).mono ?_; rintro e w1 ⟨rfl, hb1⟩; have hbk := hb1)
      | (go_at_call 43; refine (rnm_c _ _).mono ?_; rintro e w2 ⟨rfl, hb2⟩; have hbk := hb2))
  have hd : Below w.heap.size w (w.alloc (.cells #[.int .u8 4, .int .u64 num, .string name, .int .u8 op, .slice K kids.length c] 40)).drew := hb0.drew
  have hB1 : Below w.heap.size w w1 := hd.trans (hb1.mono hd.size)
  have hB2 : Below w.heap.size w w2 := hB1.trans (hb2.mono hB1.size)
  have hB3 := hB2.alloc hB2.size (.cells #[.int .u8 4, .string ⟨#[35]⟩, .int .u64 0, .int .i64 0, .int .u8 1, .string name, .int .u64 0, .int .i64 0] 50)
  have ho := own_lit (w := w2.alloc (.cells #[.int .u8 4, .string ⟨#[35]⟩, .int .u64 0, .int .i64 0, .int .u8 1, .string name, .int .u64 0, .int .i64 0] 50)) (n := w2.heap.size) (ts := [sgT [35], nmT name]) (B := w.heap.size) (m := 2) (Bk.newAt _ _ rfl) hB2.size rfl (by decide)
  have HO := Lib.hid ho
  clear ho
  go_wp2_with fail
  go_ret
  exact ⟨⟨_, rfl, HO.out⟩, hB3⟩

set_option maxRecDepth 100000 in
set_option maxHeartbeats 2000000 in
theorem rtree_5 (name : ByteArray) (a : Ex) (ha : RTreeOf a) : RTreeOf (.mk 5 0 name 0 [a]) := by
  intro K c w hmay hr hl
  have ht := tellP_5 0 name 0 a
  have hma : Tree a := by cases hmay; assumption
  have hpos := Tree.pos hma
  unfold RTellR
  rw [ht] at hl ⊢
  simp only [Ex.k, Ex.num, Ex.name, Ex.op, Ex.kids, List.length_cons, List.length_nil, List.length_append] at *
  have hb0 := (Below.refl w.heap.size w).alloc (Nat.le_refl _) (.cells #[.int .u8 5, .int .u64 0, .string name, .int .u8 0, .slice K 1 c] 40)
  have B0 := Bk.new w #[.int .u8 5, .int .u64 0, .string name, .int .u8 0, .slice K 1 c] 40
  have C0 := B0.cell
  obtain ⟨b, o, KK, kc, rfl, gm, gr, g0, g1, g2, g3, g4⟩ := kid_later hr hb0 0 (by simp)
  simp only [List.getElem_cons_zero, Nat.zero_mul, Nat.add_zero] at gm gr g0 g1 g2 g3 g4
  have hHA := Lib.hid (fun W (h : Below w.heap.size w W) => ha KK kc W hma (gr.mono h) (by omega))
  have hd : Below (w.alloc (.cells #[.int .u8 5, .int .u64 0, .string name, .int .u8 0, .slice (some ⟨b, o, none⟩) 1 c] 40)).heap.size (w.alloc (.cells #[.int .u8 5, .int .u64 0, .string name, .int .u8 0, .slice (some ⟨b, o, none⟩) 1 c] 40)) (w.alloc (.cells #[.int .u8 5, .int .u64 0, .string name, .int .u8 0, .slice (some ⟨b, o, none⟩) 1 c] 40)).drew := (Below.refl _ _).drew
  have HP := Lib.hid hpos
  have hl2 : 3 + (tellP a).length ≤ 1000000000 := by omega
  obtain ⟨i0, hi, iz0, iz1, iz2⟩ := info_parts infoTok
  clear ht hmay hma hpos hl
  go_enter Tryz.func21, Tryz.ntmps21
  go_wp2_with fail
  go_region_held3 (fun w' => w'.cell? ⟨w.heap.size, 2, none⟩ = some (.string name) ∧ w'.cell? ⟨w.heap.size, 4, none⟩ = some (.slice (some ⟨b, o, none⟩) 1 c) ∧
      w'.cell? ⟨b, o, none⟩ = some (.int .u8 a.k) ∧ w'.cell? ⟨b, o + 1, none⟩ = some (.int .u64 a.num) ∧ w'.cell? ⟨b, o + 2, none⟩ = some (.string a.name) ∧ w'.cell? ⟨b, o + 3, none⟩ = some (.int .u8 a.op) ∧ w'.cell? ⟨b, o + 4, none⟩ = some (.slice KK a.kids.length kc))
    (first | go_keep | (go_split_ands; exact ⟨cm (by assumption) hbk, cm (by assumption) hbk, cm (by assumption) hbk, cm (by assumption) hbk, cm (by assumption) hbk, cm (by assumption) hbk, cm (by assumption) hbk⟩) | (exact ⟨hfar _ _ (C0 2), hfar _ _ (C0 4), hfar _ _ g0, hfar _ _ g1, hfar _ _ g2, hfar _ _ g3, hfar _ _ g4⟩))
    (first
      | (go_at_call 44; refine (rsgn_c _ _).mono ?_; rintro e w2 ⟨rfl, hb2⟩; have hbk := hb2)
      | (go_at_call 43; refine (rnm_c _ _).mono ?_; rintro e w1 ⟨rfl, hb1⟩; have hbk := hb1)
      | (go_at_call 21; have hx1 := hd.trans (hb1.mono hd.size); have hx2 := hx1.trans (hb2.mono hx1.size); have hz2 := hb0.trans (hx2.mono hb0.size); have hx3 := hx2.alloc hx2.size (.cells #[.int .u8 1, .string name, .int .u64 0, .int .i64 0, .int .u8 4, .string ⟨#[91]⟩, .int .u64 0, .int .i64 0] 50); have hz3 := hb0.trans (hx3.mono hb0.size); have hL := own_lit (w := w2.alloc (.cells #[.int .u8 1, .string name, .int .u64 0, .int .i64 0, .int .u8 4, .string ⟨#[91]⟩, .int .u64 0, .int .i64 0] 50)) (n := w2.heap.size) (ts := [nmT name, sgT [91]]) (B := w.heap.size) (m := 2) (Bk.newAt _ _ rfl) (Nat.le_trans hb0.size hx2.size) rfl (by decide); refine (hHA.out _ hz3).mono ?_; rintro e w4 ⟨⟨v4, rfl, ho4⟩, hb4⟩; obtain ⟨g4', cap4, rfl, hg4, hg5⟩ := ho4.form HP.out; have hL4 := own_below hL hb4; have hx4 := hx3.trans (hb4.mono hx3.size); have hz4 := hz3.trans (hb4.mono hz3.size); have hbk := hb4)
      | (go_at_call 21; have hx1 := hd.trans (hb1.mono hd.size); have hx2 := hx1.trans (hb2.mono hx1.size); have hz2 := hb0.trans (hx2.mono hb0.size); refine (hHA.out _ hz2).mono ?_; rintro e w4 ⟨⟨v4, rfl, ho4⟩, hb4⟩; obtain ⟨g4', cap4, rfl, hg4, hg5⟩ := ho4.form HP.out; have hx4 := hx2.trans (hb4.mono hx2.size); have hz4 := hz2.trans (hb4.mono hz2.size); have hLB := own_lit (w := w4.alloc (.cells #[.int .u8 1, .string name, .int .u64 0, .int .i64 0, .int .u8 4, .string ⟨#[91]⟩, .int .u64 0, .int .i64 0] 50)) (n := w4.heap.size) (ts := [nmT name, sgT [91]]) (B := w.heap.size) (m := 2) (Bk.newAt _ _ rfl) hz4.size rfl (by decide); have hoB := ho4.alloc (.cells #[.int .u8 1, .string name, .int .u64 0, .int .i64 0, .int .u8 4, .string ⟨#[91]⟩, .int .u64 0, .int .i64 0] 50); have hx5 := hx4.alloc hx4.size (.cells #[.int .u8 1, .string name, .int .u64 0, .int .i64 0, .int .u8 4, .string ⟨#[91]⟩, .int .u64 0, .int .i64 0] 50); have hz5 := hz4.alloc hz4.size (.cells #[.int .u8 1, .string name, .int .u64 0, .int .i64 0, .int .u8 4, .string ⟨#[91]⟩, .int .u64 0, .int .i64 0] 50); have hbk := hb4)
      | (have _q := hL4; refine step_append_lies _ rfl _ _ _ rfl w.heap.size 50 i0 _ 4 40 Tryz.underlying23 hi iz0 iz1 iz2 rfl (by omega) (.slice (some ⟨w2.heap.size, 0, none⟩) 2 2) 2 (cellsOf [nmT name, sgT [91]]) (by rfl) hL4 ⟨g4', 0, none⟩ (tellP a).length cap4 (cellsOf (tellP a)) (by rfl) (cellsOf_length _) (own_news ho4 rfl) (cellsOf_one _) HP.out (by unfold maxLen; omega) (by omega) hz4.size _ rfl ?_; intro gg cap w9 hown1 hgrow hat hlt; have hfar : ∀ (p : Addr) (v : Value), (w.alloc (.cells #[.int .u8 5, .int .u64 0, .string name, .int .u8 0, .slice (some ⟨b, o, none⟩) 1 c] 40)).cell? p = some v → w9.cell? p = some v := (fun p v hp => (hgrow.cell_far p (Nat.lt_of_lt_of_le (World.block_lt_of_cell? _ _ hp) hx4.size) (fun e => by injection e with e; have h1 := World.block_lt_of_cell? _ _ hp; have h2 := hx2.size; have h3 := hx4.size; have e' : p.block = w2.heap.size := e; omega)).trans (cm hp hx4)); have hx9 := hz9 hz4 hgrow (by have h2 := hx2.size; have h3 := hx4.size; have h4 := hb0.size; omega))
      | (have _q := hLB; refine step_append_lies _ rfl _ _ _ rfl w.heap.size 50 i0 _ 4 40 Tryz.underlying23 hi iz0 iz1 iz2 rfl (by omega) (.slice (some ⟨w4.heap.size, 0, none⟩) 2 2) 2 (cellsOf [nmT name, sgT [91]]) (by rfl) hLB ⟨g4', 0, none⟩ (tellP a).length cap4 (cellsOf (tellP a)) (by rfl) (cellsOf_length _) (own_news hoB rfl) (cellsOf_one _) HP.out (by unfold maxLen; omega) (by omega) hz5.size _ rfl ?_; intro gg cap w9 hown1 hgrow hat hlt; have hfar : ∀ (p : Addr) (v : Value), (w.alloc (.cells #[.int .u8 5, .int .u64 0, .string name, .int .u8 0, .slice (some ⟨b, o, none⟩) 1 c] 40)).cell? p = some v → w9.cell? p = some v := (fun p v hp => (hgrow.cell_far p (Nat.lt_of_lt_of_le (World.block_lt_of_cell? _ _ hp) hx5.size) (fun e => by injection e with e; have h1 := World.block_lt_of_cell? _ _ hp; have h2 := hx2.size; have h3 := hx4.size; have e' : p.block = w4.heap.size := e; omega)).trans (cm hp hx5)); have hx9 := hz9 hz5 hgrow (by have h2 := hx2.size; have h3 := hx4.size; have h4 := hb0.size; omega)))
  all_goals
    go_wp2_with fail
    refine (rsgn_c _ _).mono ?_
    rintro e w10 ⟨rfl, hb10⟩
    have hx10 := hx9.trans (hb10.mono hx9.size)
    have hown2 : w10.ownsRow w.heap.size 50 4 (.slice (some ⟨gg, 0, none⟩) (2 + (tellP a).length) cap) (2 + (tellP a).length) (cellsOf ([nmT name, sgT [91]] ++ tellP a)) := by rw [cellsOf_append]; exact own_below hown1 hb10
    have hx11 := hx10.alloc hx10.size (.cells #[.int .u8 4, .string ⟨#[93]⟩, .int .u64 0, .int .i64 0] 50)
    have hsz10 := hx10.size
    go_wp2_with (at_builtin; refine wpList_append_tok rfl _ _ rfl w.heap.size _ (2 + (tellP a).length) (cellsOf ([nmT name, sgT [91]] ++ tellP a)) rfl (hown2.alloc _) w10.heap.size _ _ _ _ ⟨rfl, rfl, rfl, rfl⟩ rfl (Bk.new _ _ _) (by omega) (by simp; omega) ?_; intro v1 w11 hown3 hgrow3)
    go_ret
    refine ⟨⟨_, rfl, ?_⟩, hx11.grown hgrow3 hx11.size (own_from hown2)⟩
    have e9 : cellsOf ([nmT name, sgT [91]] ++ tellP a ++ [sgT [93]]) = cellsOf ([nmT name, sgT [91]] ++ tellP a) ++ [.int .u8 4, .string ⟨#[93]⟩, .int .u64 0, .int .i64 0] := by rw [cellsOf_append]; rfl
    have e8 : 2 + (tellP a).length + 1 = 0 + 1 + 1 + (tellP a).length + (0 + 1) := by omega
    rw [e8, ← e9] at hown3
    exact hown3
set_option maxRecDepth 100000 in
set_option maxHeartbeats 4000000 in
theorem rtree_3 (name : ByteArray) (op : Int) (h1 : 1 ≤ op) (h2 : op ≤ 14) (x y : Ex) (ha : RTreeOf x) (hy : RTreeOf y) : RTreeOf (.mk 3 0 name op [x, y]) := by
  intro K c w hmay hr hl
  have ht := tellP_3 0 name op x y
  have hma : Tree x ∧ Tree y := by cases hmay; exact ⟨by assumption, by assumption⟩
  have hpos := Tree.pos hma.1
  have hpos2 := Tree.pos hma.2
  unfold RTellR
  rw [ht] at hl ⊢
  simp only [Ex.k, Ex.num, Ex.name, Ex.op, Ex.kids, List.length_cons, List.length_nil, List.length_append] at *
  have hb0 := (Below.refl w.heap.size w).alloc (Nat.le_refl _) (.cells #[.int .u8 3, .int .u64 0, .string name, .int .u8 op, .slice K 2 c] 40)
  have B0 := Bk.new w #[.int .u8 3, .int .u64 0, .string name, .int .u8 op, .slice K 2 c] 40
  have C0 := B0.cell
  obtain ⟨b, o, KK, kc, rfl, gm, gr, g0, g1, g2, g3, g4⟩ := kid_later hr hb0 0 (by simp)
  simp only [List.getElem_cons_zero, Nat.zero_mul, Nat.add_zero] at gm gr g0 g1 g2 g3 g4
  obtain ⟨b', o', K5, kc5, e5, gm5, gr5, f0, f1, f2, f3, f4⟩ := kid_later hr hb0 1 (by simp)
  obtain ⟨rfl, rfl⟩ : b = b' ∧ o = o' := by injection e5 with e5; injection e5 with e5 e6; exact ⟨e5, e6⟩
  simp only [List.getElem_cons_succ, List.getElem_cons_zero, Nat.one_mul] at gm5 gr5 f0 f1 f2 f3 f4
  have hsz : (w.alloc (.cells #[.int .u8 3, .int .u64 0, .string name, .int .u8 op, .slice (some ⟨b, o, none⟩) 2 c] 40)).heap.size = w.heap.size + 1 := by simp
  have hHA := Lib.hid (fun W (h : Below (w.alloc (.cells #[.int .u8 3, .int .u64 0, .string name, .int .u8 op, .slice (some ⟨b, o, none⟩) 2 c] 40)).heap.size (w.alloc (.cells #[.int .u8 3, .int .u64 0, .string name, .int .u8 op, .slice (some ⟨b, o, none⟩) 2 c] 40)) W) => ha KK kc W hma.1 (gr.mono (hb0.trans (h.mono hb0.size))) (by omega))
  have hHB := Lib.hid (fun W (h : Below (w.alloc (.cells #[.int .u8 3, .int .u64 0, .string name, .int .u8 op, .slice (some ⟨b, o, none⟩) 2 c] 40)).heap.size (w.alloc (.cells #[.int .u8 3, .int .u64 0, .string name, .int .u8 op, .slice (some ⟨b, o, none⟩) 2 c] 40)) W) => hy K5 kc5 W hma.2 (gr5.mono (hb0.trans (h.mono hb0.size))) (by omega))
  have hd : Below (w.alloc (.cells #[.int .u8 3, .int .u64 0, .string name, .int .u8 op, .slice (some ⟨b, o, none⟩) 2 c] 40)).heap.size (w.alloc (.cells #[.int .u8 3, .int .u64 0, .string name, .int .u8 op, .slice (some ⟨b, o, none⟩) 2 c] 40)) (w.alloc (.cells #[.int .u8 3, .int .u64 0, .string name, .int .u8 op, .slice (some ⟨b, o, none⟩) 2 c] 40)).drew := (Below.refl _ _).drew
  have HP := Lib.hid hpos
  have HP2 := Lib.hid hpos2
  have hl2 : 3 + (tellP x).length + (tellP y).length ≤ 1000000000 := by omega
  obtain ⟨i0, hi, iz0, iz1, iz2⟩ := info_parts infoTok
  have F := Lib.hid (And.intro f0 (And.intro f1 (And.intro f2 (And.intro f3 f4))))
  clear ht hmay hma hpos hpos2 hl e5 f0 f1 f2 f3 f4
  go_enter Tryz.func21, Tryz.ntmps21
  go_wp2_with fail
  go_region_held3 (fun w' => w'.cell? ⟨w.heap.size, 4, none⟩ = some (.slice (some ⟨b, o, none⟩) 2 c) ∧
      w'.cell? ⟨b, o, none⟩ = some (.int .u8 x.k) ∧ w'.cell? ⟨b, o + 1, none⟩ = some (.int .u64 x.num) ∧ w'.cell? ⟨b, o + 2, none⟩ = some (.string x.name) ∧ w'.cell? ⟨b, o + 3, none⟩ = some (.int .u8 x.op) ∧ w'.cell? ⟨b, o + 4, none⟩ = some (.slice KK x.kids.length kc))
    (first | go_keep | (go_split_ands; exact ⟨cm (by assumption) hbk, cm (by assumption) hbk, cm (by assumption) hbk, cm (by assumption) hbk, cm (by assumption) hbk, cm (by assumption) hbk⟩) | (exact ⟨hfar _ _ (C0 4), hfar _ _ g0, hfar _ _ g1, hfar _ _ g2, hfar _ _ g3, hfar _ _ g4⟩))
    (first
      | (go_at_call 44; refine (rsgn_c _ _).mono ?_; rintro e w1 ⟨rfl, hb1⟩; have hbk := hb1)
      | (go_at_call 21; have hx1 := hd.trans (hb1.mono hd.size); have hx3 := hx1.alloc hx1.size (.cells #[.int .u8 4, .string ⟨#[40]⟩, .int .u64 0, .int .i64 0] 50); have hL := own_lit (w := w1.alloc (.cells #[.int .u8 4, .string ⟨#[40]⟩, .int .u64 0, .int .i64 0] 50)) (n := w1.heap.size) (ts := [sgT [40]]) (B := w.heap.size + 1) (m := 1) (Bk.newAt _ _ rfl) (hsz ▸ hx1.size) rfl (by decide); refine (hHA.out _ hx3).mono ?_; rintro e w4 ⟨⟨v4, rfl, ho4⟩, hb4⟩; obtain ⟨g4', cap4, rfl, hg4, hg5⟩ := ho4.form HP.out; have hL4 := own_below hL hb4; have hx4 := hx3.trans (hb4.mono hx3.size); have hbk := hb4)
      | (go_at_call 21; have hx1 := hd.trans (hb1.mono hd.size); refine (hHA.out _ hx1).mono ?_; rintro e w4 ⟨⟨v4, rfl, ho4⟩, hb4⟩; obtain ⟨g4', cap4, rfl, hg4, hg5⟩ := ho4.form HP.out; have hx4 := hx1.trans (hb4.mono hx1.size); have hLB := own_lit (w := w4.alloc (.cells #[.int .u8 4, .string ⟨#[40]⟩, .int .u64 0, .int .i64 0] 50)) (n := w4.heap.size) (ts := [sgT [40]]) (B := w.heap.size + 1) (m := 1) (Bk.newAt _ _ rfl) (hsz ▸ hx4.size) rfl (by decide); have hoB := ho4.alloc (.cells #[.int .u8 4, .string ⟨#[40]⟩, .int .u64 0, .int .i64 0] 50); have hx5 := hx4.alloc hx4.size (.cells #[.int .u8 4, .string ⟨#[40]⟩, .int .u64 0, .int .i64 0] 50); have hbk := hb4)
      | (have _q := hL4; refine step_append_lies _ rfl _ _ _ rfl (w.heap.size + 1) 50 i0 _ 4 40 Tryz.underlying23 hi iz0 iz1 iz2 rfl (by omega) (.slice (some ⟨w1.heap.size, 0, none⟩) 1 1) 1 (cellsOf [sgT [40]]) (by rfl) hL4 ⟨g4', 0, none⟩ (tellP x).length cap4 (cellsOf (tellP x)) (by rfl) (cellsOf_length _) (own_news ho4 rfl) (cellsOf_one _) HP.out (by unfold maxLen; omega) (by omega) (hsz ▸ hx4.size) _ rfl ?_; intro gg cap w9 hown1 hgrow hat hlt; have hfar : ∀ (p : Addr) (v : Value), (w.alloc (.cells #[.int .u8 3, .int .u64 0, .string name, .int .u8 op, .slice (some ⟨b, o, none⟩) 2 c] 40)).cell? p = some v → w9.cell? p = some v := (fun p v hp => (hgrow.cell_far p (Nat.lt_of_lt_of_le (World.block_lt_of_cell? _ _ hp) hx4.size) (fun e => by injection e with e; have h1 := World.block_lt_of_cell? _ _ hp; have h2 := hx1.size; have h3 := hx4.size; have e' : p.block = w1.heap.size := e; omega)).trans (cm hp hx4)); have hx9 := hz9 hx4 hgrow (by have h2 := hx1.size; have h3 := hx4.size; omega))
      | (have _q := hLB; refine step_append_lies _ rfl _ _ _ rfl (w.heap.size + 1) 50 i0 _ 4 40 Tryz.underlying23 hi iz0 iz1 iz2 rfl (by omega) (.slice (some ⟨w4.heap.size, 0, none⟩) 1 1) 1 (cellsOf [sgT [40]]) (by rfl) hLB ⟨g4', 0, none⟩ (tellP x).length cap4 (cellsOf (tellP x)) (by rfl) (cellsOf_length _) (own_news hoB rfl) (cellsOf_one _) HP.out (by unfold maxLen; omega) (by omega) (hsz ▸ hx5.size) _ rfl ?_; intro gg cap w9 hown1 hgrow hat hlt; have hfar : ∀ (p : Addr) (v : Value), (w.alloc (.cells #[.int .u8 3, .int .u64 0, .string name, .int .u8 op, .slice (some ⟨b, o, none⟩) 2 c] 40)).cell? p = some v → w9.cell? p = some v := (fun p v hp => (hgrow.cell_far p (Nat.lt_of_lt_of_le (World.block_lt_of_cell? _ _ hp) hx5.size) (fun e => by injection e with e; have h1 := World.block_lt_of_cell? _ _ hp; have h2 := hx1.size; have h3 := hx4.size; have e' : p.block = w4.heap.size := e; omega)).trans (cm hp hx5)); have hx9 := hz9 hx5 hgrow (by have h2 := hx1.size; have h3 := hx4.size; omega)))
  all_goals
    clear g0 g1 g2 g3 g4
    have C9 := (B0.mono hx9).cell
    go_wp2_with fail
    refine (rSg_c op (by omega) (by omega) _).mono ?_
    rintro e w10 ⟨rfl, hb10⟩
    have hx10 := hx9.trans (hb10.mono hx9.size)
    go_wp2_with fail
    refine (rsgn_c _ _).mono ?_
    rintro e w11 ⟨rfl, hb11⟩
    have hx11 := hx10.trans (hb11.mono hx10.size)
    have hown2 : w11.ownsRow (w.heap.size + 1) 50 4 (.slice (some ⟨gg, 0, none⟩) (1 + (tellP x).length) cap) (1 + (tellP x).length) (cellsOf ([sgT [40]] ++ tellP x)) := by rw [cellsOf_append]; exact own_below (own_below hown1 hb10) hb11
    have hs11 := hx11.size
    rw [hsz] at hs11
    clear C9
    go_wp2_with (at_builtin; refine wpList_append_tok rfl _ _ rfl (w.heap.size + 1) _ (1 + (tellP x).length) (cellsOf ([sgT [40]] ++ tellP x)) rfl (hown2.alloc _) w11.heap.size _ _ _ _ ⟨rfl, rfl, rfl, rfl⟩ rfl (Bk.new _ _ _) (by omega) (by simp; omega) ?_; intro v12 w12 hown3 hgrow3; obtain ⟨a12, c12, rfl⟩ := own_shape hown3; have hx12 := (hx11.alloc hx11.size (.cells #[.int .u8 4, .string ⟨(opSign op).toArray⟩, .int .u64 0, .int .i64 0] 50)).grown hgrow3 (by simp; omega) (fun q hq => by have := own_from hown2 q hq; omega); have C12 := (B0.mono hx12).cell; have f0 := cm F.out.1 hx12; have f1 := cm F.out.2.1 hx12; have f2 := cm F.out.2.2.1 hx12; have f3 := cm F.out.2.2.2.1 hx12; have f4 := cm F.out.2.2.2.2 hx12)
    refine (hHB.out _ hx12).mono ?_
    rintro e w13 ⟨⟨v13, rfl, ho13⟩, hb13⟩
    obtain ⟨g13, cap13, rfl, hg13, hg13'⟩ := ho13.form HP2.out
    have hx13 := hx12.trans (hb13.mono hx12.size)
    have hs13 := hx13.size
    rw [hsz] at hs13
    have hown4 : w13.ownsRow (w.heap.size + 1) 50 4 (.slice a12 (1 + (tellP x).length + 1) c12) (1 + (tellP x).length + 1) (cellsOf ([sgT [40]] ++ tellP x ++ [sgT (opSign op)])) := by rw [cellsOf_append _ [sgT (opSign op)]]; exact own_below hown3 hb13
    clear C12 f0 f1 f2 f3 f4
    go_wp2_with (at_builtin; refine wpList_append_toks rfl _ _ rfl (w.heap.size + 1) _ (1 + (tellP x).length + 1) _ rfl hown4 g13 (tellP y).length cap13 (tellP y) rfl rfl (own_news ho13 rfl) (by omega) (by omega) ?_; intro v14 w14 hown5 hgrow5; obtain ⟨a14, c14, rfl⟩ := own_shape hown5; have hx14 := hx13.grown hgrow5 hx13.size (fun q hq => by have := own_from hown4 q hq; omega))
    refine (rsgn_c _ _).mono ?_
    rintro e w15 ⟨rfl, hb15⟩
    have hx15 := hx14.trans (hb15.mono hx14.size)
    have hs15 := hx15.size
    rw [hsz] at hs15
    have hown6 := own_below hown5 hb15
    go_wp2_with (at_builtin; refine wpList_append_tok rfl _ _ rfl (w.heap.size + 1) _ (1 + (tellP x).length + 1 + (tellP y).length) _ rfl (hown6.alloc _) w15.heap.size _ _ _ _ ⟨rfl, rfl, rfl, rfl⟩ rfl (Bk.new _ _ _) (by omega) (by simp; omega) ?_; intro v16 w16 hown7 hgrow7)
    go_ret
    have hx16 := (hx15.alloc hx15.size (.cells #[.int .u8 4, .string ⟨#[41]⟩, .int .u64 0, .int .i64 0] 50)).grown hgrow7 (by simp; omega) (fun q hq => by have := own_from hown6 q hq; omega)
    refine ⟨⟨_, rfl, ?_⟩, hb0.trans (hx16.mono hb0.size)⟩
    have e9 : cellsOf ([sgT [40]] ++ tellP x ++ [sgT (opSign op)] ++ tellP y ++ [sgT [41]]) = cellsOf ([sgT [40]] ++ tellP x ++ [sgT (opSign op)]) ++ cellsOf (tellP y) ++ [.int .u8 4, .string ⟨#[41]⟩, .int .u64 0, .int .i64 0] := by rw [cellsOf_append, cellsOf_append _ (tellP y)]; rfl
    have e8 : 1 + (tellP x).length + 1 + (tellP y).length + 1 = 0 + 1 + (tellP x).length + (0 + 1) + (tellP y).length + (0 + 1) := by omega
    rw [e8, ← e9] at hown7
    exact own_base_weak hown7 (Nat.le_succ _)

theorem rtree_c {x : Ex} (h : Tree x) : RTreeOf x := by
  induction h with
  | n1 num => exact rtree_1 num _ 0 []
  | n2 s => exact rtree_2 0 _ 0 []
  | n4 s => exact rtree_4 0 _ 0 []
  | n3 op a b h1 h2 _ _ ha hb => exact rtree_3 _ op h1 h2 a b ha hb
  | n5 s a _ ha => exact rtree_5 s a ha
end Go.Proofs.YtkflcmengddijaaGreatDoor

namespace Go.Proofs.YtkflcmengddijaaGreatDoor
open Go.RowKit Lx
set_option linter.unusedVariables false
set_option linter.unusedSimpArgs false

theorem look_drop (L : List STok) (p : Nat) (t : STok) (S : List STok) (h : L.drop p = t :: S) : Rd.look L (p : Int) = t ∧ L.drop (p + 1) = S := by
  have hp : p < L.length := by
    rcases Nat.lt_or_ge p L.length with h1 | h1
    · exact h1
    · rw [List.drop_of_length_le h1] at h; cases h
  rw [List.drop_eq_getElem_cons hp] at h
  injection h with h1 h2
  refine ⟨?_, h2⟩
  rw [Rd.look_at (by omega) (by simpa using hp)]
  simpa using h1
theorem look_drop_nil (L : List STok) (p : Nat) (h : L.drop p = []) : Rd.look L (p : Int) = Rd.z := by
  refine Rd.look_out fun hh => ?_
  rw [List.drop_eq_nil_iff] at h
  omega
theorem opIdx_sign (op : Int) (h1 : 1 ≤ op) (h2 : op ≤ 14) : Rd.opIdx (opSign op) = op := by
  have h15 : op = 1 ∨ op = 2 ∨ op = 3 ∨ op = 4 ∨ op = 5 ∨ op = 6 ∨ op = 7 ∨ op = 8 ∨ op = 9 ∨ op = 10 ∨ op = 11 ∨ op = 12 ∨ op = 13 ∨ op = 14 := by omega
  rcases h15 with rfl | rfl | rfl | rfl | rfl | rfl | rfl | rfl | rfl | rfl | rfl | rfl | rfl | rfl <;> decide
theorem opSign_no (op : Int) (h1 : 1 ≤ op) (h2 : op ≤ 14) : opSign op ≠ [91] := by
  have h15 : op = 1 ∨ op = 2 ∨ op = 3 ∨ op = 4 ∨ op = 5 ∨ op = 6 ∨ op = 7 ∨ op = 8 ∨ op = 9 ∨ op = 10 ∨ op = 11 ∨ op = 12 ∨ op = 13 ∨ op = 14 := by omega
  rcases h15 with rfl | rfl | rfl | rfl | rfl | rfl | rfl | rfl | rfl | rfl | rfl | rfl | rfl | rfl <;> decide
/-- No sign [ stands there. -/
def NoOpen (S : List STok) : Prop := ∀ t R, S = t :: R → ¬ (t.k = 4 ∧ t.text = [91])
theorem noOpen_sg {s : List UInt8} {S : List STok} (h : s ≠ [91]) : NoOpen (sgT s :: S) := by
  intro t R e hh
  injection e with e1 e2
  subst e1
  exact h hh.2
theorem signB_at {L : List STok} {p : Nat} {t : STok} {S : List STok} (h : L.drop p = t :: S) (s : List UInt8) : Rd.signB L ⟨(p : Int), none⟩ s = (t.k == 4 && t.text == s) := by
  unfold Rd.signB
  rw [(look_drop L p t S h).1]
  rfl
theorem signB_no {L : List STok} {p : Nat} {S : List STok} (h : L.drop p = S) (hS : NoOpen S) : Rd.signB L ⟨(p : Int), none⟩ [91] = false := by
  cases S with
  | nil =>
    unfold Rd.signB
    rw [look_drop_nil L p h]
    rfl
  | cons t R =>
    rw [signB_at h]
    have := hS t R rfl
    cases h1 : (t.k == 4 && t.text == [91]) with
    | false => rfl
    | true =>
      simp only [Bool.and_eq_true, beq_iff_eq] at h1
      exact absurd h1 this
theorem str_data (s : ByteArray) : Rd.str s.data.toList = s := rfl
theorem cast1 (p : Nat) : (p : Int) + 1 = ((p + 1 : Nat) : Int) := by omega

theorem read_tell (x : Ex) : ∀ (d n : Nat) (L : List STok) (p : Nat) (S : List STok), mayB x d = true → d + n = 41 → L.drop p = tellP x ++ S → (x.k = 2 → NoOpen S) →
    Rd.expr L n ⟨(p : Int), none⟩ = (x, ⟨((p + (tellP x).length : Nat) : Int), none⟩) := by
  refine Ex.ind (P := fun x => ∀ (d n : Nat) (L : List STok) (p : Nat) (S : List STok), mayB x d = true → d + n = 41 → L.drop p = tellP x ++ S → (x.k = 2 → NoOpen S) →
    Rd.expr L n ⟨(p : Int), none⟩ = (x, ⟨((p + (tellP x).length : Nat) : Int), none⟩)) (fun x ih => ?_) x
  intro d n L p S hmay hdn hL hno
  have hd : d ≤ 40 := by
    rw [mayB_eq] at hmay
    simp only [Bool.and_eq_true, decide_eq_true_eq] at hmay
    exact hmay.1.1
  have hk : ∀ y ∈ x.kids, mayB y (d + 1) = true := by
    rw [mayB_eq] at hmay
    simp only [Bool.and_eq_true] at hmay
    exact List.all_eq_true.1 hmay.2
  obtain ⟨n, rfl⟩ : ∃ m, n = m + 1 := ⟨n - 1, by omega⟩
  rcases may_cases hmay with ⟨num, rfl⟩ | ⟨s, hn, rfl⟩ | ⟨s, hn, rfl⟩ | ⟨op, a, b, h1, h2, rfl⟩ | ⟨s, a, hn, rfl⟩
  · rw [tellP_1] at hL ⊢
    obtain ⟨e1, _⟩ := look_drop L p _ _ hL
    simp only [Rd.expr, e1, Option.isSome_none, Bool.false_eq_true, if_false, if_true, Rd.adv, List.length_singleton]
    rw [cast1]
  · rw [tellP_2] at hL ⊢
    obtain ⟨e1, e2⟩ := look_drop L p _ _ hL
    have s1 := signB_at hL [35]
    have s2 := signB_at hL [40]
    have hb : Rd.nameB L ⟨(p : Int), none⟩ = true := by unfold Rd.nameB; rw [e1]; simp [nmT, hn]
    have hnm : Rd.name L ⟨(p : Int), none⟩ = (s.data.toList, ⟨((p + 1 : Nat) : Int), none⟩) := by
      unfold Rd.name
      rw [if_pos hb, e1]
      show (s.data.toList, Rd.adv ⟨(p : Int), none⟩) = _
      unfold Rd.adv
      rw [cast1]
    have s3 := signB_no e2 (hno rfl)
    simp only [Rd.expr, e1, Option.isSome_none, Bool.false_eq_true, if_false]
    rw [if_neg (by simp [nmT]), s1, s2, hnm]
    simp only [s3]
    simp [nmT, str_data]
  · rw [tellP_4] at hL ⊢
    obtain ⟨e1, e2⟩ := look_drop L p _ _ hL
    obtain ⟨e3, e4⟩ := look_drop L (p + 1) _ _ e2
    have s1 := signB_at hL [35]
    have hb : Rd.nameB L ⟨((p + 1 : Nat) : Int), none⟩ = true := by unfold Rd.nameB; rw [e3]; simp [nmT, hn]
    have hnm : Rd.name L ⟨((p + 1 : Nat) : Int), none⟩ = (s.data.toList, ⟨((p + 2 : Nat) : Int), none⟩) := by
      unfold Rd.name
      rw [if_pos hb, e3]
      show (s.data.toList, Rd.adv ⟨((p + 1 : Nat) : Int), none⟩) = _
      unfold Rd.adv
      rw [cast1]
    simp only [Rd.expr, e1, Option.isSome_none, Bool.false_eq_true, if_false, Rd.adv]
    rw [if_neg (by simp [sgT]), s1, cast1, hnm]
    simp [sgT, str_data]
  · have ha := fun L p S => ih a (by simp [Ex.kids]) (d + 1) n L p S (hk a (by simp [Ex.kids])) (by omega)
    have hb := fun L p S => ih b (by simp [Ex.kids]) (d + 1) n L p S (hk b (by simp [Ex.kids])) (by omega)
    rw [tellP_3] at hL ⊢
    simp only [List.append_assoc, List.singleton_append, List.cons_append, List.nil_append] at hL
    obtain ⟨e1, e2⟩ := look_drop L p _ _ hL
    have s1 := signB_at hL [35]
    have s2 := signB_at hL [40]
    have hA := ha L (p + 1) _ e2 (fun _ => noOpen_sg (opSign_no op h1 h2))
    have e3 : L.drop (p + 1 + (tellP a).length) = sgT (opSign op) :: (tellP b ++ sgT [41] :: S) := by
      rw [← List.drop_drop, e2, List.drop_left]
    obtain ⟨e4, e5⟩ := look_drop L _ _ _ e3
    have ho : Rd.op L ⟨((p + 1 + (tellP a).length : Nat) : Int), none⟩ = (op, ⟨((p + 1 + (tellP a).length + 1 : Nat) : Int), none⟩) := by
      have hob : Rd.opB L ⟨((p + 1 + (tellP a).length : Nat) : Int), none⟩ = true := by
        unfold Rd.opB
        rw [e4]
        simp [sgT, opIdx_sign op h1 h2, h1]
      unfold Rd.op
      rw [if_pos hob, e4]
      show (Rd.opIdx (opSign op), Rd.adv _) = _
      rw [opIdx_sign op h1 h2]
      unfold Rd.adv
      rw [cast1]
    have hB := hb L _ _ e5 (fun _ => noOpen_sg (by decide))
    have e6 : L.drop (p + 1 + (tellP a).length + 1 + (tellP b).length) = sgT [41] :: S := by
      rw [← List.drop_drop, e5, List.drop_left]
    have s3 := signB_at e6 [41]
    simp only [Rd.expr, e1, Option.isSome_none, Bool.false_eq_true, if_false, Rd.adv]
    rw [if_neg (by simp [sgT]), s1, s2, cast1, hA]
    simp only [ho, hB, Rd.need, s3, Rd.adv]
    rw [cast1]
    have e7 : p + 1 + (tellP a).length + 1 + (tellP b).length + 1 = p + ([sgT [40]] ++ tellP a ++ [sgT (opSign op)] ++ tellP b ++ [sgT [41]]).length := by simp; omega
    rw [e7]
    simp [sgT]
  · have ha := fun L p S => ih a (by simp [Ex.kids]) (d + 1) n L p S (hk a (by simp [Ex.kids])) (by omega)
    rw [tellP_5] at hL ⊢
    simp only [List.append_assoc, List.singleton_append, List.cons_append, List.nil_append] at hL
    obtain ⟨e1, e2⟩ := look_drop L p _ _ hL
    obtain ⟨e1', e2'⟩ := look_drop L (p + 1) _ _ e2
    have s1 := signB_at hL [35]
    have s2 := signB_at hL [40]
    have s3 := signB_at e2 [91]
    have hb : Rd.nameB L ⟨(p : Int), none⟩ = true := by unfold Rd.nameB; rw [e1]; simp [nmT, hn]
    have hnm : Rd.name L ⟨(p : Int), none⟩ = (s.data.toList, ⟨((p + 1 : Nat) : Int), none⟩) := by
      unfold Rd.name
      rw [if_pos hb, e1]
      show (s.data.toList, Rd.adv ⟨(p : Int), none⟩) = _
      unfold Rd.adv
      rw [cast1]
    have hA := ha L (p + 1 + 1) _ e2' (fun _ => noOpen_sg (by decide))
    have e6 : L.drop (p + 1 + 1 + (tellP a).length) = sgT [93] :: S := by
      rw [← List.drop_drop, e2', List.drop_left]
    have s4 := signB_at e6 [93]
    simp only [Rd.expr, e1, Option.isSome_none, Bool.false_eq_true, if_false]
    rw [if_neg (by simp [nmT]), s1, s2, hnm]
    simp only [s3, Rd.adv]
    rw [cast1 (p + 1), hA]
    simp only [Rd.need, s4, Rd.adv]
    rw [cast1 (p + 1 + 1 + (tellP a).length)]
    have e7 : p + 1 + 1 + (tellP a).length + 1 = p + ([nmT s, sgT [91]] ++ tellP a ++ [sgT [93]]).length := by simp; omega
    rw [e7]
    simp [nmT, sgT, str_data]
end Go.Proofs.YtkflcmengddijaaGreatDoor

namespace Go.Proofs.YtkflcmengddijaaGreatDoor
open Go.RowKit Lx
set_option linter.unusedVariables false
set_option linter.unusedSimpArgs false

def bName : ByteArray := ⟨#[98]⟩
def lenB : Ex := .mk 4 0 bName 0 []
/-- n levels around a number: bytes, or differences. -/
def dpE (b : Bool) : Nat → Ex
  | 0 => .mk 1 1 ⟨#[]⟩ 0 []
  | n + 1 => if b = true then .mk 5 0 bName 0 [dpE b n] else .mk 3 0 ⟨#[]⟩ 2 [dpE b n, lenB]
theorem dpE_t (n : Nat) : dpE true (n + 1) = .mk 5 0 bName 0 [dpE true n] := rfl
theorem dpE_f (n : Nat) : dpE false (n + 1) = .mk 3 0 ⟨#[]⟩ 2 [dpE false n, lenB] := rfl
theorem dp_tree (b : Bool) : ∀ n, Tree (dpE b n)
  | 0 => .n1 1
  | n + 1 => by
    cases b
    · exact .n3 2 _ _ (by decide) (by decide) (dp_tree false n) (.n4 bName)
    · exact .n5 bName _ (dp_tree true n)
theorem bName_is : isName bName.data.toList = true := by decide
theorem dp_may (b : Bool) : ∀ (n d : Nat), mayB (dpE b n) d = decide (d + n ≤ 40)
  | 0, d => by
    rw [mayB_eq]
    show (decide (d ≤ 40) && true && true) = _
    simp
  | n + 1, d => by
    have ih := dp_may b n (d + 1)
    have e : d + 1 + n = d + (n + 1) := by omega
    rw [e] at ih
    cases b
    · rw [dpE_f, mayB_eq]
      have h4 : mayB lenB (d + 1) = decide (d + 1 ≤ 40) := by
        rw [mayB_eq]
        simp [lenB, shapeB, Ex.k, Ex.num, Ex.name, Ex.op, Ex.kids, nameB, bName_is]
      have hs : shapeB (.mk 3 0 ⟨#[]⟩ 2 [dpE false n, lenB]) = true := rfl
      simp only [Ex.kids, List.all_cons, List.all_nil, ih, h4, hs, Bool.and_true]
      by_cases h : d + (n + 1) ≤ 40
      · simp [h, show d ≤ 40 by omega, show d + 1 ≤ 40 by omega]
      · simp [h]
    · rw [dpE_t, mayB_eq]
      have hs : shapeB (.mk 5 0 bName 0 [dpE true n]) = true := by
        simp [shapeB, Ex.k, Ex.num, Ex.name, Ex.op, Ex.kids, nameB, bName_is]
      simp only [Ex.kids, List.all_cons, List.all_nil, ih, hs, Bool.and_true]
      by_cases h : d + (n + 1) ≤ 40
      · simp [h, show d ≤ 40 by omega]
      · simp [h]
theorem dp_len (b : Bool) : ∀ n, (tellP (dpE b n)).length ≤ 1 + 5 * n
  | 0 => by
    show (tellP (.mk 1 1 ⟨#[]⟩ 0 [])).length ≤ _
    rw [tellP_1]; simp
  | n + 1 => by
    have ih := dp_len b n
    cases b
    · rw [dpE_f, tellP_3]
      have : (tellP lenB).length = 2 := by unfold lenB; rw [tellP_4]; rfl
      simp [this]
      omega
    · rw [dpE_t, tellP_5]
      simp
      omega
theorem dp_zero (b : Bool) : ∀ n, ∀ t ∈ tellP (dpE b n), t.at' = 0
  | 0 => by
    intro t ht
    have e : tellP (dpE b 0) = [⟨3, [], 1, 0⟩] := tellP_1 1 _ 0 []
    rw [e, List.mem_singleton] at ht
    subst ht
    rfl
  | n + 1 => by
    have ih := dp_zero b n
    intro t ht
    cases b
    · rw [dpE_f, tellP_3] at ht
      have e : tellP lenB = [sgT [35], nmT bName] := tellP_4 0 _ 0 []
      rw [e] at ht
      simp only [List.mem_append, List.mem_cons, List.not_mem_nil, or_false] at ht
      rcases ht with (((h | h) | h) | (h | h)) | h
      · subst h; rfl
      · exact ih t h
      · subst h; rfl
      · subst h; rfl
      · subst h; rfl
      · subst h; rfl
    · rw [dpE_t, tellP_5] at ht
      simp only [List.mem_append, List.mem_cons, List.not_mem_nil, or_false] at ht
      rcases ht with ((h | h) | h) | h
      · subst h; rfl
      · subst h; rfl
      · exact ih t h
      · subst h; rfl

theorem rd_keep (L : List STok) (e : Int × Int) : ∀ (n : Nat) (q : Int), (Rd.expr L n ⟨q, some e⟩).2 = ⟨q, some e⟩
  | 0, q => rfl
  | n + 1, q => rfl
theorem bad_keep (L : List STok) (q : Int) (x : Int × Int) (e : Int) : Rd.bad L ⟨q, some x⟩ e = ⟨q, some x⟩ := rfl
theorem place_zero {L : List STok} (h : ∀ t ∈ L, t.at' = 0) (p : Int) : Rd.place L p = 0 := by
  unfold Rd.place
  split
  · cases hg : L[min p.toNat (L.length - 1)]? with
    | none => rfl
    | some t => exact h t (List.mem_of_getElem? hg)
  · rfl
/-- Too deep for the levels that are left: so it ends. -/
theorem rd_deep (b : Bool) (L : List STok) (hL0 : ∀ t ∈ L, t.at' = 0) : ∀ (n k p : Nat) (S : List STok), n ≤ k → L.drop p = tellP (dpE b k) ++ S →
    ∃ q : Int, (Rd.expr L n ⟨(p : Int), none⟩).2 = ⟨q, some (0, 70)⟩
  | 0, k, p, S, _, _ => by
    refine ⟨p, ?_⟩
    show (⟨(p : Int), some (Rd.place L p, 70)⟩ : RS) = _
    rw [place_zero hL0]
  | n + 1, 0, p, S, h, _ => by omega
  | n + 1, k + 1, p, S, h, hL => by
    cases b
    · rw [dpE_f, tellP_3] at hL
      simp only [List.append_assoc, List.singleton_append, List.cons_append, List.nil_append] at hL
      obtain ⟨e1, e2⟩ := look_drop L p _ _ hL
      have s1 := signB_at hL [35]
      have s2 := signB_at hL [40]
      obtain ⟨q, hq⟩ := rd_deep false L hL0 n k (p + 1) _ (by omega) e2
      refine ⟨q, ?_⟩
      simp only [Rd.expr, e1, Option.isSome_none, Bool.false_eq_true, if_false, Rd.adv]
      rw [if_neg (by simp [sgT]), s1, s2, cast1]
      have hop : Rd.op L ⟨q, some (0, 70)⟩ = (0, ⟨q, some (0, 70)⟩) := rfl
      have hne : Rd.need L ⟨q, some (0, 70)⟩ [41] = ⟨q, some (0, 70)⟩ := rfl
      simp only [hq, hop, rd_keep, hne]
      simp [sgT]
    · rw [dpE_t, tellP_5] at hL
      simp only [List.append_assoc, List.singleton_append, List.cons_append, List.nil_append] at hL
      obtain ⟨e1, e2⟩ := look_drop L p _ _ hL
      obtain ⟨e1', e2'⟩ := look_drop L (p + 1) _ _ e2
      have s1 := signB_at hL [35]
      have s2 := signB_at hL [40]
      have s3 := signB_at e2 [91]
      have hb : Rd.nameB L ⟨(p : Int), none⟩ = true := by unfold Rd.nameB; rw [e1]; simp [nmT, bName_is]
      have hnm : Rd.name L ⟨(p : Int), none⟩ = (bName.data.toList, ⟨((p + 1 : Nat) : Int), none⟩) := by
        unfold Rd.name
        rw [if_pos hb, e1]
        show (bName.data.toList, Rd.adv ⟨(p : Int), none⟩) = _
        unfold Rd.adv
        rw [cast1]
      obtain ⟨q, hq⟩ := rd_deep true L hL0 n k (p + 1 + 1) _ (by omega) e2'
      refine ⟨q, ?_⟩
      simp only [Rd.expr, e1, Option.isSome_none, Bool.false_eq_true, if_false]
      rw [if_neg (by simp [nmT]), s1, s2, hnm]
      simp only [s3, Rd.adv]
      rw [cast1 (p + 1)]
      have hne : Rd.need L ⟨q, some (0, 70)⟩ [93] = ⟨q, some (0, 70)⟩ := rfl
      simp only [hq, hne]
      simp [nmT, sgT]
/-- WHAT IS READ OF ONE THAT IS TOO DEEP. -/
theorem rd_dp (b : Bool) (k : Nat) (h : 40 ≤ k) : ∃ q : Int, (Rd.expr (tellP (dpE b k)) 40 ⟨0, none⟩).2 = ⟨q, some (0, 70)⟩ :=
  rd_deep b _ (dp_zero b k) 40 k 0 [] h (by simp)
theorem rd_ok (b : Bool) (k : Nat) (h : k < 40) : Rd.expr (tellP (dpE b k)) 40 ⟨0, none⟩ = (dpE b k, ⟨((tellP (dpE b k)).length : Int), none⟩) := by
  have := read_tell (dpE b k) 1 40 (tellP (dpE b k)) 0 [] (by rw [dp_may]; exact decide_eq_true (by omega)) (by omega) (by simp) (fun _ t R e => by cases e)
  simpa using this
end Go.Proofs.YtkflcmengddijaaGreatDoor

namespace Go.Proofs.YtkflcmengddijaaGreatDoor
open Go.RowKit Lx
set_option linter.unusedVariables false
set_option linter.unusedSimpArgs false

theorem dp_names (b : Bool) : ∀ n, NamesOk (dpE b n)
  | 0 => by
    rw [namesOk_iff]
    exact ⟨(by show 0 ≤ 140737488355328; omega), ⟨(by show 0 ≤ 4503599627370496; omega), (by show (0 : Int) ≤ 0; omega), (by show (0 : Int) < 256; omega)⟩, fun y hy => by cases hy⟩
  | n + 1 => by
    have ih := dp_names b n
    have hl : NamesOk lenB := by
      rw [namesOk_iff]
      exact ⟨by decide, ⟨by decide, by decide, by decide⟩, fun y hy => by cases hy⟩
    cases b
    · rw [dpE_f, namesOk_iff]
      refine ⟨(by show 0 ≤ 140737488355328; omega), ⟨(by show 2 ≤ 4503599627370496; omega), (by show (0 : Int) ≤ 2; omega), (by show (2 : Int) < 256; omega)⟩, fun y hy => ?_⟩
      simp [Ex.kids] at hy
      rcases hy with rfl | rfl
      · exact ih
      · exact hl
    · rw [dpE_t, namesOk_iff]
      refine ⟨(by show 1 ≤ 140737488355328; omega), ⟨(by show 1 ≤ 4503599627370496; omega), (by show (0 : Int) ≤ 0; omega), (by show (0 : Int) < 256; omega)⟩, fun y hy => ?_⟩
      simp [Ex.kids] at hy
      subst hy
      exact ih
/-- e in its block, and what it leads to behind it. -/
structure DpSt (b : Bool) (i : Nat) (w W : World) (K : Option Addr) (c : Nat) : Prop where
  bk : Bk W w.heap.size (exL (dpE b i) K c).toArray 40
  ft : kEx.Foot (fun m => w.heap.size < m) W (dpE b i) (exL (dpE b i) K c)
  bel : Below w.heap.size w W
theorem DpSt.mono {b : Bool} {i : Nat} {w W W' : World} {K : Option Addr} {c : Nat} (h : DpSt b i w W K c) (hb : Below W.heap.size W W') : DpSt b i w W' K c :=
  ⟨h.bk.mono hb, foot_keep h.ft hb.size (fun n _ hn => hb.block n hn), h.bel.trans (hb.mono h.bel.size)⟩
/-- Five cells written over, and a block made. -/
abbrev dpW (w W : World) (x0 x1 x2 x3 x4 : Value) (cs : Array Value) : World := (((((W.setCell ⟨w.heap.size, 0, none⟩ x0).setCell ⟨w.heap.size, 1, none⟩ x1).setCell ⟨w.heap.size, 2, none⟩ x2).setCell ⟨w.heap.size, 3, none⟩ x3).setCell ⟨w.heap.size, 4, none⟩ x4).alloc (.cells cs 40)
theorem dpW_block {w W : World} {x0 x1 x2 x3 x4 : Value} {cs : Array Value} (m : Nat) (hm : w.heap.size < m) (hl : m < W.heap.size) : (dpW w W x0 x1 x2 x3 x4 cs).heap[m]? = W.heap[m]? := by
  unfold dpW
  rw [Below.heap_alloc _ _ _ (by simpa using hl)]
  rw [heap_setCell_other _ _ _ _ (by show m ≠ w.heap.size; omega), heap_setCell_other _ _ _ _ (by show m ≠ w.heap.size; omega), heap_setCell_other _ _ _ _ (by show m ≠ w.heap.size; omega), heap_setCell_other _ _ _ _ (by show m ≠ w.heap.size; omega), heap_setCell_other _ _ _ _ (by show m ≠ w.heap.size; omega)]
theorem DpSt.t {i : Nat} {w W : World} {K : Option Addr} {c : Nat} (h : DpSt true i w W K c) :
    DpSt true (i + 1) w (dpW w W (.int .u8 5) (.int .u64 0) (.string bName) (.int .u8 0) (.slice (some ⟨W.heap.size, 0, none⟩) 1 1) (exL (dpE true i) K c).toArray) (some ⟨W.heap.size, 0, none⟩) 1 := by
  have hs := h.bk.lt
  have f0 := foot_keep (w1 := dpW w W (.int .u8 5) (.int .u64 0) (.string bName) (.int .u8 0) (.slice (some ⟨W.heap.size, 0, none⟩) 1 1) (exL (dpE true i) K c).toArray) h.ft (by simp [dpW]) (fun m hm hl => dpW_block m hm hl)
  refine ⟨(bk5 h.bk _ _ _ _ _).alloc _, foot_one (kk := 5) (num := 0) (s := bName) (o := 0) (Bk.newAt _ _ (by simp)) (F := fun m => w.heap.size < m) hs f0, (below5 h.bel _ _ _ _ _).alloc (by simp; exact Nat.le_of_lt hs) _⟩
theorem DpSt.f {i : Nat} {w W : World} {K : Option Addr} {c : Nat} (h : DpSt false i w W K c) :
    DpSt false (i + 1) w (dpW w W (.int .u8 3) (.int .u64 0) (.string ⟨#[]⟩) (.int .u8 2) (.slice (some ⟨W.heap.size, 0, none⟩) 2 2) (exL (dpE false i) K c ++ exL lenB none 0).toArray) (some ⟨W.heap.size, 0, none⟩) 2 := by
  have hs := h.bk.lt
  have f0 := foot_keep (w1 := dpW w W (.int .u8 3) (.int .u64 0) (.string ⟨#[]⟩) (.int .u8 2) (.slice (some ⟨W.heap.size, 0, none⟩) 2 2) (exL (dpE false i) K c ++ exL lenB none 0).toArray) h.ft (by simp [dpW]) (fun m hm hl => dpW_block m hm hl)
  refine ⟨(bk5 h.bk _ _ _ _ _).alloc _, foot_two (kk := 3) (num := 0) (s := ⟨#[]⟩) (o := 2) (Bk.newAt _ _ (by simp)) (F := fun m => w.heap.size < m) hs f0 (foot_leaf rfl), (below5 h.bel _ _ _ _ _).alloc (by simp; exact Nat.le_of_lt hs) _⟩

set_option maxRecDepth 100000 in
set_option maxHeartbeats 4000000 in
theorem exprDeep_c (a : Int) (h0 : 0 ≤ a) (h1 : a < 256) (b : Bool) (w : World) (hE : Env w) (hsg : SgTab w) :
    Calls Tryz.prog 6 #[.int .u8 a, .bool b] w fun e w' => e = .returned (.bool true) ∧ Below w.heap.size w w' := by
  have S0 : DpSt b 0 w (w.alloc (.cells #[.int .u8 1, .int .u64 1, .string ⟨#[]⟩, .int .u8 0, .slice none 0 0] 40)) none 0 :=
    ⟨Bk.new w _ _, foot_leaf rfl, (Below.refl _ _).alloc (Nat.le_refl _) _⟩
  go_enter Tryz.func6, Tryz.ntmps6
  go_wp2_with fail
  have HS0 := Lib.hid S0
  have HE := Lib.hid hE
  have HSG := Lib.hid hsg
  clear S0 hE hsg
  go_loopw [7] (fun i wr => ∃ (ii : Nat) (K : Option Addr) (c : Nat), (ii : Int) ≤ a % 60 ∧ i = .int .i64 ((ii : Int) + 1) ∧ DpSt b ii w wr K c) (fun i _ => (1 + a % 60).toNat - (intOf i).toNat)
  case atStart => exact ⟨0, none, 0, by omega, rfl, HS0.out⟩
  case round =>
    clear HS0
    obtain ⟨ii, K, c, hii, rfl, hS⟩ := hrel
    have i0 : (0 : Int) ≤ (ii : Int) := by omega
    have C0 := hS.bk.cell
    have F0 := hS.bk.free
    have L0 := hS.bk.lt
    have L1 := Nat.ne_of_lt L0
    by_cases hlt : (ii : Int) < a % 60
    · have hlt' : (ii : Int) + 1 < 1 + a % 60 := by omega
      cases b with
      | true =>
        go_wp2_with fail
        go_roundw
        case rel => exact ⟨ii + 1, _, _, by omega, by go_num, hS.t⟩
        case measure => simp [intOf]; omega
      | false =>
        go_wp2_with fail
        go_roundw
        case rel => exact ⟨ii + 1, _, _, by omega, by go_num, hS.f⟩
        case measure => simp [intOf]; omega
    · have hge : ¬ (ii : Int) + 1 < 1 + a % 60 := by omega
      have hii59 : ii ≤ 59 := by omega
      have hl5 := dp_len b ii
      have hl9 : (tellP (dpE b ii)).length ≤ 10000 := by omega
      by_cases hdeep : (40 : Int) < 1 + a % 60
      · have HM := Lib.hid (show mayB (dpE b ii) 1 = false by rw [dp_may]; exact decide_eq_false (by omega))
        have h40 : 40 ≤ ii := by omega
        clear hl5
        go_wp2_with fail
        refine (check_c' (dpE b ii) K c wr (row_of_foot hS.ft).1 (row_of_foot hS.ft).2.2 false HM.out).mono ?_
        rintro e w1 ⟨rfl, hb1⟩
        have S1 := hS.mono hb1
        have C1 := S1.bk.cell
        clear C0 F0 L0 L1
        go_wp2_with fail
        refine (rtree_c (dp_tree b ii) K c w1 (dp_tree b ii) (row_of_foot S1.ft).2.2 (by omega)).mono ?_
        rintro e w2 ⟨⟨v2, rfl, ho2⟩, hb2⟩
        obtain ⟨a2, c2, rfl, hr2⟩ := own_row ho2 rfl
        have S2 := S1.mono hb2
        clear C1
        go_wp2_with fail
        refine (read_c (tellP (dpE b ii)) a2 c2 0 w2 hr2 (by omega) (HSG.out.mono S2.bel)).mono ?_
        rintro e w3 ⟨hR, hb3⟩
        obtain ⟨q, hq⟩ := rd_dp b ii h40
        have S3 := S2.mono hb3
        unfold ReadR at hR
        rw [hq] at hR
        have hR' : e = .returned (.tuple #[.agg exZero, .int .i64 0, .iface 30 (.agg #[.int .i64 0, .int .i64 70])]) := hR
        subst hR'
        clear hR hq
        have hb4 := (Below.refl w3.heap.size w3).alloc (Nat.le_refl _) (.cells exZero 40)
        have S4 := S3.mono hb4
        go_wp2_with fail
        refine (told_c 0 70 rfl _ (HE.out.mono S4.bel)).mono ?_
        rintro e w5 ⟨rfl, hb5⟩
        have S5 := S4.mono hb5
        go_wp2_with fail
        refine (alive07_c _ (HE.out.mono S5.bel) (HSG.out.mono S5.bel)).mono ?_
        rintro e w6 ⟨rfl, hb6⟩
        go_wp2_with fail
        go_ret
        exact ⟨rfl, (S5.mono hb6).bel⟩
      · have HM := Lib.hid (show mayB (dpE b ii) 1 = true by rw [dp_may]; exact decide_eq_true (by omega))
        have h40 : ii < 40 := by omega
        clear hl5
        go_wp2_with fail
        refine (check_c' (dpE b ii) K c wr (row_of_foot hS.ft).1 (row_of_foot hS.ft).2.2 true HM.out).mono ?_
        rintro e w1 ⟨rfl, hb1⟩
        have S1 := hS.mono hb1
        have C1 := S1.bk.cell
        clear C0 F0 L0 L1
        go_wp2_with fail
        refine (rtree_c (dp_tree b ii) K c w1 (dp_tree b ii) (row_of_foot S1.ft).2.2 (by omega)).mono ?_
        rintro e w2 ⟨⟨v2, rfl, ho2⟩, hb2⟩
        obtain ⟨a2, c2, rfl, hr2⟩ := own_row ho2 rfl
        have S2 := S1.mono hb2
        clear C1
        go_wp2_with fail
        refine (read_c (tellP (dpE b ii)) a2 c2 0 w2 hr2 (by omega) (HSG.out.mono S2.bel)).mono ?_
        rintro e w3 ⟨hR, hb3⟩
        have S3 := S2.mono hb3
        unfold ReadR at hR
        rw [rd_ok b ii h40] at hR
        obtain ⟨K3, k3, hR', hf3⟩ : ∃ K k, e = .returned (.tuple #[.agg (exL (dpE b ii) K k).toArray, .int .i64 (tellP (dpE b ii)).length, .nilIface]) ∧ kEx.Foot (fun m => w2.heap.size ≤ m) w3 (dpE b ii) (exL (dpE b ii) K k) := hR
        subst hR'
        have hr3 := (row_of_foot hf3).2.2
        have hb4 := (Below.refl w3.heap.size w3).alloc (Nat.le_refl _) (.cells (exL (dpE b ii) K3 k3).toArray 40)
        have S4 := S3.mono hb4
        have C4 := S4.bk.cell
        have D4 := (Bk.new w3 (exL (dpE b ii) K3 k3).toArray 40).cell
        have hr4 := hr3.mono hb4
        clear hf3
        have HN := Lib.hid ((namesOk_iff (dpE b ii)).1 (dp_names b ii))
        go_wp2_with fail
        refine (sameEx_c (dpE b ii) K3 K k3 c _ HN.out.2.1.1 hr4 (row_of_foot S4.ft).2.2 HN.out.2.2).mono ?_
        rintro e w5 ⟨rfl, hb5⟩
        have S5 := S4.mono hb5
        go_wp2_with fail
        refine (alive07_c _ (HE.out.mono S5.bel) (HSG.out.mono S5.bel)).mono ?_
        rintro e w6 ⟨rfl, hb6⟩
        go_wp2_with fail
        go_ret
        exact ⟨rfl, (S5.mono hb6).bel⟩
end Go.Proofs.YtkflcmengddijaaGreatDoor

namespace Go.Proofs.YtkflcmengddijaaGreatDoor.exprDeep
open Go.ChangeShapes Go.WideShapes Go.ChangeAt Go.RowKit
set_option linter.unusedVariables false

set_option maxRecDepth 100000 in
theorem contract (H : Type) (enc : TypeId × Value → H) (W : World) (base : Nat) (args : Array Value) (ds gs : List (DataW H)) (before : List MemPlace)
    (hval0 : ∀ (j : Nat) t v, Tryz.f6.params[j]? = some t → args[j]? = some v → Value.okWide Tryz.prog W .any base t v)
    (hW : DataW.Whole enc Tryz.prog Tryz.f6.params.toList Rows.exprDeepSpec.vars false W args.toList ds gs before) (hsz0 : (DataW.weightsEach Tryz.prog (Tryz.f6.params.toList ++ Rows.exprDeepSpec.plain.varTypes Tryz.prog) (ds ++ gs)).all (· ≤ reachBytes) = true) (hL : laidMetH Tryz.prog Rows.exprDeepRow.laid W) :
    Calls Tryz.prog 6 args W fun e W' => ∃ v, e = .returned v ∧ Rows.exprDeepSpec.post enc Tryz.prog Tryz.f6 false true false false W args v W' := by
  obtain ⟨hE, hsg⟩ := env9_of_laid hL
  have hval : ∀ (j : Nat) t v, Tryz.f6.params[j]? = some t → args[j]? = some v → Value.okWide Tryz.prog W .any base t v := hval0
  have hsz : (DataW.weightsEach Tryz.prog (Tryz.f6.params.toList ++ Rows.exprDeepSpec.plain.varTypes Tryz.prog) (ds ++ gs)).all (· ≤ reachBytes) = true := hsz0
  have hW' := hW
  obtain ⟨p, q, hA0, hV, rfl, hfz, hnd⟩ := hW
  have hA : DataW.TrodAll enc Tryz.prog W 0 (fun _ => true) true Tryz.f6.params.toList args.toList ds p := hA0
  rw [Tryz.params6] at hA hval hsz
  have hAll := hA
  obtain ⟨v0, vs0, d0, ds0, p0, q0, hargs, rfl, rfl, h0, r0⟩ := trodAll_cons hA
  obtain ⟨v1, vs1, d1, ds1, p1, q1, rfl, rfl, rfl, h1, r1⟩ := trodAll_cons r0
  obtain ⟨rfl, rfl, rfl⟩ := trodAll_nil r1
  obtain rfl : args = #[v0, v1] := by cases args; simp_all
  obtain ⟨rfl, rfl⟩ := trodVars_none hV
  obtain ⟨pp, rfl, rfl, rfl, hpp⟩ := Go.ChangeShapes.open_int Tryz.underlying5 (hval 0 5 v0 rfl rfl) h0
  obtain ⟨bb, rfl, rfl, rfl⟩ := Go.RowKit.open_bool Tryz.underlying4 (hval 1 4 v1 rfl rfl) h1
  have hpr : 0 ≤ pp ∧ pp < 256 := by
    simp [Lit.wf, IntKind.min, IntKind.max, IntKind.signed, IntKind.bits] at hpp
    omega
  refine (exprDeep_c pp hpr.1 hpr.2 bb W hE hsg).mono fun e W' ⟨he, bel⟩ => ?_
  subst he
  have hAll' := trodAll_below laidOut bel (by intro t ht; rcases (by simpa using ht : t = 5 ∨ t = 4) with rfl | rfl <;> exact ⟨by kernel_rfl, of_decide_eq_true (by kernel_rfl)⟩) hAll
  exact ⟨_, rfl, _, _, _, [], _, [], hW', trodAll_mk1 (shut_bool Tryz.underlying4 _), hAll', rfl, bel.frame _, fun h => by cases h⟩

set_option maxRecDepth 100000 in
theorem lifted (os : Os) (started : os.Started) (H : Type) (enc : TypeId × Value → H) (F : Stop.Interp) :
    ReturnsInHanded {} Tryz.checked os 6 .any ((OpenSpec.ofChange Rows.exprDeepSpec).preRow enc Tryz.prog Tryz.f6 Rows.exprDeepRow.domain false Rows.exprDeepRow.laid) (((OpenSpec.ofChange Rows.exprDeepSpec).at F).post enc Tryz.prog Tryz.f6 false true false false) := by
  have hx : ∃ places, DataW.whole enc Tryz.prog ((laidWorld9 os).forCall (fun _ _ => 0) ⟨#[], #[.int .u8 0, .bool false], []⟩).memory Tryz.f6.params.toList Rows.exprDeepSpec.vars false #[Value.int .u8 0, Value.bool false].toList 8 = some ([.lit (.int .u8 0), .lit (.bool false)], [], places) := ⟨[], by kernel_rfl⟩
  obtain ⟨places, hx⟩ := hx
  refine returnsInHanded_of_row (C := Tryz.checked) (s := OpenSpec.ofChange Rows.exprDeepSpec) own started (by kernel_rfl) Tryz.func6
    (witness_row_atRef (enc := enc) (C := Tryz.checked) false (laidWorld9 os) #[.int .u8 0, .bool false] rfl (by kernel_rfl) (by kernel_rfl) (by kernel_rfl)
      (OpenSpec.preRow_of_cond 8 hx (by kernel_rfl) (fun k hk => by cases hk) (by kernel_rfl) (laid_met9 os #[.int .u8 0, .bool false]))) ?_
  intro W base args ds gs before hval hW _ _ hsz hL _ _
  exact contract H enc W base args ds gs before hval hW hsz hL

theorem said : Rows.ExprDeepSaid :=
  OpenClaim.holds_of_cond 6 Tryz.f6 rfl rfl rfl rfl rfl rfl rfl ⟨rfl, rfl, rfl, rfl, rfl⟩ rfl rfl rfl rfl rfl (by kernel_rfl) Tryz.func6 (by kernel_rfl)
    (of_decide_eq_true (by kernel_rfl)) (by unfold Func.isWrapper; first | (rw [if_pos (by decide +kernel)]; kernel_rfl) | (rw [if_neg (by decide +kernel)]; exact ⟨rfl, rfl⟩))
    (fun os started H enc _ F => by rw [OpenClaim.pre_eq_preRow]; exact lifted os started H enc F)

theorem plain (f : FuncId) (fn : Func) (hf : Tryz.pinned.checked.prog.funcNamed "sacristy/sacristylaw07.ExprDeep" = some f) (hfn : Tryz.pinned.checked.prog.funcs[f]? = some fn) :
    true = Tryz.pinned.checked.prog.looks [] ∧ ∀ (j : Nat) t, fn.params[j]? = some t → Tryz.pinned.checked.prog.wantsStandIn t = false := by
  obtain rfl : f = 6 := Option.some.inj ((show Tryz.prog.funcNamed "sacristy/sacristylaw07.ExprDeep" = some 6 by kernel_rfl).symm.trans hf) |>.symm
  obtain rfl : fn = Tryz.f6 := (Option.some.inj (Tryz.func6.symm.trans hfn)).symm
  refine ⟨by kernel_rfl, fun j t ht => ?_⟩
  rw [Tryz.params6] at ht
  rcases (by simpa using Array.mem_of_getElem? ht : t = 5 ∨ t = 4) with rfl | rfl <;> kernel_rfl

theorem card : Rows.ExprDeepCardSaid :=
  Claim7.holds_tied_plain_at .later [] _ _ _ _ said (fun _ h => by cases h) (by kernel_rfl) (fun _ h => by cases h) exprDeep_row_tie rfl ⟨rfl, rfl⟩ (by kernel_rfl) rfl plain (by kernel_rfl)
end Go.Proofs.YtkflcmengddijaaGreatDoor.exprDeep
namespace Go.Proofs.YtkflcmengddijaaGreatDoor
theorem exprDeep_holds : Rows.ExprDeepCardSaid := exprDeep.card
end Go.Proofs.YtkflcmengddijaaGreatDoor
