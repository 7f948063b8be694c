/-
  The document's Tell, walked.
-/
import Derived.Test.YtkflcmengddijaaGreatDoorExRMay
namespace Go.Proofs.YtkflcmengddijaaGreatDoor
open Go.RowKit Lx
set_option linter.unusedVariables false
set_option linter.unusedSimpArgs false

abbrev tkZero : Array Value := #[.int .u8 0, .string ⟨#[]⟩, .int .u64 0, .int .i64 0]
set_option maxRecDepth 100000 in
theorem rsgn_c (s : ByteArray) (w : World) : Calls Tryz.prog 44 #[.string s] w fun e w' => e = .returned (.agg #[.int .u8 4, .string s, .int .u64 0, .int .i64 0]) ∧ Below w.heap.size w w' := by
  go_enter Tryz.func44, Tryz.ntmps44
  go_wp2_with fail
  exact bodyPost_ret (results_cell_row rfl _ _ w.heap.size 50 _ (0, 0) _ rfl (Bk.new w #[.int .u8 4, .string s, .int .u64 0, .int .i64 0] 50) Tryz.underlying50 rfl (by kernel_rfl)) rfl ⟨rfl, (Below.refl _ _).alloc (Nat.le_refl _) _⟩
set_option maxRecDepth 100000 in
theorem rnm_c (s : ByteArray) (w : World) : Calls Tryz.prog 43 #[.string s] w fun e w' => e = .returned (.agg #[.int .u8 1, .string s, .int .u64 0, .int .i64 0]) ∧ Below w.heap.size w w' := by
  go_enter Tryz.func43, Tryz.ntmps43
  go_wp2_with fail
  exact bodyPost_ret (results_cell_row rfl _ _ w.heap.size 50 _ (0, 0) _ rfl (Bk.new w #[.int .u8 1, .string s, .int .u64 0, .int .i64 0] 50) Tryz.underlying50 rfl (by kernel_rfl)) rfl ⟨rfl, (Below.refl _ _).alloc (Nat.le_refl _) _⟩

/-- What the document's Tell answers: a row of its own. -/
def RTellR (x : Ex) (w : World) (e : Ending) (w' : World) : Prop := ∃ v, e = .returned v ∧ w'.ownsRow w.heap.size 50 4 v (tellP x).length (cellsOf (tellP x))
def RTellOf (x : Ex) : Prop := ∀ (d : Nat) (K : Option Addr) (c : Nat) (w : World), mayB x d = true → kEx.Row w K x.kids → (tellP x).length ≤ 1000000000 →
  Calls Tryz.prog 21 #[.agg #[.int .u8 x.k, .int .u64 x.num, .string x.name, .int .u8 x.op, .slice K x.kids.length c]] w fun e w' => RTellR x w e w' ∧ Below w.heap.size w w'
theorem own_lit {w : World} {n : Nat} {ts : List STok} {B m : Nat} (h : Bk w n (cellsOf ts).toArray 50) (hB : B ≤ n) (hm : m = ts.length) (hl : m ≤ 1000) : w.ownsRow B 50 4 (.slice (some ⟨n, 0, none⟩) m m) m (cellsOf ts) := by
  subst hm
  refine ⟨cellsOf_length ts, .inr ⟨n, ts.length, (cellsOf ts).toArray, rfl, hB, h, Nat.le_refl _, by unfold maxLen; omega, ?_, ?_⟩⟩
  · simp [cellsOf_length]
  · simp [← cellsOf_length]

set_option maxRecDepth 100000 in
set_option maxHeartbeats 1000000 in
theorem rtell_1 (num : Int) (name : ByteArray) (op : Int) (kids : List Ex) : RTellOf (.mk 1 num name op kids) := by
  intro d K c w hmay hr hl
  have ht := tellP_1 num name op kids
  unfold RTellR
  rw [ht]
  simp only [Ex.k, Ex.num, Ex.name, Ex.op, Ex.kids] at *
  have hb0 := (Below.refl w.heap.size w).alloc (Nat.le_refl _) (.cells #[.int .u8 1, .int .u64 num, .string name, .int .u8 op, .slice K kids.length c] 40)
  have hb1 := hb0.alloc (by simp) (.cells #[.int .u8 3, .string ⟨#[]⟩, .int .u64 num, .int .i64 0] 50)
  have ho := own_lit (w := (w.alloc (.cells #[.int .u8 1, .int .u64 num, .string name, .int .u8 op, .slice K kids.length c] 40)).alloc (.cells #[.int .u8 3, .string ⟨#[]⟩, .int .u64 num, .int .i64 0] 50)) (n := w.heap.size + 1) (ts := [⟨3, [], num, 0⟩]) (B := w.heap.size) (m := 1) (Bk.newAt _ _ (by simp)) (by omega) rfl (by decide)
  have HO := Lib.hid ho
  clear ht hmay ho
  go_enter Tryz.func21, Tryz.ntmps21
  go_wp2_with fail
  go_ret
  exact ⟨⟨_, rfl, HO.out⟩, hb1⟩

set_option maxRecDepth 100000 in
set_option maxHeartbeats 1000000 in
theorem rtell_2 (num : Int) (name : ByteArray) (op : Int) (kids : List Ex) : RTellOf (.mk 2 num name op kids) := by
  intro d K c w hmay hr hl
  have ht := tellP_2 num name op kids
  unfold RTellR
  rw [ht]
  simp only [Ex.k, Ex.num, Ex.name, Ex.op, Ex.kids] at *
  have hb0 := (Below.refl w.heap.size w).alloc (Nat.le_refl _) (.cells #[.int .u8 2, .int .u64 num, .string name, .int .u8 op, .slice K kids.length c] 40)
  clear ht hmay
  go_enter Tryz.func21, Tryz.ntmps21
  go_wp2_with fail
  refine (rnm_c name _).mono ?_
  rintro e w1 ⟨rfl, hb1⟩
  have hB1 := bt hb0 hb1
  have hB2 := hB1.alloc hB1.size (.cells #[.int .u8 1, .string name, .int .u64 0, .int .i64 0] 50)
  have ho := own_lit (w := w1.alloc (.cells #[.int .u8 1, .string name, .int .u64 0, .int .i64 0] 50)) (n := w1.heap.size) (ts := [nmT name]) (B := w.heap.size) (m := 1) (Bk.newAt _ _ rfl) hB1.size rfl (by decide)
  have HO := Lib.hid ho
  clear ho
  go_wp2_with fail
  go_ret
  exact ⟨⟨_, rfl, HO.out⟩, hB2⟩

set_option maxRecDepth 100000 in
set_option maxHeartbeats 1000000 in
theorem rtell_4 (num : Int) (name : ByteArray) (op : Int) (kids : List Ex) : RTellOf (.mk 4 num name op kids) := by
  intro d K c w hmay hr hl
  have ht := tellP_4 num name op kids
  unfold RTellR
  rw [ht]
  simp only [Ex.k, Ex.num, Ex.name, Ex.op, Ex.kids] at *
  have hb0 := (Below.refl w.heap.size w).alloc (Nat.le_refl _) (.cells #[.int .u8 4, .int .u64 num, .string name, .int .u8 op, .slice K kids.length c] 40)
  have B0 := Bk.new w #[.int .u8 4, .int .u64 num, .string name, .int .u8 op, .slice K kids.length c] 40
  have C0 := B0.cell
  clear ht hmay
  go_enter Tryz.func21, Tryz.ntmps21
  go_wp2_with fail
  go_region_held3 (fun w' => w'.cell? ⟨w.heap.size, 2, none⟩ = some (.string name)) (first | go_keep | (exact cm (by assumption) hbk))
    (first
      | (go_at_call 44; refine (rsgn_c _ _).mono ?_; rintro e w1 ⟨rfl, hb1⟩; have hbk := hb1)
      | (go_at_call 43; refine (rnm_c _ _).mono ?_; rintro e w2 ⟨rfl, hb2⟩; have hbk := hb2))
  have hd : Below w.heap.size w (w.alloc (.cells #[.int .u8 4, .int .u64 num, .string name, .int .u8 op, .slice K kids.length c] 40)).drew := hb0.drew
  have hB1 : Below w.heap.size w w1 := hd.trans (hb1.mono hd.size)
  have hB2 : Below w.heap.size w w2 := hB1.trans (hb2.mono hB1.size)
  have hB3 := hB2.alloc hB2.size (.cells #[.int .u8 4, .string ⟨#[35]⟩, .int .u64 0, .int .i64 0, .int .u8 1, .string name, .int .u64 0, .int .i64 0] 50)
  have ho := own_lit (w := w2.alloc (.cells #[.int .u8 4, .string ⟨#[35]⟩, .int .u64 0, .int .i64 0, .int .u8 1, .string name, .int .u64 0, .int .i64 0] 50)) (n := w2.heap.size) (ts := [sgT [35], nmT name]) (B := w.heap.size) (m := 2) (Bk.newAt _ _ rfl) hB2.size rfl (by decide)
  have HO := Lib.hid ho
  clear ho
  go_wp2_with fail
  go_ret
  exact ⟨⟨_, rfl, HO.out⟩, hB3⟩

theorem own_news {w : World} {B g n cap : Nat} {ts : List STok} (h : w.ownsRow B 50 4 (.slice (some ⟨g, 0, none⟩) n cap) n (cellsOf ts)) (hn : n = ts.length) : ∀ j u, (cellsOf ts)[j]? = some u → w.cell? ((⟨g, 0, none⟩ : Addr).add j) = some u := by
  intro j u hj
  have hl : j < n * 4 := by rw [hn, ← cellsOf_length]; exact (List.getElem?_eq_some_iff.1 hj).1
  have hadd : (⟨g, 0, none⟩ : Addr).add j = ⟨g, j, none⟩ := by simp only [Addr.add]; split <;> simp_all
  rw [hadd]
  exact (World.ownsRow.cellAt h j hl).trans hj
theorem cellsOf_one (ts : List STok) : ∀ u ∈ cellsOf ts, u.oneCell' = true := by
  intro u hu
  obtain ⟨t, _, hu⟩ := List.mem_flatMap.1 hu
  simp [tokCells] at hu
  rcases hu with rfl | rfl | rfl | rfl <;> rfl
theorem cellsOf_append (a b : List STok) : cellsOf (a ++ b) = cellsOf a ++ cellsOf b := by simp [cellsOf]
theorem hz9 {w W w9 : World} {g n c : Nat} (h : Below w.heap.size w W) (hg : W.grownBy w9 (Value.slice (some ⟨g, 0, none⟩) n c).ownBlock) (hle : w.heap.size ≤ g) : Below w.heap.size w w9 :=
  h.grown hg h.size (fun q hq => by
    have : g = q := by simpa [Value.ownBlock] using hq
    omega)
theorem tellP_pos {x : Ex} {d : Nat} (h : mayB x d = true) : 0 < (tellP x).length := by
  rcases may_cases h with ⟨num, rfl⟩ | ⟨s, hn, rfl⟩ | ⟨s, hn, rfl⟩ | ⟨op, a, b, h1, h2, rfl⟩ | ⟨s, a, hn, rfl⟩
  · rw [tellP_1]; simp
  · rw [tellP_2]; simp
  · rw [tellP_4]; simp
  · rw [tellP_3]; simp
  · rw [tellP_5]; simp
set_option maxRecDepth 100000 in
set_option maxHeartbeats 2000000 in
theorem rtell_5 (name : ByteArray) (a : Ex) (ha : RTellOf a) : RTellOf (.mk 5 0 name 0 [a]) := by
  intro d K c w hmay hr hl
  have ht := tellP_5 0 name 0 a
  have hma : mayB a (d + 1) = true := by
    rw [mayB_eq] at hmay
    simp [Ex.kids] at hmay
    exact hmay.2
  have hpos := tellP_pos hma
  unfold RTellR
  rw [ht] at hl ⊢
  simp only [Ex.k, Ex.num, Ex.name, Ex.op, Ex.kids, List.length_cons, List.length_nil, List.length_append] at *
  have hb0 := (Below.refl w.heap.size w).alloc (Nat.le_refl _) (.cells #[.int .u8 5, .int .u64 0, .string name, .int .u8 0, .slice K 1 c] 40)
  have B0 := Bk.new w #[.int .u8 5, .int .u64 0, .string name, .int .u8 0, .slice K 1 c] 40
  have C0 := B0.cell
  obtain ⟨b, o, KK, kc, rfl, gm, gr, g0, g1, g2, g3, g4⟩ := kid_later hr hb0 0 (by simp)
  simp only [List.getElem_cons_zero, Nat.zero_mul, Nat.add_zero] at gm gr g0 g1 g2 g3 g4
  have hHA := Lib.hid (fun W (h : Below w.heap.size w W) => ha (d + 1) KK kc W hma (gr.mono h) (by omega))
  have hd : Below (w.alloc (.cells #[.int .u8 5, .int .u64 0, .string name, .int .u8 0, .slice (some ⟨b, o, none⟩) 1 c] 40)).heap.size (w.alloc (.cells #[.int .u8 5, .int .u64 0, .string name, .int .u8 0, .slice (some ⟨b, o, none⟩) 1 c] 40)) (w.alloc (.cells #[.int .u8 5, .int .u64 0, .string name, .int .u8 0, .slice (some ⟨b, o, none⟩) 1 c] 40)).drew := (Below.refl _ _).drew
  have HP := Lib.hid hpos
  have hl2 : 3 + (tellP a).length ≤ 1000000000 := by omega
  obtain ⟨i0, hi, iz0, iz1, iz2⟩ := info_parts infoTok
  clear ht hmay hma hpos hl
  go_enter Tryz.func21, Tryz.ntmps21
  go_wp2_with fail
  go_region_held3 (fun w' => w'.cell? ⟨w.heap.size, 2, none⟩ = some (.string name) ∧ w'.cell? ⟨w.heap.size, 4, none⟩ = some (.slice (some ⟨b, o, none⟩) 1 c) ∧
      w'.cell? ⟨b, o, none⟩ = some (.int .u8 a.k) ∧ w'.cell? ⟨b, o + 1, none⟩ = some (.int .u64 a.num) ∧ w'.cell? ⟨b, o + 2, none⟩ = some (.string a.name) ∧ w'.cell? ⟨b, o + 3, none⟩ = some (.int .u8 a.op) ∧ w'.cell? ⟨b, o + 4, none⟩ = some (.slice KK a.kids.length kc))
    (first | go_keep | (go_split_ands; exact ⟨cm (by assumption) hbk, cm (by assumption) hbk, cm (by assumption) hbk, cm (by assumption) hbk, cm (by assumption) hbk, cm (by assumption) hbk, cm (by assumption) hbk⟩) | (exact ⟨hfar _ _ (C0 2), hfar _ _ (C0 4), hfar _ _ g0, hfar _ _ g1, hfar _ _ g2, hfar _ _ g3, hfar _ _ g4⟩))
    (first
      | (go_at_call 44; refine (rsgn_c _ _).mono ?_; rintro e w2 ⟨rfl, hb2⟩; have hbk := hb2)
      | (go_at_call 43; refine (rnm_c _ _).mono ?_; rintro e w1 ⟨rfl, hb1⟩; have hbk := hb1)
      | (go_at_call 21; have hx1 := hd.trans (hb1.mono hd.size); have hx2 := hx1.trans (hb2.mono hx1.size); have hz2 := hb0.trans (hx2.mono hb0.size); have hx3 := hx2.alloc hx2.size (.cells #[.int .u8 1, .string name, .int .u64 0, .int .i64 0, .int .u8 4, .string ⟨#[91]⟩, .int .u64 0, .int .i64 0] 50); have hz3 := hb0.trans (hx3.mono hb0.size); have hL := own_lit (w := w2.alloc (.cells #[.int .u8 1, .string name, .int .u64 0, .int .i64 0, .int .u8 4, .string ⟨#[91]⟩, .int .u64 0, .int .i64 0] 50)) (n := w2.heap.size) (ts := [nmT name, sgT [91]]) (B := w.heap.size) (m := 2) (Bk.newAt _ _ rfl) (Nat.le_trans hb0.size hx2.size) rfl (by decide); refine (hHA.out _ hz3).mono ?_; rintro e w4 ⟨⟨v4, rfl, ho4⟩, hb4⟩; obtain ⟨g4', cap4, rfl, hg4, hg5⟩ := ho4.form HP.out; have hL4 := own_below hL hb4; have hx4 := hx3.trans (hb4.mono hx3.size); have hz4 := hz3.trans (hb4.mono hz3.size); have hbk := hb4)
      | (go_at_call 21; have hx1 := hd.trans (hb1.mono hd.size); have hx2 := hx1.trans (hb2.mono hx1.size); have hz2 := hb0.trans (hx2.mono hb0.size); refine (hHA.out _ hz2).mono ?_; rintro e w4 ⟨⟨v4, rfl, ho4⟩, hb4⟩; obtain ⟨g4', cap4, rfl, hg4, hg5⟩ := ho4.form HP.out; have hx4 := hx2.trans (hb4.mono hx2.size); have hz4 := hz2.trans (hb4.mono hz2.size); have hLB := own_lit (w := w4.alloc (.cells #[.int .u8 1, .string name, .int .u64 0, .int .i64 0, .int .u8 4, .string ⟨#[91]⟩, .int .u64 0, .int .i64 0] 50)) (n := w4.heap.size) (ts := [nmT name, sgT [91]]) (B := w.heap.size) (m := 2) (Bk.newAt _ _ rfl) hz4.size rfl (by decide); have hoB := ho4.alloc (.cells #[.int .u8 1, .string name, .int .u64 0, .int .i64 0, .int .u8 4, .string ⟨#[91]⟩, .int .u64 0, .int .i64 0] 50); have hx5 := hx4.alloc hx4.size (.cells #[.int .u8 1, .string name, .int .u64 0, .int .i64 0, .int .u8 4, .string ⟨#[91]⟩, .int .u64 0, .int .i64 0] 50); have hz5 := hz4.alloc hz4.size (.cells #[.int .u8 1, .string name, .int .u64 0, .int .i64 0, .int .u8 4, .string ⟨#[91]⟩, .int .u64 0, .int .i64 0] 50); have hbk := hb4)
      | (have _q := hL4; refine step_append_lies _ rfl _ _ _ rfl w.heap.size 50 i0 _ 4 40 Tryz.underlying23 hi iz0 iz1 iz2 rfl (by omega) (.slice (some ⟨w2.heap.size, 0, none⟩) 2 2) 2 (cellsOf [nmT name, sgT [91]]) (by rfl) hL4 ⟨g4', 0, none⟩ (tellP a).length cap4 (cellsOf (tellP a)) (by rfl) (cellsOf_length _) (own_news ho4 rfl) (cellsOf_one _) HP.out (by unfold maxLen; omega) (by omega) hz4.size _ rfl ?_; intro gg cap w9 hown1 hgrow hat hlt; have hfar : ∀ (p : Addr) (v : Value), (w.alloc (.cells #[.int .u8 5, .int .u64 0, .string name, .int .u8 0, .slice (some ⟨b, o, none⟩) 1 c] 40)).cell? p = some v → w9.cell? p = some v := (fun p v hp => (hgrow.cell_far p (Nat.lt_of_lt_of_le (World.block_lt_of_cell? _ _ hp) hx4.size) (fun e => by injection e with e; have h1 := World.block_lt_of_cell? _ _ hp; have h2 := hx2.size; have h3 := hx4.size; have e' : p.block = w2.heap.size := e; omega)).trans (cm hp hx4)); have hx9 := hz9 hz4 hgrow (by have h2 := hx2.size; have h3 := hx4.size; have h4 := hb0.size; omega))
      | (have _q := hLB; refine step_append_lies _ rfl _ _ _ rfl w.heap.size 50 i0 _ 4 40 Tryz.underlying23 hi iz0 iz1 iz2 rfl (by omega) (.slice (some ⟨w4.heap.size, 0, none⟩) 2 2) 2 (cellsOf [nmT name, sgT [91]]) (by rfl) hLB ⟨g4', 0, none⟩ (tellP a).length cap4 (cellsOf (tellP a)) (by rfl) (cellsOf_length _) (own_news hoB rfl) (cellsOf_one _) HP.out (by unfold maxLen; omega) (by omega) hz5.size _ rfl ?_; intro gg cap w9 hown1 hgrow hat hlt; have hfar : ∀ (p : Addr) (v : Value), (w.alloc (.cells #[.int .u8 5, .int .u64 0, .string name, .int .u8 0, .slice (some ⟨b, o, none⟩) 1 c] 40)).cell? p = some v → w9.cell? p = some v := (fun p v hp => (hgrow.cell_far p (Nat.lt_of_lt_of_le (World.block_lt_of_cell? _ _ hp) hx5.size) (fun e => by injection e with e; have h1 := World.block_lt_of_cell? _ _ hp; have h2 := hx2.size; have h3 := hx4.size; have e' : p.block = w4.heap.size := e; omega)).trans (cm hp hx5)); have hx9 := hz9 hz5 hgrow (by have h2 := hx2.size; have h3 := hx4.size; have h4 := hb0.size; omega)))
  all_goals
    go_wp2_with fail
    refine (rsgn_c _ _).mono ?_
    rintro e w10 ⟨rfl, hb10⟩
    have hx10 := hx9.trans (hb10.mono hx9.size)
    have hown2 : w10.ownsRow w.heap.size 50 4 (.slice (some ⟨gg, 0, none⟩) (2 + (tellP a).length) cap) (2 + (tellP a).length) (cellsOf ([nmT name, sgT [91]] ++ tellP a)) := by rw [cellsOf_append]; exact own_below hown1 hb10
    have hx11 := hx10.alloc hx10.size (.cells #[.int .u8 4, .string ⟨#[93]⟩, .int .u64 0, .int .i64 0] 50)
    have hsz10 := hx10.size
    go_wp2_with (at_builtin; refine wpList_append_tok rfl _ _ rfl w.heap.size _ (2 + (tellP a).length) (cellsOf ([nmT name, sgT [91]] ++ tellP a)) rfl (hown2.alloc _) w10.heap.size _ _ _ _ ⟨rfl, rfl, rfl, rfl⟩ rfl (Bk.new _ _ _) (by omega) (by simp; omega) ?_; intro v1 w11 hown3 hgrow3)
    go_ret
    refine ⟨⟨_, rfl, ?_⟩, hx11.grown hgrow3 hx11.size (own_from hown2)⟩
    have e9 : cellsOf ([nmT name, sgT [91]] ++ tellP a ++ [sgT [93]]) = cellsOf ([nmT name, sgT [91]] ++ tellP a) ++ [.int .u8 4, .string ⟨#[93]⟩, .int .u64 0, .int .i64 0] := by rw [cellsOf_append]; rfl
    have e8 : 2 + (tellP a).length + 1 = 0 + 1 + 1 + (tellP a).length + (0 + 1) := by omega
    rw [e8, ← e9] at hown3
    exact hown3
end Go.Proofs.YtkflcmengddijaaGreatDoor
