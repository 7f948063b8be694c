/-
  The document's Tell, walked: two put together; joined.
-/
import Derived.Test.YtkflcmengddijaaGreatDoorExRTell
namespace Go.Proofs.YtkflcmengddijaaGreatDoor
open Go.RowKit Lx
set_option linter.unusedVariables false
set_option linter.unusedSimpArgs false

/-- l = append(l, ts...), ts a row of the call's own. -/
theorem wpList_append_toks {ops : Array Oper} {rest : List Oper} {o : Oper} {a : Act} {Q : Exit → Act → World → Prop} {w : World} (hgd : o.guard = none) (s x : Operand)
    (ho : o.op = .call { callee := .builtin .append, args := #[s, x], argTypes := #[23, 23] }) (base : Nat) (v : Value) (n : Nat) (xs : List Value) (hs : a.eval s = v) (hown : w.ownsRow base 50 4 v n xs)
    (g m c : Nat) (ts : List STok) (hx : a.eval x = .slice (some ⟨g, 0, none⟩) m c) (hm : m = ts.length) (hnews : ∀ j u, (cellsOf ts)[j]? = some u → w.cell? ((⟨g, 0, none⟩ : Addr).add j) = some u) (hn : n + m ≤ 1000000010) (hb : base ≤ w.heap.size)
    (h : ∀ v' w', w'.ownsRow base 50 4 v' (n + m) (xs ++ cellsOf ts) → w.grownBy w' v.ownBlock → wpList Tryz.prog ops Q rest (a.put o.dst v') w') : wpList Tryz.prog ops Q (o :: rest) a w := by
  obtain ⟨i0, hi, hz0, hz1, hz2⟩ := info_parts infoTok
  exact wpList_append_own w hgd s x _ ho base 50 i0 (.agg #[.int .u8 0, .string ⟨#[]⟩, .int .u64 0, .int .i64 0]) 4 40 Tryz.underlying23 hi hz0 hz1 hz2 rfl (by decide) v n xs hs hown ⟨g, 0, none⟩ m c (cellsOf ts) hx (by rw [hm]; exact cellsOf_length ts) hnews (cellsOf_one ts) (by unfold maxLen; omega) (by omega) hb (fun v' w' h1 h2 _ => h v' w' h1 h2)
theorem own_base_weak {w : World} {B B' n : Nat} {e : TypeId} {size : Nat} {v : Value} {xs : List Value} (h : w.ownsRow B e size v n xs) (hB : B' ≤ B) : w.ownsRow B' e size v n xs := by
  refine ⟨h.1, ?_⟩
  rcases h.2 with h0 | ⟨g, cap, cur, e1, h1, h2⟩
  · exact .inl h0
  · exact .inr ⟨g, cap, cur, e1, Nat.le_trans hB h1, h2⟩

set_option maxRecDepth 100000 in
set_option maxHeartbeats 4000000 in
theorem rtell_3 (name : ByteArray) (op : Int) (h1 : 1 ≤ op) (h2 : op ≤ 14) (x y : Ex) (ha : RTellOf x) (hy : RTellOf y) : RTellOf (.mk 3 0 name op [x, y]) := by
  intro d K c w hmay hr hl
  have ht := tellP_3 0 name op x y
  have hma : mayB x (d + 1) = true ∧ mayB y (d + 1) = true := by
    rw [mayB_eq] at hmay
    simp [Ex.kids] at hmay
    exact hmay.2
  have hpos := tellP_pos hma.1
  have hpos2 := tellP_pos hma.2
  unfold RTellR
  rw [ht] at hl ⊢
  simp only [Ex.k, Ex.num, Ex.name, Ex.op, Ex.kids, List.length_cons, List.length_nil, List.length_append] at *
  have hb0 := (Below.refl w.heap.size w).alloc (Nat.le_refl _) (.cells #[.int .u8 3, .int .u64 0, .string name, .int .u8 op, .slice K 2 c] 40)
  have B0 := Bk.new w #[.int .u8 3, .int .u64 0, .string name, .int .u8 op, .slice K 2 c] 40
  have C0 := B0.cell
  obtain ⟨b, o, KK, kc, rfl, gm, gr, g0, g1, g2, g3, g4⟩ := kid_later hr hb0 0 (by simp)
  simp only [List.getElem_cons_zero, Nat.zero_mul, Nat.add_zero] at gm gr g0 g1 g2 g3 g4
  obtain ⟨b', o', K5, kc5, e5, gm5, gr5, f0, f1, f2, f3, f4⟩ := kid_later hr hb0 1 (by simp)
  obtain ⟨rfl, rfl⟩ : b = b' ∧ o = o' := by injection e5 with e5; injection e5 with e5 e6; exact ⟨e5, e6⟩
  simp only [List.getElem_cons_succ, List.getElem_cons_zero, Nat.one_mul] at gm5 gr5 f0 f1 f2 f3 f4
  have hsz : (w.alloc (.cells #[.int .u8 3, .int .u64 0, .string name, .int .u8 op, .slice (some ⟨b, o, none⟩) 2 c] 40)).heap.size = w.heap.size + 1 := by simp
  have hHA := Lib.hid (fun W (h : Below (w.alloc (.cells #[.int .u8 3, .int .u64 0, .string name, .int .u8 op, .slice (some ⟨b, o, none⟩) 2 c] 40)).heap.size (w.alloc (.cells #[.int .u8 3, .int .u64 0, .string name, .int .u8 op, .slice (some ⟨b, o, none⟩) 2 c] 40)) W) => ha (d + 1) KK kc W hma.1 (gr.mono (hb0.trans (h.mono hb0.size))) (by omega))
  have hHB := Lib.hid (fun W (h : Below (w.alloc (.cells #[.int .u8 3, .int .u64 0, .string name, .int .u8 op, .slice (some ⟨b, o, none⟩) 2 c] 40)).heap.size (w.alloc (.cells #[.int .u8 3, .int .u64 0, .string name, .int .u8 op, .slice (some ⟨b, o, none⟩) 2 c] 40)) W) => hy (d + 1) K5 kc5 W hma.2 (gr5.mono (hb0.trans (h.mono hb0.size))) (by omega))
  have hd : Below (w.alloc (.cells #[.int .u8 3, .int .u64 0, .string name, .int .u8 op, .slice (some ⟨b, o, none⟩) 2 c] 40)).heap.size (w.alloc (.cells #[.int .u8 3, .int .u64 0, .string name, .int .u8 op, .slice (some ⟨b, o, none⟩) 2 c] 40)) (w.alloc (.cells #[.int .u8 3, .int .u64 0, .string name, .int .u8 op, .slice (some ⟨b, o, none⟩) 2 c] 40)).drew := (Below.refl _ _).drew
  have HP := Lib.hid hpos
  have HP2 := Lib.hid hpos2
  have hl2 : 3 + (tellP x).length + (tellP y).length ≤ 1000000000 := by omega
  obtain ⟨i0, hi, iz0, iz1, iz2⟩ := info_parts infoTok
  have F := Lib.hid (And.intro f0 (And.intro f1 (And.intro f2 (And.intro f3 f4))))
  clear ht hmay hma hpos hpos2 hl e5 f0 f1 f2 f3 f4
  go_enter Tryz.func21, Tryz.ntmps21
  go_wp2_with fail
  go_region_held3 (fun w' => w'.cell? ⟨w.heap.size, 4, none⟩ = some (.slice (some ⟨b, o, none⟩) 2 c) ∧
      w'.cell? ⟨b, o, none⟩ = some (.int .u8 x.k) ∧ w'.cell? ⟨b, o + 1, none⟩ = some (.int .u64 x.num) ∧ w'.cell? ⟨b, o + 2, none⟩ = some (.string x.name) ∧ w'.cell? ⟨b, o + 3, none⟩ = some (.int .u8 x.op) ∧ w'.cell? ⟨b, o + 4, none⟩ = some (.slice KK x.kids.length kc))
    (first | go_keep | (go_split_ands; exact ⟨cm (by assumption) hbk, cm (by assumption) hbk, cm (by assumption) hbk, cm (by assumption) hbk, cm (by assumption) hbk, cm (by assumption) hbk⟩) | (exact ⟨hfar _ _ (C0 4), hfar _ _ g0, hfar _ _ g1, hfar _ _ g2, hfar _ _ g3, hfar _ _ g4⟩))
    (first
      | (go_at_call 44; refine (rsgn_c _ _).mono ?_; rintro e w1 ⟨rfl, hb1⟩; have hbk := hb1)
      | (go_at_call 21; have hx1 := hd.trans (hb1.mono hd.size); have hx3 := hx1.alloc hx1.size (.cells #[.int .u8 4, .string ⟨#[40]⟩, .int .u64 0, .int .i64 0] 50); have hL := own_lit (w := w1.alloc (.cells #[.int .u8 4, .string ⟨#[40]⟩, .int .u64 0, .int .i64 0] 50)) (n := w1.heap.size) (ts := [sgT [40]]) (B := w.heap.size + 1) (m := 1) (Bk.newAt _ _ rfl) (hsz ▸ hx1.size) rfl (by decide); refine (hHA.out _ hx3).mono ?_; rintro e w4 ⟨⟨v4, rfl, ho4⟩, hb4⟩; obtain ⟨g4', cap4, rfl, hg4, hg5⟩ := ho4.form HP.out; have hL4 := own_below hL hb4; have hx4 := hx3.trans (hb4.mono hx3.size); have hbk := hb4)
      | (go_at_call 21; have hx1 := hd.trans (hb1.mono hd.size); refine (hHA.out _ hx1).mono ?_; rintro e w4 ⟨⟨v4, rfl, ho4⟩, hb4⟩; obtain ⟨g4', cap4, rfl, hg4, hg5⟩ := ho4.form HP.out; have hx4 := hx1.trans (hb4.mono hx1.size); have hLB := own_lit (w := w4.alloc (.cells #[.int .u8 4, .string ⟨#[40]⟩, .int .u64 0, .int .i64 0] 50)) (n := w4.heap.size) (ts := [sgT [40]]) (B := w.heap.size + 1) (m := 1) (Bk.newAt _ _ rfl) (hsz ▸ hx4.size) rfl (by decide); have hoB := ho4.alloc (.cells #[.int .u8 4, .string ⟨#[40]⟩, .int .u64 0, .int .i64 0] 50); have hx5 := hx4.alloc hx4.size (.cells #[.int .u8 4, .string ⟨#[40]⟩, .int .u64 0, .int .i64 0] 50); have hbk := hb4)
      | (have _q := hL4; refine step_append_lies _ rfl _ _ _ rfl (w.heap.size + 1) 50 i0 _ 4 40 Tryz.underlying23 hi iz0 iz1 iz2 rfl (by omega) (.slice (some ⟨w1.heap.size, 0, none⟩) 1 1) 1 (cellsOf [sgT [40]]) (by rfl) hL4 ⟨g4', 0, none⟩ (tellP x).length cap4 (cellsOf (tellP x)) (by rfl) (cellsOf_length _) (own_news ho4 rfl) (cellsOf_one _) HP.out (by unfold maxLen; omega) (by omega) (hsz ▸ hx4.size) _ rfl ?_; intro gg cap w9 hown1 hgrow hat hlt; have hfar : ∀ (p : Addr) (v : Value), (w.alloc (.cells #[.int .u8 3, .int .u64 0, .string name, .int .u8 op, .slice (some ⟨b, o, none⟩) 2 c] 40)).cell? p = some v → w9.cell? p = some v := (fun p v hp => (hgrow.cell_far p (Nat.lt_of_lt_of_le (World.block_lt_of_cell? _ _ hp) hx4.size) (fun e => by injection e with e; have h1 := World.block_lt_of_cell? _ _ hp; have h2 := hx1.size; have h3 := hx4.size; have e' : p.block = w1.heap.size := e; omega)).trans (cm hp hx4)); have hx9 := hz9 hx4 hgrow (by have h2 := hx1.size; have h3 := hx4.size; omega))
      | (have _q := hLB; refine step_append_lies _ rfl _ _ _ rfl (w.heap.size + 1) 50 i0 _ 4 40 Tryz.underlying23 hi iz0 iz1 iz2 rfl (by omega) (.slice (some ⟨w4.heap.size, 0, none⟩) 1 1) 1 (cellsOf [sgT [40]]) (by rfl) hLB ⟨g4', 0, none⟩ (tellP x).length cap4 (cellsOf (tellP x)) (by rfl) (cellsOf_length _) (own_news hoB rfl) (cellsOf_one _) HP.out (by unfold maxLen; omega) (by omega) (hsz ▸ hx5.size) _ rfl ?_; intro gg cap w9 hown1 hgrow hat hlt; have hfar : ∀ (p : Addr) (v : Value), (w.alloc (.cells #[.int .u8 3, .int .u64 0, .string name, .int .u8 op, .slice (some ⟨b, o, none⟩) 2 c] 40)).cell? p = some v → w9.cell? p = some v := (fun p v hp => (hgrow.cell_far p (Nat.lt_of_lt_of_le (World.block_lt_of_cell? _ _ hp) hx5.size) (fun e => by injection e with e; have h1 := World.block_lt_of_cell? _ _ hp; have h2 := hx1.size; have h3 := hx4.size; have e' : p.block = w4.heap.size := e; omega)).trans (cm hp hx5)); have hx9 := hz9 hx5 hgrow (by have h2 := hx1.size; have h3 := hx4.size; omega)))
  all_goals
    clear g0 g1 g2 g3 g4
    have C9 := (B0.mono hx9).cell
    go_wp2_with fail
    refine (rSg_c op (by omega) (by omega) _).mono ?_
    rintro e w10 ⟨rfl, hb10⟩
    have hx10 := hx9.trans (hb10.mono hx9.size)
    go_wp2_with fail
    refine (rsgn_c _ _).mono ?_
    rintro e w11 ⟨rfl, hb11⟩
    have hx11 := hx10.trans (hb11.mono hx10.size)
    have hown2 : w11.ownsRow (w.heap.size + 1) 50 4 (.slice (some ⟨gg, 0, none⟩) (1 + (tellP x).length) cap) (1 + (tellP x).length) (cellsOf ([sgT [40]] ++ tellP x)) := by rw [cellsOf_append]; exact own_below (own_below hown1 hb10) hb11
    have hs11 := hx11.size
    rw [hsz] at hs11
    clear C9
    go_wp2_with (at_builtin; refine wpList_append_tok rfl _ _ rfl (w.heap.size + 1) _ (1 + (tellP x).length) (cellsOf ([sgT [40]] ++ tellP x)) rfl (hown2.alloc _) w11.heap.size _ _ _ _ ⟨rfl, rfl, rfl, rfl⟩ rfl (Bk.new _ _ _) (by omega) (by simp; omega) ?_; intro v12 w12 hown3 hgrow3; obtain ⟨a12, c12, rfl⟩ := own_shape hown3; have hx12 := (hx11.alloc hx11.size (.cells #[.int .u8 4, .string ⟨(opSign op).toArray⟩, .int .u64 0, .int .i64 0] 50)).grown hgrow3 (by simp; omega) (fun q hq => by have := own_from hown2 q hq; omega); have C12 := (B0.mono hx12).cell; have f0 := cm F.out.1 hx12; have f1 := cm F.out.2.1 hx12; have f2 := cm F.out.2.2.1 hx12; have f3 := cm F.out.2.2.2.1 hx12; have f4 := cm F.out.2.2.2.2 hx12)
    refine (hHB.out _ hx12).mono ?_
    rintro e w13 ⟨⟨v13, rfl, ho13⟩, hb13⟩
    obtain ⟨g13, cap13, rfl, hg13, hg13'⟩ := ho13.form HP2.out
    have hx13 := hx12.trans (hb13.mono hx12.size)
    have hs13 := hx13.size
    rw [hsz] at hs13
    have hown4 : w13.ownsRow (w.heap.size + 1) 50 4 (.slice a12 (1 + (tellP x).length + 1) c12) (1 + (tellP x).length + 1) (cellsOf ([sgT [40]] ++ tellP x ++ [sgT (opSign op)])) := by rw [cellsOf_append _ [sgT (opSign op)]]; exact own_below hown3 hb13
    clear C12 f0 f1 f2 f3 f4
    go_wp2_with (at_builtin; refine wpList_append_toks rfl _ _ rfl (w.heap.size + 1) _ (1 + (tellP x).length + 1) _ rfl hown4 g13 (tellP y).length cap13 (tellP y) rfl rfl (own_news ho13 rfl) (by omega) (by omega) ?_; intro v14 w14 hown5 hgrow5; obtain ⟨a14, c14, rfl⟩ := own_shape hown5; have hx14 := hx13.grown hgrow5 hx13.size (fun q hq => by have := own_from hown4 q hq; omega))
    refine (rsgn_c _ _).mono ?_
    rintro e w15 ⟨rfl, hb15⟩
    have hx15 := hx14.trans (hb15.mono hx14.size)
    have hs15 := hx15.size
    rw [hsz] at hs15
    have hown6 := own_below hown5 hb15
    go_wp2_with (at_builtin; refine wpList_append_tok rfl _ _ rfl (w.heap.size + 1) _ (1 + (tellP x).length + 1 + (tellP y).length) _ rfl (hown6.alloc _) w15.heap.size _ _ _ _ ⟨rfl, rfl, rfl, rfl⟩ rfl (Bk.new _ _ _) (by omega) (by simp; omega) ?_; intro v16 w16 hown7 hgrow7)
    go_ret
    have hx16 := (hx15.alloc hx15.size (.cells #[.int .u8 4, .string ⟨#[41]⟩, .int .u64 0, .int .i64 0] 50)).grown hgrow7 (by simp; omega) (fun q hq => by have := own_from hown6 q hq; omega)
    refine ⟨⟨_, rfl, ?_⟩, hb0.trans (hx16.mono hb0.size)⟩
    have e9 : cellsOf ([sgT [40]] ++ tellP x ++ [sgT (opSign op)] ++ tellP y ++ [sgT [41]]) = cellsOf ([sgT [40]] ++ tellP x ++ [sgT (opSign op)]) ++ cellsOf (tellP y) ++ [.int .u8 4, .string ⟨#[41]⟩, .int .u64 0, .int .i64 0] := by rw [cellsOf_append, cellsOf_append _ (tellP y)]; rfl
    have e8 : 1 + (tellP x).length + 1 + (tellP y).length + 1 = 0 + 1 + (tellP x).length + (0 + 1) + (tellP y).length + (0 + 1) := by omega
    rw [e8, ← e9] at hown7
    exact own_base_weak hown7 (Nat.le_succ _)

theorem rtell_c (x : Ex) : RTellOf x := by
  refine Ex.ind (P := RTellOf) (fun x ih => ?_) x
  intro d K c w hmay
  rcases may_cases hmay with ⟨num, rfl⟩ | ⟨s, hn, rfl⟩ | ⟨s, hn, rfl⟩ | ⟨op, a, b, h1, h2, rfl⟩ | ⟨s, a, hn, rfl⟩
  · exact rtell_1 num _ 0 [] d K c w hmay
  · exact rtell_2 0 _ 0 [] d K c w hmay
  · exact rtell_4 0 _ 0 [] d K c w hmay
  · exact rtell_3 _ op h1 h2 a b (ih a (by simp [Ex.kids])) (ih b (by simp [Ex.kids])) d K c w hmay
  · exact rtell_5 s a (ih a (by simp [Ex.kids])) d K c w hmay
end Go.Proofs.YtkflcmengddijaaGreatDoor
