/-
  Lemmas (texts FoldWa), each proved without a condition beyond its own hypotheses.
-/
import Derived.Test.YtoabiignjkcdmaaGreatFd36
import Derived.Laws.EntriesVeiled
namespace Go.Proofs.YtoabiignjkcdmaaGreat
open Go.RowKit Go.Lib Go.Shelf Go.Maps
set_option linter.unusedVariables false
set_option linter.unusedSimpArgs false
attribute [local go_sem] Oper.semAt_some

/-- A block's steps that stay, of the call's own, and what is asked ahead. -/
def BackwardPost (w : World) (n : Nat) (b : SBlock) (wn : Want) (e : Ending) (w' : World) : Prop :=
  ∃ v m, e = .returned (.tuple #[v, .map (some m)]) ∧ w'.ownsRow w.heap.size 54 6 v (backL b.ops (endW b wn)).1.length (opsC (backL b.ops (endW b wn)).1) ∧
    w.heap.size ≤ m ∧ WantAt w' m n (backL b.ops (endW b wn)).2 ∧ Below w.heap.size w w'

/-! ### What has come, plainly -/
def stB1 (s : List SOp × Want) (o : SOp) : List SOp × Want := if stays s.2 o = true then (s.1 ++ [o], backW s.2 o) else s
def stB (ops : List SOp) (we : Want) (pre : List (Fin ops.length)) : List SOp × Want := (pre.map fun i => ops[i.val]'i.isLt).foldl stB1 ([], we)
theorem stB_snoc (ops : List SOp) (we : Want) (pre : List (Fin ops.length)) (x : Fin ops.length) : stB ops we (pre ++ [x]) = stB1 (stB ops we pre) (ops[x.val]'x.isLt) := by
  unfold stB
  rw [List.map_append, List.foldl_append]
  rfl
theorem stB_len (ops : List SOp) (we : Want) (pre : List (Fin ops.length)) : (stB ops we pre).1.length ≤ pre.length := by
  have key : ∀ (l : List SOp) (s : List SOp × Want), (l.foldl stB1 s).1.length ≤ s.1.length + l.length := by
    intro l
    induction l with
    | nil => intro s; exact Nat.le_refl _
    | cons o l ih =>
      intro s
      have h1 := ih (stB1 s o)
      have h2 : (stB1 s o).1.length ≤ s.1.length + 1 := by
        unfold stB1
        split
        · simp
        · omega
      rw [List.foldl_cons, List.length_cons]
      omega
  have := key (pre.map fun i => ops[i.val]'i.isLt) ([], we)
  rw [List.length_map] at this
  unfold stB
  simpa using this
theorem stB_rev (l : List SOp) (we : Want) : l.reverse.foldl stB1 ([], we) = ((backL l we).1.reverse, (backL l we).2) := by
  induction l with
  | nil => rfl
  | cons o l ih =>
    rw [List.reverse_cons, List.foldl_append, ih, List.foldl_cons, List.foldl_nil]
    have e : backL (o :: l) we = if stays (backL l we).2 o = true then (o :: (backL l we).1, backW (backL l we).2 o) else backL l we := rfl
    rw [e]
    unfold stB1
    simp only
    cases stays (backL l we).2 o with
    | true => simp
    | false => simp
theorem stB_all (ops : List SOp) (we : Want) : stB ops we (List.finRange ops.length).reverse = ((backL ops we).1.reverse, (backL ops we).2) := by
  unfold stB
  rw [List.map_reverse]
  have e : ((List.finRange ops.length).map fun i => ops[i.val]'i.isLt) = ops := by
    apply List.ext_getElem
    · simp
    · intro i h1 h2
      simp
  rw [e, stB_rev]
/-- What the loop knows. -/
def BkI (w w0 : World) (m sb ob n : Nat) (ops : List SOp) (we : Want) (pre : List (Fin ops.length)) (W : World) : Prop :=
  Bk W sb #[.func (.func 59) #[.map (some m)] #[]] 59 ∧ WantAt W m n (stB ops we pre).2 ∧
    (∃ v, Bk W ob #[v] 36 ∧ W.ownsRow w0.heap.size 54 6 v (stB ops we pre).1.length (opsC (stB ops we pre).1)) ∧ Below w.heap.size w W ∧ w0.heap.size ≤ W.heap.size
theorem bkI_own {w w0 : World} {m sb ob n B : Nat} {ops : List SOp} {we : Want} (h1 : sb < B) (h2 : ob < B) (h3 : m < B) (h4 : w.heap.size ≤ B) : OwnFrom B (BkI w w0 m sb ob n ops we) := by
  rintro pre W W' row ⟨g1, g2, ⟨v, g3, g4⟩, g5, g6⟩ hg hr
  have hrow : ∀ k, k < B → row ≠ some k := fun k hk e => by have := (hr k e).1; omega
  have T : TB (fun k => row = some k) W W' := TB.of_grown hg (fun k e => e)
  refine ⟨g1.tb T (hrow _ h1), g2.tb T (hrow _ h3), ⟨v, g3.tb T (hrow _ h2), own_tb g4 T (fun k hk e => ?_)⟩, g5.trans (T.below (Nat.le_trans (Nat.le_refl _) g5.size) (fun k e => Nat.le_trans h4 (hr k e).1)), Nat.le_trans g6 hg.size⟩
  obtain ⟨-, o, ho, hc⟩ := hr k e
  rcases g4.2 with ⟨rfl, -⟩ | ⟨g, cap, cur, rfl, -, hh, -⟩
  · cases hk
  · cases hk
    rw [ho] at hh
    cases hh
    cases hc
set_option maxRecDepth 100000 in
set_option maxHeartbeats 4000000 in
theorem backward_e2 (b : SBlock) (O : Option Addr) (c m n : Nat) (wn : Want) (w : World) (hO : kOp.Row w O b.ops) (hlen : b.ops.length ≤ 100000) (hn : n ≤ 100000) (hops : ∀ o ∈ b.ops, OpIn n o ∧ -9223372036854775808 ≤ o.d ∧ o.d < 9223372036854775808) (hW : WantAt w m n wn) (h2 : (b.e == 2) = true) (hain : 0 ≤ b.a ∧ b.a < (n : Int)) :
    Calls Tryz.prog 34 #[.agg (blkC5 (.slice O b.ops.length c) b.e b.a b.go b.els), .map (some m)] w (BackwardPost w n b wn) := by
  refine (callsIn_wide (n := 9)).1 ?_
  refine callsIn_of_wp_marks Tryz.func34 rfl trivial ?_ rfl
  simp only [Tryz.ntmps34, List.size_toArray, List.length_cons, List.length_nil, Nat.reduceAdd, Nat.reduceSub, Array.replicate_succ, Array.replicate_zero, List.push_toArray, List.append_toArray, List.nil_append, List.cons_append]
  refine wpIn_wide.2 ?_
  have B1 := Bk.new w (blkC5 (.slice O b.ops.length c) b.e b.a b.go b.els) 38
  have hb1 : Below w.heap.size w (w.alloc (.cells (blkC5 (.slice O b.ops.length c) b.e b.a b.go b.els) 38)) := (Below.refl _ _).alloc (Nat.le_refl _) _
  have hs1 : (w.alloc (.cells (blkC5 (.slice O b.ops.length c) b.e b.a b.go b.els) 38)).heap.size = w.heap.size + 1 := by simp
  have hcl := clone_c (hW.below hb1)
  rw [hs1] at hcl
  have hO1 := hO.mono hb1
  have HEW := Lib.hid (show endW b wn = wn.add b.a by unfold endW; rw [if_pos]; unfold asksEnd; rw [h2]; rfl)
  obtain ⟨w1, hw1⟩ : ∃ w1, w.alloc (.cells (blkC5 (.slice O b.ops.length c) b.e b.a b.go b.els) 38) = w1 := ⟨_, rfl⟩
  rw [hw1] at B1 hb1 hs1 hcl hO1
  go_upto_region 2 with (go_at_call 58; go_must (refine hcl.mono ?_); rintro e w2 ⟨rfl, hW2, hb2⟩)
  rw [← hs1] at hb2
  have B2 := B1.mono hb2
  have hb2' := bt hb1 hb2
  have C2 := B2.cell
  have hs2 : w.heap.size + 2 ≤ w2.heap.size := by have := hW2.lt; omega
  clear hcl B1 hw1
  obtain ⟨D, hown, hrd, hin⟩ := hW2
  have hsz := Reads.size_le hrd (n := n) (fun y z e => hin y (by unfold wantG at e; split at e; assumption; cases e))
  have hkey := keyI (x := b.a) (by omega) (by omega)
  go_upto_region 4 with (at_mapUpdate; go_must (refine wpList_mapUpdate_in _ rfl _ _ _ 70 rfl 3 4 kInt_law Tryz.underlying70 _ (w.heap.size + 1) _ D rfl hown (by unfold maxLen; omega) _ (.bool true) _ rfl rfl hkey _ [] (plainElem_bool Tryz.underlying4 true) ?_); intro w4 hown4 ht4)
  have T4 : TB (fun j => j = w.heap.size + 1) w2 w4 := TB.of_grown ht4.grown (fun j e => by cases e; rfl)
  have hW4 : WantAt w4 (w.heap.size + 1) n (endW b wn) := WantAt.congr ⟨_, map_fit hown4, hrd.put b.a, hin.add hain⟩ HEW.out.symm
  have B4 := B2.tb T4 (by omega)
  have hb4 : Below w.heap.size w w4 := hb2'.trans (T4.below (by omega) (by rintro k rfl; omega))
  have hs4 : w.heap.size + 2 ≤ w4.heap.size := Nat.le_trans hs2 T4.size
  clear hown hown4 hrd hin ht4 T4 B2 C2 hb2 hb2' hs2 hO1 hb1 hs1
  have hO4 := hO.mono hb4
  have C4 := B4.cell
  obtain ⟨we, hwe⟩ : ∃ we, endW b wn = we := ⟨_, rfl⟩
  rw [hwe] at hW4
  go_upto_region 6 with (fail)
  have B6 := (B4.alloc (.cells #[.func (.func 59) #[.map (some (w.heap.size + 1))] #[]] 59)).alloc (.cells #[.slice none 0 0] 36)
  have S6 := (Bk.new w4 #[.func (.func 59) #[.map (some (w.heap.size + 1))] #[]] 59).alloc (.cells #[.slice none 0 0] 36)
  have P6 := Bk.newAt (w := w4.alloc (.cells #[.func (.func 59) #[.map (some (w.heap.size + 1))] #[]] 59)) (n := w4.heap.size + 1) #[.slice none 0 0] 36 (by simp)
  have hb46 : Below w4.heap.size w4 ((w4.alloc (.cells #[.func (.func 59) #[.map (some (w.heap.size + 1))] #[]] 59)).alloc (.cells #[.slice none 0 0] 36)) := ((Below.refl _ _).alloc (Nat.le_refl _) _).alloc (by simp) _
  have hs6 : ((w4.alloc (.cells #[.func (.func 59) #[.map (some (w.heap.size + 1))] #[]] 59)).alloc (.cells #[.slice none 0 0] 36)).heap.size = w4.heap.size + 2 := by simp
  generalize (w4.alloc (.cells #[.func (.func 59) #[.map (some (w.heap.size + 1))] #[]] 59)).alloc (.cells #[.slice none 0 0] 36) = w6 at B6 S6 P6 hb46 hs6 ⊢
  have hW6 := hW4.below hb46
  have hb6 := bt' hb4 (by omega) hb46
  clear hW4 B4 C4 hb4 hO4 hb46
  have C6 := B6.cell
  go_wp2_with (go_at_call 60; go_must (refine (backwardOp_c O b.ops.length c _).mono ?_); rintro e w7 ⟨rfl, rfl⟩)
  have hs7 : (w6.alloc (.cells #[.slice O b.ops.length c] 36)).heap.size = w4.heap.size + 3 := by simp; omega
  have B7 := Bk.new w6 #[.slice O b.ops.length c] 36
  rw [hs6] at B7
  have S7 := S6.alloc (.cells #[.slice O b.ops.length c] 36)
  have P7 := P6.alloc (.cells #[.slice O b.ops.length c] 36)
  have hW7 := hW6.below ((Below.refl _ _).alloc (Nat.le_refl _) (.cells #[.slice O b.ops.length c] 36))
  have hb7 : Below w.heap.size w (w6.alloc (.cells #[.slice O b.ops.length c] 36)) := hb6.alloc (by omega) _
  obtain ⟨w7, hw7⟩ : ∃ w7, w6.alloc (.cells #[.slice O b.ops.length c] 36) = w7 := ⟨_, rfl⟩
  rw [hw7] at B7 S7 P7 hW7 hb7 hs7 ⊢
  clear hw7 hW6 B6 S6 P6 hb6 C6
  have hOb : ∀ bb o, O = some ⟨bb, o, none⟩ → b.ops ≠ [] → bb < w.heap.size := by
    intro bb o e hne
    obtain ⟨b', o', e', g0, _⟩ := kOp_at hO 0 (List.length_pos_iff.2 hne)
    rw [e] at e'
    cases e'
    exact World.block_lt_of_cell? w _ g0
  refine (wpIn_wide (n := 9)).1 ?_
  refine wpIn_rangeFunc_ownH (α := Fin b.ops.length) (encs := fun x => #[.int .i64 (x.val : Int), (b.ops[x.val]'x.isLt).val]) (Kp := KpS (fun k => k < w.heap.size ∨ k = w4.heap.size + 2)) (S := fun ys => ys = (List.finRange b.ops.length).reverse) (Sp := fun pre => pre <+: (List.finRange b.ops.length).reverse) (N := b.ops.length) rfl (by omega) (gf := 80) (lb := #[.pointer (some ⟨w4.heap.size + 2, 0, none⟩)]) rfl trivial (Go.Proofs.YtoabiignjkcdmaaGreat.enters_of Tryz.func80 (by kernel_rfl) rfl)
    (w0 := w7) ?seq (fun h1 h2 => KpS.trans h1 h2) (KpS.put (by rintro k (h | h) <;> omega)) (Below.refl _ _) (fun _ => rfl)
    (BkI w w7 (w.heap.size + 1) w4.heap.size (w4.heap.size + 1) n b.ops we) (fun _ _ _ => False) (bkI_own (by omega) (by omega) (by omega) (by omega)) (fun _ _ _ _ _ h _ _ => h)
    ⟨S7, hW7, ⟨_, P7, nil_own _ _ _ _⟩, hb7, Nat.le_refl _⟩
    (fun x a' W => ∃ Bx, Bk W Bx (b.ops[x.val]'x.isLt).cells.toArray 54 ∧ a' = { tmps := #[.agg (blkC5 (.slice O b.ops.length c) b.e b.a b.go b.els), .map (some (w.heap.size + 1)), .pointer (some ⟨w.heap.size, 0, none⟩), undef, .slice none 0 0, .map none, .pointer (some ⟨w4.heap.size, 0, none⟩), .pointer (some ⟨w4.heap.size + 1, 0, none⟩), undef, .pointer (some ⟨Bx, 0, none⟩), .map (some m), .map (some (w.heap.size + 1)), .pointer (some ⟨w.heap.size, 1, none⟩), .int .u8 b.e, .bool true, .bool true, undef, undef, undef, undef, undef, undef, undef, undef, .bool true, .map (some (w.heap.size + 1)), .pointer (some ⟨w.heap.size, 2, none⟩), .int .i64 b.a, .map (some (w.heap.size + 1)), .func (.func 59) #[.map (some (w.heap.size + 1))] #[], .pointer (some ⟨w.heap.size, 0, none⟩), .slice O b.ops.length c, .func (.func 80) #[] #[.pointer (some ⟨w4.heap.size + 2, 0, none⟩)], .int .i64 (x.val : Int), (b.ops[x.val]'x.isLt).val, undef, undef, undef, undef, undef, undef, undef, undef, undef, undef, undef], defers := [] })
    (fun x a' _ W W' row ⟨Bx, h1, h2⟩ hg hr => ⟨Bx, bk_kept h1 hg (fun r e => (hr r e).2), h2⟩) ?assign ?body ?done ?stop
  case seq =>
    intro l J Jx W hW _ _ hY h0
    exact backOp_in Fence.wide 8 trivial rfl (by omega) l (w4.heap.size + 2) _ b.ops (by omega) O c J Jx hY W (cm (B7.cell 0) hW) (.inr rfl) ((hO.mono hb7).mono hW) (fun hp bb o e => .inl (hOb bb o e (List.length_pos_iff.1 hp))) h0
  case assign =>
    rintro l pre x W K hi hK
    unfold SOp.val
    gi_wp2
    exact hK _ _ ((KeepsOthers.alloc W _).from _) (KpS.alloc W _) (OwnFrom.alloc (B := w7.heap.size) (bkI_own (by omega) (by omega) (by omega) (by omega)) _ hi) ⟨W.heap.size, Bk.new .., rfl⟩
  case body =>
    rintro l pre x a' W hl hr ⟨g1, g2, ⟨v, g3, g4⟩, g5, g6⟩ ⟨Bx, hBx, rfl⟩ hlt
    have hlen' := stB_len b.ops we pre
    have hsn := stB_snoc b.ops we pre x
    have ho := hops _ (List.getElem_mem x.isLt)
    obtain ⟨o, hoe⟩ : ∃ o, b.ops[x.val]'x.isLt = o := ⟨_, rfl⟩
    rw [hoe] at hsn ho hBx
    obtain ⟨st, hste⟩ : ∃ st, stB b.ops we pre = st := ⟨_, rfl⟩
    rw [hste] at hsn hlen' g2 g4
    have hcall := back_c g2 o hn ho.1 ho.2
    unfold SOp.val BackPost at hcall
    have c1 := g1.cell
    have d0 := hBx.cell 0
    have d1 := hBx.cell 1
    have d2 := hBx.cell 2
    have d3 := hBx.cell 3
    have d4 := hBx.cell 4
    have d5 := hBx.cell 5
    replace d0 : W.cell? ⟨Bx, 0, none⟩ = some (.int .u8 o.k) := d0
    replace d1 : W.cell? ⟨Bx, 1, none⟩ = some (.int .u8 o.fn) := d1
    replace d2 : W.cell? ⟨Bx, 2, none⟩ = some (.int .i64 o.d) := d2
    replace d3 : W.cell? ⟨Bx, 3, none⟩ = some (.int .i64 o.a) := d3
    replace d4 : W.cell? ⟨Bx, 4, none⟩ = some (.int .i64 o.b) := d4
    replace d5 : W.cell? ⟨Bx, 5, none⟩ = some (.int .u64 o.imm) := d5
    have HSN := Lib.hid hsn
    clear hsn hste hoe
    have hbx := hBx.lt
    have hml := g2.lt
    cases hst : stays st.2 o with
    | false =>
      rw [hst] at hcall
      gi_wp2_with fail
      refine ⟨trivial, ?_⟩
      refine (CallsIn.inRound l (callsIn_wide.2 hcall)).mono ?_
      rintro e W3 ⟨rfl, hW3, hT3⟩
      rw [if_neg (by decide)] at hW3
      gi_wp2_with fail
      refine ⟨keepsFrom_tb hT3 (by rintro k o rfl _ h; omega), KpS.of_tb hT3 (by rintro k (h | h) <;> omega), g1.tb hT3 (by omega), ?_, ?_, g5.trans (hT3.below (by have := g5.size; omega) (by rintro k rfl; omega)), Nat.le_trans g6 hT3.size⟩
      · rw [HSN.out]; unfold stB1; rw [hst, if_neg (by decide)]; exact hW3
      · rw [HSN.out]
        unfold stB1
        rw [hst, if_neg (by decide)]
        exact ⟨v, g3.tb hT3 (by omega), own_tb g4 hT3 (fun k hk e => by have := own_from g4 k hk; omega)⟩
    | true =>
      rw [hst] at hcall
      gi_wp2_with fail
      refine ⟨trivial, ?_⟩
      refine (CallsIn.inRound l (callsIn_wide.2 hcall)).mono ?_
      rintro e W3 ⟨rfl, hW3, hT3⟩
      replace hW3 : WantAt W3 (w.heap.size + 1) n (backW st.2 o) := hW3
      have S3 := g1.tb hT3 (by omega)
      have P3 := g3.tb hT3 (by omega)
      have hown3 := own_tb g4 hT3 (fun k hk e => by have := own_from g4 k hk; omega)
      have X3 := hBx.tb (n := Bx) hT3 (by intro e; rw [e] at hBx; obtain ⟨D, ⟨es, clk, hh, _⟩, _⟩ := g2; unfold Bk at hBx; rw [hh] at hBx; cases hBx)
      have hb3 : Below w.heap.size w W3 := g5.trans (hT3.below (by have := g5.size; omega) (by rintro k rfl; omega))
      have p3 := P3.cell
      have fp3 := P3.free
      have e0 : W3.cell? ⟨Bx, 0, none⟩ = some (.int .u8 o.k) := X3.cell 0
      have e1 : W3.cell? ⟨Bx, 1, none⟩ = some (.int .u8 o.fn) := X3.cell 1
      have e2 : W3.cell? ⟨Bx, 2, none⟩ = some (.int .i64 o.d) := X3.cell 2
      have e3 : W3.cell? ⟨Bx, 3, none⟩ = some (.int .i64 o.a) := X3.cell 3
      have e4 : W3.cell? ⟨Bx, 4, none⟩ = some (.int .i64 o.b) := X3.cell 4
      have e5 : W3.cell? ⟨Bx, 5, none⟩ = some (.int .u64 o.imm) := X3.cell 5
      have hws3 : w7.heap.size ≤ W3.heap.size := Nat.le_trans g6 hT3.size
      have hbal : Below W3.heap.size W3 (W3.alloc (.cells (opC o.k o.fn o.d o.a o.b o.imm) 54)) := (Below.refl _ _).alloc (Nat.le_refl _) _
      have hown4 := own_below hown3 hbal
      have hB4 := Bk.new W3 (opC o.k o.fn o.d o.a o.b o.imm) 54
      have P4 := P3.mono hbal
      have S4 := S3.mono hbal
      have hsz4 : w7.heap.size ≤ (W3.alloc (.cells (opC o.k o.fn o.d o.a o.b o.imm) 54)).heap.size := by simp; omega
      have hkp := HSN.out
      gi_wp2_with (gi_at_builtin; go_must (refine wpListIn_append_op rfl _ _ rfl w7.heap.size _ _ _ rfl hown4 _ o rfl hB4 (by omega) hsz4 ?_); intro v' W5 hown5 hg5; obtain ⟨A5, c5, rfl⟩ := own_shape' hown5; have P5 := P4.grown hg5 (own_base hown4 (by omega)); have p5 := P5.cell; have fp5 := P5.free)
      have S5 := S4.grown hg5 (own_base hown4 (by omega))
      have T5 : TB (fun k => k = w.heap.size + 1 ∨ v.ownBlock = some k) W W5 :=
        ((hT3.mono fun k _ e => .inl e).trans (TB.of_below hbal)).trans (TB.of_grown hg5 (fun k e => .inr e))
      have T6 : TB (fun k => k = w.heap.size + 1 ∨ v.ownBlock = some k ∨ k = w4.heap.size + 1) W (W5.setCell ⟨w4.heap.size + 1, 0, none⟩ (.slice A5 (st.1.length + 1) c5)) :=
        (T5.mono fun k _ e => e.elim .inl (fun h => .inr (.inl h))).trans ⟨rfl, rfl, rfl, by simp, fun k _ hk => Below.heap_setCell W5 ⟨w4.heap.size + 1, 0, none⟩ _ k (fun e => hk (.inr (.inr e)))⟩
      have hvb := own_from g4
      have hW5 : WantAt W5 (w.heap.size + 1) n (backW st.2 o) := (hW3.below hbal).tb (S := fun k => v.ownBlock = some k) (TB.of_grown hg5 (fun k e => e)) (fun e => by have := hvb _ e; omega)
      refine ⟨keepsFrom_tb T6 ?_, KpS.of_tb T6 ?_, S5.other (by show w4.heap.size ≠ w4.heap.size + 1; omega) _, ?_, ?_, g5.trans (T6.below (by have := g5.size; omega) ?_), Nat.le_trans g6 T6.size⟩
      · rintro k ob (e | e | e) h1 h2
        · omega
        · rcases g4.2 with ⟨rfl, -⟩ | ⟨g, cap, cur, rfl, -, hh, -⟩
          · cases e
          · cases e
            rw [hh] at h1
            cases h1
            rfl
        · omega
      · rintro k hk (e | e | e)
        · omega
        · have := hvb _ e; omega
        · omega
      · rw [hkp]; unfold stB1; rw [hst, if_pos rfl]
        exact hW5.tb (S := fun k => k = w4.heap.size + 1) ⟨rfl, rfl, rfl, by simp, fun k _ hk => Below.heap_setCell W5 ⟨w4.heap.size + 1, 0, none⟩ _ k hk⟩ (by omega)
      · rw [hkp]; unfold stB1; rw [hst, if_pos rfl]
        refine ⟨_, P5.set 0 _, ?_⟩
        have : w7.heap.size ≤ w4.heap.size + 1 → False := by omega
        rw [show (st.1 ++ [o]).length = st.1.length + 1 by simp, opsC_snoc]
        exact ownsRow_setCell_below hown5 (a := ⟨w4.heap.size + 1, 0, none⟩) (by show w4.heap.size + 1 < w7.heap.size; omega) _
      · rintro k (e | e | e)
        · omega
        · have := hvb _ e; omega
        · omega
  case done =>
    rintro D ys W hD rfl ⟨g1, g2, ⟨v, g3, g4⟩, g5, g6⟩ hK
    rw [stB_all] at g2 g4
    simp only at g2 g4
    have hll : (backL b.ops we).1.length ≤ b.ops.length := (backL_sub b.ops we).length_le
    have hrev := reverse_c g4 (by simp; omega)
    have c3 := g3.cell
    have hmlt := g2.lt
    have hob := g3.lt
    go_wp2_with (go_at_call 61; go_must (refine hrev.mono ?_); rintro e w8 ⟨rfl, hrow, hT8⟩; have P8 := g3.tb hT8 (fun e => own_base g4 (k := w4.heap.size + 1) (by omega) e.symm); have p8 := P8.cell)
    have hvb : ∀ k, v.ownBlock = some k → k ≠ D ∧ w7.heap.size ≤ k := by
      intro k hk
      have hk7 := own_from g4 k hk
      refine ⟨fun e => ?_, hk7⟩
      rcases g4.2 with ⟨hz, -⟩ | ⟨g, cap, cur, hv, -, hh, -⟩
      · rw [hz] at hk; cases hk
      · rw [hv] at hk
        have hk : some g = some k := hk
        cases hk
        rw [e, hK] at hh
        cases hh
    have hDl : D < W.heap.size := (Array.getElem?_eq_some_iff.1 hK).1
    have hK8 : w8.heap[D]? = some (.deferred (some [])) := (hT8.block D hDl (fun e => (hvb D e).1 rfl)).trans hK
    have hb8 : Below w.heap.size w w8 := g5.trans (hT8.below (by omega) (fun k e => by have := (hvb k e).2; omega))
    have hW8 := g2.tb hT8 (fun e => by have := (hvb _ e).2; omega)
    refine ⟨by simp, .inl ⟨_, _, rfl, run_takeDeferred hK8, ?_⟩⟩
    refine ⟨_, results_tmp2 rfl _ _ _, ?_⟩
    have TD : TB (fun k => k = D) w8 (w8.putObj D (.deferred none)) := TB.of_grown (grownBy_putObj' w8 D _) (fun k e => by cases e; rfl)
    have hlenr : (backL b.ops we).1.reverse.length = (backL b.ops we).1.length := by simp
    unfold BackwardPost
    rw [hwe]
    rw [List.reverse_reverse, hlenr] at hrow
    refine ⟨v, w.heap.size + 1, rfl, own_base_le (own_tb hrow TD ?_) (by omega), by omega, hW8.tb TD (by omega), hb8.trans (TD.below (by have := hb8.size; omega) (by rintro k rfl; omega))⟩
    intro k hk
    exact (hvb k hk).1
  case stop =>
    rintro D c pre W _ _ h _
    exact h.elim
set_option maxRecDepth 100000 in
set_option maxHeartbeats 4000000 in
theorem backward_e3 (b : SBlock) (O : Option Addr) (c m n : Nat) (wn : Want) (w : World) (hO : kOp.Row w O b.ops) (hlen : b.ops.length ≤ 100000) (hn : n ≤ 100000) (hops : ∀ o ∈ b.ops, OpIn n o ∧ -9223372036854775808 ≤ o.d ∧ o.d < 9223372036854775808) (hW : WantAt w m n wn) (h2 : (b.e == 2) = false) (h3 : (b.e == 3) = true) (h4 : 0 ≤ b.a) (hain : 0 ≤ b.a ∧ b.a < (n : Int)) :
    Calls Tryz.prog 34 #[.agg (blkC5 (.slice O b.ops.length c) b.e b.a b.go b.els), .map (some m)] w (BackwardPost w n b wn) := by
  refine (callsIn_wide (n := 9)).1 ?_
  refine callsIn_of_wp_marks Tryz.func34 rfl trivial ?_ rfl
  simp only [Tryz.ntmps34, List.size_toArray, List.length_cons, List.length_nil, Nat.reduceAdd, Nat.reduceSub, Array.replicate_succ, Array.replicate_zero, List.push_toArray, List.append_toArray, List.nil_append, List.cons_append]
  refine wpIn_wide.2 ?_
  have B1 := Bk.new w (blkC5 (.slice O b.ops.length c) b.e b.a b.go b.els) 38
  have hb1 : Below w.heap.size w (w.alloc (.cells (blkC5 (.slice O b.ops.length c) b.e b.a b.go b.els) 38)) := (Below.refl _ _).alloc (Nat.le_refl _) _
  have hs1 : (w.alloc (.cells (blkC5 (.slice O b.ops.length c) b.e b.a b.go b.els) 38)).heap.size = w.heap.size + 1 := by simp
  have hcl := clone_c (hW.below hb1)
  rw [hs1] at hcl
  have hO1 := hO.mono hb1
  have HEW := Lib.hid (show endW b wn = wn.add b.a by unfold endW; rw [if_pos]; unfold asksEnd; rw [h2, h3]; simp [h4])
  obtain ⟨w1, hw1⟩ : ∃ w1, w.alloc (.cells (blkC5 (.slice O b.ops.length c) b.e b.a b.go b.els) 38) = w1 := ⟨_, rfl⟩
  rw [hw1] at B1 hb1 hs1 hcl hO1
  go_upto_region 2 with (go_at_call 58; go_must (refine hcl.mono ?_); rintro e w2 ⟨rfl, hW2, hb2⟩)
  rw [← hs1] at hb2
  have B2 := B1.mono hb2
  have hb2' := bt hb1 hb2
  have C2 := B2.cell
  have hs2 : w.heap.size + 2 ≤ w2.heap.size := by have := hW2.lt; omega
  clear hcl B1 hw1
  obtain ⟨D, hown, hrd, hin⟩ := hW2
  have hsz := Reads.size_le hrd (n := n) (fun y z e => hin y (by unfold wantG at e; split at e; assumption; cases e))
  have hkey := keyI (x := b.a) (by omega) (by omega)
  go_upto_region 4 with (at_mapUpdate; go_must (refine wpList_mapUpdate_in _ rfl _ _ _ 70 rfl 3 4 kInt_law Tryz.underlying70 _ (w.heap.size + 1) _ D rfl hown (by unfold maxLen; omega) _ (.bool true) _ rfl rfl hkey _ [] (plainElem_bool Tryz.underlying4 true) ?_); intro w4 hown4 ht4)
  have T4 : TB (fun j => j = w.heap.size + 1) w2 w4 := TB.of_grown ht4.grown (fun j e => by cases e; rfl)
  have hW4 : WantAt w4 (w.heap.size + 1) n (endW b wn) := WantAt.congr ⟨_, map_fit hown4, hrd.put b.a, hin.add hain⟩ HEW.out.symm
  have B4 := B2.tb T4 (by omega)
  have hb4 : Below w.heap.size w w4 := hb2'.trans (T4.below (by omega) (by rintro k rfl; omega))
  have hs4 : w.heap.size + 2 ≤ w4.heap.size := Nat.le_trans hs2 T4.size
  clear hown hown4 hrd hin ht4 T4 B2 C2 hb2 hb2' hs2 hO1 hb1 hs1
  have hO4 := hO.mono hb4
  have C4 := B4.cell
  obtain ⟨we, hwe⟩ : ∃ we, endW b wn = we := ⟨_, rfl⟩
  rw [hwe] at hW4
  go_upto_region 6 with (fail)
  have B6 := (B4.alloc (.cells #[.func (.func 59) #[.map (some (w.heap.size + 1))] #[]] 59)).alloc (.cells #[.slice none 0 0] 36)
  have S6 := (Bk.new w4 #[.func (.func 59) #[.map (some (w.heap.size + 1))] #[]] 59).alloc (.cells #[.slice none 0 0] 36)
  have P6 := Bk.newAt (w := w4.alloc (.cells #[.func (.func 59) #[.map (some (w.heap.size + 1))] #[]] 59)) (n := w4.heap.size + 1) #[.slice none 0 0] 36 (by simp)
  have hb46 : Below w4.heap.size w4 ((w4.alloc (.cells #[.func (.func 59) #[.map (some (w.heap.size + 1))] #[]] 59)).alloc (.cells #[.slice none 0 0] 36)) := ((Below.refl _ _).alloc (Nat.le_refl _) _).alloc (by simp) _
  have hs6 : ((w4.alloc (.cells #[.func (.func 59) #[.map (some (w.heap.size + 1))] #[]] 59)).alloc (.cells #[.slice none 0 0] 36)).heap.size = w4.heap.size + 2 := by simp
  generalize (w4.alloc (.cells #[.func (.func 59) #[.map (some (w.heap.size + 1))] #[]] 59)).alloc (.cells #[.slice none 0 0] 36) = w6 at B6 S6 P6 hb46 hs6 ⊢
  have hW6 := hW4.below hb46
  have hb6 := bt' hb4 (by omega) hb46
  clear hW4 B4 C4 hb4 hO4 hb46
  have C6 := B6.cell
  go_wp2_with (go_at_call 60; go_must (refine (backwardOp_c O b.ops.length c _).mono ?_); rintro e w7 ⟨rfl, rfl⟩)
  have hs7 : (w6.alloc (.cells #[.slice O b.ops.length c] 36)).heap.size = w4.heap.size + 3 := by simp; omega
  have B7 := Bk.new w6 #[.slice O b.ops.length c] 36
  rw [hs6] at B7
  have S7 := S6.alloc (.cells #[.slice O b.ops.length c] 36)
  have P7 := P6.alloc (.cells #[.slice O b.ops.length c] 36)
  have hW7 := hW6.below ((Below.refl _ _).alloc (Nat.le_refl _) (.cells #[.slice O b.ops.length c] 36))
  have hb7 : Below w.heap.size w (w6.alloc (.cells #[.slice O b.ops.length c] 36)) := hb6.alloc (by omega) _
  obtain ⟨w7, hw7⟩ : ∃ w7, w6.alloc (.cells #[.slice O b.ops.length c] 36) = w7 := ⟨_, rfl⟩
  rw [hw7] at B7 S7 P7 hW7 hb7 hs7 ⊢
  clear hw7 hW6 B6 S6 P6 hb6 C6
  have hOb : ∀ bb o, O = some ⟨bb, o, none⟩ → b.ops ≠ [] → bb < w.heap.size := by
    intro bb o e hne
    obtain ⟨b', o', e', g0, _⟩ := kOp_at hO 0 (List.length_pos_iff.2 hne)
    rw [e] at e'
    cases e'
    exact World.block_lt_of_cell? w _ g0
  refine (wpIn_wide (n := 9)).1 ?_
  refine wpIn_rangeFunc_ownH (α := Fin b.ops.length) (encs := fun x => #[.int .i64 (x.val : Int), (b.ops[x.val]'x.isLt).val]) (Kp := KpS (fun k => k < w.heap.size ∨ k = w4.heap.size + 2)) (S := fun ys => ys = (List.finRange b.ops.length).reverse) (Sp := fun pre => pre <+: (List.finRange b.ops.length).reverse) (N := b.ops.length) rfl (by omega) (gf := 80) (lb := #[.pointer (some ⟨w4.heap.size + 2, 0, none⟩)]) rfl trivial (Go.Proofs.YtoabiignjkcdmaaGreat.enters_of Tryz.func80 (by kernel_rfl) rfl)
    (w0 := w7) ?seq (fun h1 h2 => KpS.trans h1 h2) (KpS.put (by rintro k (h | h) <;> omega)) (Below.refl _ _) (fun _ => rfl)
    (BkI w w7 (w.heap.size + 1) w4.heap.size (w4.heap.size + 1) n b.ops we) (fun _ _ _ => False) (bkI_own (by omega) (by omega) (by omega) (by omega)) (fun _ _ _ _ _ h _ _ => h)
    ⟨S7, hW7, ⟨_, P7, nil_own _ _ _ _⟩, hb7, Nat.le_refl _⟩
    (fun x a' W => ∃ Bx, Bk W Bx (b.ops[x.val]'x.isLt).cells.toArray 54 ∧ a' = { tmps := #[.agg (blkC5 (.slice O b.ops.length c) b.e b.a b.go b.els), .map (some (w.heap.size + 1)), .pointer (some ⟨w.heap.size, 0, none⟩), undef, .slice none 0 0, .map none, .pointer (some ⟨w4.heap.size, 0, none⟩), .pointer (some ⟨w4.heap.size + 1, 0, none⟩), undef, .pointer (some ⟨Bx, 0, none⟩), .map (some m), .map (some (w.heap.size + 1)), .pointer (some ⟨w.heap.size, 1, none⟩), .int .u8 b.e, .bool false, .bool false, .pointer (some ⟨w.heap.size, 1, none⟩), .int .u8 b.e, .bool true, .bool true, .pointer (some ⟨w.heap.size, 2, none⟩), .int .i64 b.a, .bool true, .bool true, .bool true, .map (some (w.heap.size + 1)), .pointer (some ⟨w.heap.size, 2, none⟩), .int .i64 b.a, .map (some (w.heap.size + 1)), .func (.func 59) #[.map (some (w.heap.size + 1))] #[], .pointer (some ⟨w.heap.size, 0, none⟩), .slice O b.ops.length c, .func (.func 80) #[] #[.pointer (some ⟨w4.heap.size + 2, 0, none⟩)], .int .i64 (x.val : Int), (b.ops[x.val]'x.isLt).val, undef, undef, undef, undef, undef, undef, undef, undef, undef, undef, undef], defers := [] })
    (fun x a' _ W W' row ⟨Bx, h1, h2⟩ hg hr => ⟨Bx, bk_kept h1 hg (fun r e => (hr r e).2), h2⟩) ?assign ?body ?done ?stop
  case seq =>
    intro l J Jx W hW _ _ hY h0
    exact backOp_in Fence.wide 8 trivial rfl (by omega) l (w4.heap.size + 2) _ b.ops (by omega) O c J Jx hY W (cm (B7.cell 0) hW) (.inr rfl) ((hO.mono hb7).mono hW) (fun hp bb o e => .inl (hOb bb o e (List.length_pos_iff.1 hp))) h0
  case assign =>
    rintro l pre x W K hi hK
    unfold SOp.val
    gi_wp2
    exact hK _ _ ((KeepsOthers.alloc W _).from _) (KpS.alloc W _) (OwnFrom.alloc (B := w7.heap.size) (bkI_own (by omega) (by omega) (by omega) (by omega)) _ hi) ⟨W.heap.size, Bk.new .., rfl⟩
  case body =>
    rintro l pre x a' W hl hr ⟨g1, g2, ⟨v, g3, g4⟩, g5, g6⟩ ⟨Bx, hBx, rfl⟩ hlt
    have hlen' := stB_len b.ops we pre
    have hsn := stB_snoc b.ops we pre x
    have ho := hops _ (List.getElem_mem x.isLt)
    obtain ⟨o, hoe⟩ : ∃ o, b.ops[x.val]'x.isLt = o := ⟨_, rfl⟩
    rw [hoe] at hsn ho hBx
    obtain ⟨st, hste⟩ : ∃ st, stB b.ops we pre = st := ⟨_, rfl⟩
    rw [hste] at hsn hlen' g2 g4
    have hcall := back_c g2 o hn ho.1 ho.2
    unfold SOp.val BackPost at hcall
    have c1 := g1.cell
    have d0 := hBx.cell 0
    have d1 := hBx.cell 1
    have d2 := hBx.cell 2
    have d3 := hBx.cell 3
    have d4 := hBx.cell 4
    have d5 := hBx.cell 5
    replace d0 : W.cell? ⟨Bx, 0, none⟩ = some (.int .u8 o.k) := d0
    replace d1 : W.cell? ⟨Bx, 1, none⟩ = some (.int .u8 o.fn) := d1
    replace d2 : W.cell? ⟨Bx, 2, none⟩ = some (.int .i64 o.d) := d2
    replace d3 : W.cell? ⟨Bx, 3, none⟩ = some (.int .i64 o.a) := d3
    replace d4 : W.cell? ⟨Bx, 4, none⟩ = some (.int .i64 o.b) := d4
    replace d5 : W.cell? ⟨Bx, 5, none⟩ = some (.int .u64 o.imm) := d5
    have HSN := Lib.hid hsn
    clear hsn hste hoe
    have hbx := hBx.lt
    have hml := g2.lt
    cases hst : stays st.2 o with
    | false =>
      rw [hst] at hcall
      gi_wp2_with fail
      refine ⟨trivial, ?_⟩
      refine (CallsIn.inRound l (callsIn_wide.2 hcall)).mono ?_
      rintro e W3 ⟨rfl, hW3, hT3⟩
      rw [if_neg (by decide)] at hW3
      gi_wp2_with fail
      refine ⟨keepsFrom_tb hT3 (by rintro k o rfl _ h; omega), KpS.of_tb hT3 (by rintro k (h | h) <;> omega), g1.tb hT3 (by omega), ?_, ?_, g5.trans (hT3.below (by have := g5.size; omega) (by rintro k rfl; omega)), Nat.le_trans g6 hT3.size⟩
      · rw [HSN.out]; unfold stB1; rw [hst, if_neg (by decide)]; exact hW3
      · rw [HSN.out]
        unfold stB1
        rw [hst, if_neg (by decide)]
        exact ⟨v, g3.tb hT3 (by omega), own_tb g4 hT3 (fun k hk e => by have := own_from g4 k hk; omega)⟩
    | true =>
      rw [hst] at hcall
      gi_wp2_with fail
      refine ⟨trivial, ?_⟩
      refine (CallsIn.inRound l (callsIn_wide.2 hcall)).mono ?_
      rintro e W3 ⟨rfl, hW3, hT3⟩
      replace hW3 : WantAt W3 (w.heap.size + 1) n (backW st.2 o) := hW3
      have S3 := g1.tb hT3 (by omega)
      have P3 := g3.tb hT3 (by omega)
      have hown3 := own_tb g4 hT3 (fun k hk e => by have := own_from g4 k hk; omega)
      have X3 := hBx.tb (n := Bx) hT3 (by intro e; rw [e] at hBx; obtain ⟨D, ⟨es, clk, hh, _⟩, _⟩ := g2; unfold Bk at hBx; rw [hh] at hBx; cases hBx)
      have hb3 : Below w.heap.size w W3 := g5.trans (hT3.below (by have := g5.size; omega) (by rintro k rfl; omega))
      have p3 := P3.cell
      have fp3 := P3.free
      have e0 : W3.cell? ⟨Bx, 0, none⟩ = some (.int .u8 o.k) := X3.cell 0
      have e1 : W3.cell? ⟨Bx, 1, none⟩ = some (.int .u8 o.fn) := X3.cell 1
      have e2 : W3.cell? ⟨Bx, 2, none⟩ = some (.int .i64 o.d) := X3.cell 2
      have e3 : W3.cell? ⟨Bx, 3, none⟩ = some (.int .i64 o.a) := X3.cell 3
      have e4 : W3.cell? ⟨Bx, 4, none⟩ = some (.int .i64 o.b) := X3.cell 4
      have e5 : W3.cell? ⟨Bx, 5, none⟩ = some (.int .u64 o.imm) := X3.cell 5
      have hws3 : w7.heap.size ≤ W3.heap.size := Nat.le_trans g6 hT3.size
      have hbal : Below W3.heap.size W3 (W3.alloc (.cells (opC o.k o.fn o.d o.a o.b o.imm) 54)) := (Below.refl _ _).alloc (Nat.le_refl _) _
      have hown4 := own_below hown3 hbal
      have hB4 := Bk.new W3 (opC o.k o.fn o.d o.a o.b o.imm) 54
      have P4 := P3.mono hbal
      have S4 := S3.mono hbal
      have hsz4 : w7.heap.size ≤ (W3.alloc (.cells (opC o.k o.fn o.d o.a o.b o.imm) 54)).heap.size := by simp; omega
      have hkp := HSN.out
      gi_wp2_with (gi_at_builtin; go_must (refine wpListIn_append_op rfl _ _ rfl w7.heap.size _ _ _ rfl hown4 _ o rfl hB4 (by omega) hsz4 ?_); intro v' W5 hown5 hg5; obtain ⟨A5, c5, rfl⟩ := own_shape' hown5; have P5 := P4.grown hg5 (own_base hown4 (by omega)); have p5 := P5.cell; have fp5 := P5.free)
      have S5 := S4.grown hg5 (own_base hown4 (by omega))
      have T5 : TB (fun k => k = w.heap.size + 1 ∨ v.ownBlock = some k) W W5 :=
        ((hT3.mono fun k _ e => .inl e).trans (TB.of_below hbal)).trans (TB.of_grown hg5 (fun k e => .inr e))
      have T6 : TB (fun k => k = w.heap.size + 1 ∨ v.ownBlock = some k ∨ k = w4.heap.size + 1) W (W5.setCell ⟨w4.heap.size + 1, 0, none⟩ (.slice A5 (st.1.length + 1) c5)) :=
        (T5.mono fun k _ e => e.elim .inl (fun h => .inr (.inl h))).trans ⟨rfl, rfl, rfl, by simp, fun k _ hk => Below.heap_setCell W5 ⟨w4.heap.size + 1, 0, none⟩ _ k (fun e => hk (.inr (.inr e)))⟩
      have hvb := own_from g4
      have hW5 : WantAt W5 (w.heap.size + 1) n (backW st.2 o) := (hW3.below hbal).tb (S := fun k => v.ownBlock = some k) (TB.of_grown hg5 (fun k e => e)) (fun e => by have := hvb _ e; omega)
      refine ⟨keepsFrom_tb T6 ?_, KpS.of_tb T6 ?_, S5.other (by show w4.heap.size ≠ w4.heap.size + 1; omega) _, ?_, ?_, g5.trans (T6.below (by have := g5.size; omega) ?_), Nat.le_trans g6 T6.size⟩
      · rintro k ob (e | e | e) h1 h2
        · omega
        · rcases g4.2 with ⟨rfl, -⟩ | ⟨g, cap, cur, rfl, -, hh, -⟩
          · cases e
          · cases e
            rw [hh] at h1
            cases h1
            rfl
        · omega
      · rintro k hk (e | e | e)
        · omega
        · have := hvb _ e; omega
        · omega
      · rw [hkp]; unfold stB1; rw [hst, if_pos rfl]
        exact hW5.tb (S := fun k => k = w4.heap.size + 1) ⟨rfl, rfl, rfl, by simp, fun k _ hk => Below.heap_setCell W5 ⟨w4.heap.size + 1, 0, none⟩ _ k hk⟩ (by omega)
      · rw [hkp]; unfold stB1; rw [hst, if_pos rfl]
        refine ⟨_, P5.set 0 _, ?_⟩
        have : w7.heap.size ≤ w4.heap.size + 1 → False := by omega
        rw [show (st.1 ++ [o]).length = st.1.length + 1 by simp, opsC_snoc]
        exact ownsRow_setCell_below hown5 (a := ⟨w4.heap.size + 1, 0, none⟩) (by show w4.heap.size + 1 < w7.heap.size; omega) _
      · rintro k (e | e | e)
        · omega
        · have := hvb _ e; omega
        · omega
  case done =>
    rintro D ys W hD rfl ⟨g1, g2, ⟨v, g3, g4⟩, g5, g6⟩ hK
    rw [stB_all] at g2 g4
    simp only at g2 g4
    have hll : (backL b.ops we).1.length ≤ b.ops.length := (backL_sub b.ops we).length_le
    have hrev := reverse_c g4 (by simp; omega)
    have c3 := g3.cell
    have hmlt := g2.lt
    have hob := g3.lt
    go_wp2_with (go_at_call 61; go_must (refine hrev.mono ?_); rintro e w8 ⟨rfl, hrow, hT8⟩; have P8 := g3.tb hT8 (fun e => own_base g4 (k := w4.heap.size + 1) (by omega) e.symm); have p8 := P8.cell)
    have hvb : ∀ k, v.ownBlock = some k → k ≠ D ∧ w7.heap.size ≤ k := by
      intro k hk
      have hk7 := own_from g4 k hk
      refine ⟨fun e => ?_, hk7⟩
      rcases g4.2 with ⟨hz, -⟩ | ⟨g, cap, cur, hv, -, hh, -⟩
      · rw [hz] at hk; cases hk
      · rw [hv] at hk
        have hk : some g = some k := hk
        cases hk
        rw [e, hK] at hh
        cases hh
    have hDl : D < W.heap.size := (Array.getElem?_eq_some_iff.1 hK).1
    have hK8 : w8.heap[D]? = some (.deferred (some [])) := (hT8.block D hDl (fun e => (hvb D e).1 rfl)).trans hK
    have hb8 : Below w.heap.size w w8 := g5.trans (hT8.below (by omega) (fun k e => by have := (hvb k e).2; omega))
    have hW8 := g2.tb hT8 (fun e => by have := (hvb _ e).2; omega)
    refine ⟨by simp, .inl ⟨_, _, rfl, run_takeDeferred hK8, ?_⟩⟩
    refine ⟨_, results_tmp2 rfl _ _ _, ?_⟩
    have TD : TB (fun k => k = D) w8 (w8.putObj D (.deferred none)) := TB.of_grown (grownBy_putObj' w8 D _) (fun k e => by cases e; rfl)
    have hlenr : (backL b.ops we).1.reverse.length = (backL b.ops we).1.length := by simp
    unfold BackwardPost
    rw [hwe]
    rw [List.reverse_reverse, hlenr] at hrow
    refine ⟨v, w.heap.size + 1, rfl, own_base_le (own_tb hrow TD ?_) (by omega), by omega, hW8.tb TD (by omega), hb8.trans (TD.below (by have := hb8.size; omega) (by rintro k rfl; omega))⟩
    intro k hk
    exact (hvb k hk).1
  case stop =>
    rintro D c pre W _ _ h _
    exact h.elim
set_option maxRecDepth 100000 in
set_option maxHeartbeats 4000000 in
theorem backward_n3 (b : SBlock) (O : Option Addr) (c m n : Nat) (wn : Want) (w : World) (hO : kOp.Row w O b.ops) (hlen : b.ops.length ≤ 100000) (hn : n ≤ 100000) (hops : ∀ o ∈ b.ops, OpIn n o ∧ -9223372036854775808 ≤ o.d ∧ o.d < 9223372036854775808) (hW : WantAt w m n wn) (h2 : (b.e == 2) = false) (h3 : (b.e == 3) = true) (h4 : b.a < 0) :
    Calls Tryz.prog 34 #[.agg (blkC5 (.slice O b.ops.length c) b.e b.a b.go b.els), .map (some m)] w (BackwardPost w n b wn) := by
  refine (callsIn_wide (n := 9)).1 ?_
  refine callsIn_of_wp_marks Tryz.func34 rfl trivial ?_ rfl
  simp only [Tryz.ntmps34, List.size_toArray, List.length_cons, List.length_nil, Nat.reduceAdd, Nat.reduceSub, Array.replicate_succ, Array.replicate_zero, List.push_toArray, List.append_toArray, List.nil_append, List.cons_append]
  refine wpIn_wide.2 ?_
  have B1 := Bk.new w (blkC5 (.slice O b.ops.length c) b.e b.a b.go b.els) 38
  have hb1 : Below w.heap.size w (w.alloc (.cells (blkC5 (.slice O b.ops.length c) b.e b.a b.go b.els) 38)) := (Below.refl _ _).alloc (Nat.le_refl _) _
  have hs1 : (w.alloc (.cells (blkC5 (.slice O b.ops.length c) b.e b.a b.go b.els) 38)).heap.size = w.heap.size + 1 := by simp
  have hcl := clone_c (hW.below hb1)
  rw [hs1] at hcl
  have hO1 := hO.mono hb1
  have HEW := Lib.hid (show endW b wn = wn by unfold endW; rw [if_neg]; unfold asksEnd; rw [h2, h3]; simp; omega)
  obtain ⟨w1, hw1⟩ : ∃ w1, w.alloc (.cells (blkC5 (.slice O b.ops.length c) b.e b.a b.go b.els) 38) = w1 := ⟨_, rfl⟩
  rw [hw1] at B1 hb1 hs1 hcl hO1
  go_upto_region 2 with (go_at_call 58; go_must (refine hcl.mono ?_); rintro e w2 ⟨rfl, hW2, hb2⟩)
  rw [← hs1] at hb2
  have B2 := B1.mono hb2
  have hb2' := bt hb1 hb2
  have C2 := B2.cell
  have hs2 : w.heap.size + 2 ≤ w2.heap.size := by have := hW2.lt; omega
  clear hcl B1 hw1
  go_upto_region 4 with (fail)
  have hW4 : WantAt w2 (w.heap.size + 1) n (endW b wn) := hW2.congr HEW.out.symm
  clear hW2 C2 hb2 hO1 hb1 hs1
  generalize w2 = w4 at hW4 B2 hb2' hs2 ⊢
  have B4 := B2
  have hb4 := hb2'
  have hs4 := hs2
  clear B2 hb2' hs2
  have hO4 := hO.mono hb4
  have C4 := B4.cell
  obtain ⟨we, hwe⟩ : ∃ we, endW b wn = we := ⟨_, rfl⟩
  rw [hwe] at hW4
  go_upto_region 6 with (fail)
  have B6 := (B4.alloc (.cells #[.func (.func 59) #[.map (some (w.heap.size + 1))] #[]] 59)).alloc (.cells #[.slice none 0 0] 36)
  have S6 := (Bk.new w4 #[.func (.func 59) #[.map (some (w.heap.size + 1))] #[]] 59).alloc (.cells #[.slice none 0 0] 36)
  have P6 := Bk.newAt (w := w4.alloc (.cells #[.func (.func 59) #[.map (some (w.heap.size + 1))] #[]] 59)) (n := w4.heap.size + 1) #[.slice none 0 0] 36 (by simp)
  have hb46 : Below w4.heap.size w4 ((w4.alloc (.cells #[.func (.func 59) #[.map (some (w.heap.size + 1))] #[]] 59)).alloc (.cells #[.slice none 0 0] 36)) := ((Below.refl _ _).alloc (Nat.le_refl _) _).alloc (by simp) _
  have hs6 : ((w4.alloc (.cells #[.func (.func 59) #[.map (some (w.heap.size + 1))] #[]] 59)).alloc (.cells #[.slice none 0 0] 36)).heap.size = w4.heap.size + 2 := by simp
  generalize (w4.alloc (.cells #[.func (.func 59) #[.map (some (w.heap.size + 1))] #[]] 59)).alloc (.cells #[.slice none 0 0] 36) = w6 at B6 S6 P6 hb46 hs6 ⊢
  have hW6 := hW4.below hb46
  have hb6 := bt' hb4 (by omega) hb46
  clear hW4 B4 C4 hb4 hO4 hb46
  have C6 := B6.cell
  go_wp2_with (go_at_call 60; go_must (refine (backwardOp_c O b.ops.length c _).mono ?_); rintro e w7 ⟨rfl, rfl⟩)
  have hs7 : (w6.alloc (.cells #[.slice O b.ops.length c] 36)).heap.size = w4.heap.size + 3 := by simp; omega
  have B7 := Bk.new w6 #[.slice O b.ops.length c] 36
  rw [hs6] at B7
  have S7 := S6.alloc (.cells #[.slice O b.ops.length c] 36)
  have P7 := P6.alloc (.cells #[.slice O b.ops.length c] 36)
  have hW7 := hW6.below ((Below.refl _ _).alloc (Nat.le_refl _) (.cells #[.slice O b.ops.length c] 36))
  have hb7 : Below w.heap.size w (w6.alloc (.cells #[.slice O b.ops.length c] 36)) := hb6.alloc (by omega) _
  obtain ⟨w7, hw7⟩ : ∃ w7, w6.alloc (.cells #[.slice O b.ops.length c] 36) = w7 := ⟨_, rfl⟩
  rw [hw7] at B7 S7 P7 hW7 hb7 hs7 ⊢
  clear hw7 hW6 B6 S6 P6 hb6 C6
  have hOb : ∀ bb o, O = some ⟨bb, o, none⟩ → b.ops ≠ [] → bb < w.heap.size := by
    intro bb o e hne
    obtain ⟨b', o', e', g0, _⟩ := kOp_at hO 0 (List.length_pos_iff.2 hne)
    rw [e] at e'
    cases e'
    exact World.block_lt_of_cell? w _ g0
  refine (wpIn_wide (n := 9)).1 ?_
  refine wpIn_rangeFunc_ownH (α := Fin b.ops.length) (encs := fun x => #[.int .i64 (x.val : Int), (b.ops[x.val]'x.isLt).val]) (Kp := KpS (fun k => k < w.heap.size ∨ k = w4.heap.size + 2)) (S := fun ys => ys = (List.finRange b.ops.length).reverse) (Sp := fun pre => pre <+: (List.finRange b.ops.length).reverse) (N := b.ops.length) rfl (by omega) (gf := 80) (lb := #[.pointer (some ⟨w4.heap.size + 2, 0, none⟩)]) rfl trivial (Go.Proofs.YtoabiignjkcdmaaGreat.enters_of Tryz.func80 (by kernel_rfl) rfl)
    (w0 := w7) ?seq (fun h1 h2 => KpS.trans h1 h2) (KpS.put (by rintro k (h | h) <;> omega)) (Below.refl _ _) (fun _ => rfl)
    (BkI w w7 (w.heap.size + 1) w4.heap.size (w4.heap.size + 1) n b.ops we) (fun _ _ _ => False) (bkI_own (by omega) (by omega) (by omega) (by omega)) (fun _ _ _ _ _ h _ _ => h)
    ⟨S7, hW7, ⟨_, P7, nil_own _ _ _ _⟩, hb7, Nat.le_refl _⟩
    (fun x a' W => ∃ Bx, Bk W Bx (b.ops[x.val]'x.isLt).cells.toArray 54 ∧ a' = { tmps := #[.agg (blkC5 (.slice O b.ops.length c) b.e b.a b.go b.els), .map (some (w.heap.size + 1)), .pointer (some ⟨w.heap.size, 0, none⟩), undef, .slice none 0 0, .map none, .pointer (some ⟨w4.heap.size, 0, none⟩), .pointer (some ⟨w4.heap.size + 1, 0, none⟩), undef, .pointer (some ⟨Bx, 0, none⟩), .map (some m), .map (some (w.heap.size + 1)), .pointer (some ⟨w.heap.size, 1, none⟩), .int .u8 b.e, .bool false, .bool false, .pointer (some ⟨w.heap.size, 1, none⟩), .int .u8 b.e, .bool true, .bool true, .pointer (some ⟨w.heap.size, 2, none⟩), .int .i64 b.a, .bool (decide (0 ≤ b.a)), .bool (decide (0 ≤ b.a)), .bool (decide (0 ≤ b.a)), undef, undef, undef, .map (some (w.heap.size + 1)), .func (.func 59) #[.map (some (w.heap.size + 1))] #[], .pointer (some ⟨w.heap.size, 0, none⟩), .slice O b.ops.length c, .func (.func 80) #[] #[.pointer (some ⟨w4.heap.size + 2, 0, none⟩)], .int .i64 (x.val : Int), (b.ops[x.val]'x.isLt).val, undef, undef, undef, undef, undef, undef, undef, undef, undef, undef, undef], defers := [] })
    (fun x a' _ W W' row ⟨Bx, h1, h2⟩ hg hr => ⟨Bx, bk_kept h1 hg (fun r e => (hr r e).2), h2⟩) ?assign ?body ?done ?stop
  case seq =>
    intro l J Jx W hW _ _ hY h0
    exact backOp_in Fence.wide 8 trivial rfl (by omega) l (w4.heap.size + 2) _ b.ops (by omega) O c J Jx hY W (cm (B7.cell 0) hW) (.inr rfl) ((hO.mono hb7).mono hW) (fun hp bb o e => .inl (hOb bb o e (List.length_pos_iff.1 hp))) h0
  case assign =>
    rintro l pre x W K hi hK
    unfold SOp.val
    gi_wp2
    exact hK _ _ ((KeepsOthers.alloc W _).from _) (KpS.alloc W _) (OwnFrom.alloc (B := w7.heap.size) (bkI_own (by omega) (by omega) (by omega) (by omega)) _ hi) ⟨W.heap.size, Bk.new .., rfl⟩
  case body =>
    rintro l pre x a' W hl hr ⟨g1, g2, ⟨v, g3, g4⟩, g5, g6⟩ ⟨Bx, hBx, rfl⟩ hlt
    have hlen' := stB_len b.ops we pre
    have hsn := stB_snoc b.ops we pre x
    have ho := hops _ (List.getElem_mem x.isLt)
    obtain ⟨o, hoe⟩ : ∃ o, b.ops[x.val]'x.isLt = o := ⟨_, rfl⟩
    rw [hoe] at hsn ho hBx
    obtain ⟨st, hste⟩ : ∃ st, stB b.ops we pre = st := ⟨_, rfl⟩
    rw [hste] at hsn hlen' g2 g4
    have hcall := back_c g2 o hn ho.1 ho.2
    unfold SOp.val BackPost at hcall
    have c1 := g1.cell
    have d0 := hBx.cell 0
    have d1 := hBx.cell 1
    have d2 := hBx.cell 2
    have d3 := hBx.cell 3
    have d4 := hBx.cell 4
    have d5 := hBx.cell 5
    replace d0 : W.cell? ⟨Bx, 0, none⟩ = some (.int .u8 o.k) := d0
    replace d1 : W.cell? ⟨Bx, 1, none⟩ = some (.int .u8 o.fn) := d1
    replace d2 : W.cell? ⟨Bx, 2, none⟩ = some (.int .i64 o.d) := d2
    replace d3 : W.cell? ⟨Bx, 3, none⟩ = some (.int .i64 o.a) := d3
    replace d4 : W.cell? ⟨Bx, 4, none⟩ = some (.int .i64 o.b) := d4
    replace d5 : W.cell? ⟨Bx, 5, none⟩ = some (.int .u64 o.imm) := d5
    have HSN := Lib.hid hsn
    clear hsn hste hoe
    have hbx := hBx.lt
    have hml := g2.lt
    cases hst : stays st.2 o with
    | false =>
      rw [hst] at hcall
      gi_wp2_with fail
      refine ⟨trivial, ?_⟩
      refine (CallsIn.inRound l (callsIn_wide.2 hcall)).mono ?_
      rintro e W3 ⟨rfl, hW3, hT3⟩
      rw [if_neg (by decide)] at hW3
      gi_wp2_with fail
      refine ⟨keepsFrom_tb hT3 (by rintro k o rfl _ h; omega), KpS.of_tb hT3 (by rintro k (h | h) <;> omega), g1.tb hT3 (by omega), ?_, ?_, g5.trans (hT3.below (by have := g5.size; omega) (by rintro k rfl; omega)), Nat.le_trans g6 hT3.size⟩
      · rw [HSN.out]; unfold stB1; rw [hst, if_neg (by decide)]; exact hW3
      · rw [HSN.out]
        unfold stB1
        rw [hst, if_neg (by decide)]
        exact ⟨v, g3.tb hT3 (by omega), own_tb g4 hT3 (fun k hk e => by have := own_from g4 k hk; omega)⟩
    | true =>
      rw [hst] at hcall
      gi_wp2_with fail
      refine ⟨trivial, ?_⟩
      refine (CallsIn.inRound l (callsIn_wide.2 hcall)).mono ?_
      rintro e W3 ⟨rfl, hW3, hT3⟩
      replace hW3 : WantAt W3 (w.heap.size + 1) n (backW st.2 o) := hW3
      have S3 := g1.tb hT3 (by omega)
      have P3 := g3.tb hT3 (by omega)
      have hown3 := own_tb g4 hT3 (fun k hk e => by have := own_from g4 k hk; omega)
      have X3 := hBx.tb (n := Bx) hT3 (by intro e; rw [e] at hBx; obtain ⟨D, ⟨es, clk, hh, _⟩, _⟩ := g2; unfold Bk at hBx; rw [hh] at hBx; cases hBx)
      have hb3 : Below w.heap.size w W3 := g5.trans (hT3.below (by have := g5.size; omega) (by rintro k rfl; omega))
      have p3 := P3.cell
      have fp3 := P3.free
      have e0 : W3.cell? ⟨Bx, 0, none⟩ = some (.int .u8 o.k) := X3.cell 0
      have e1 : W3.cell? ⟨Bx, 1, none⟩ = some (.int .u8 o.fn) := X3.cell 1
      have e2 : W3.cell? ⟨Bx, 2, none⟩ = some (.int .i64 o.d) := X3.cell 2
      have e3 : W3.cell? ⟨Bx, 3, none⟩ = some (.int .i64 o.a) := X3.cell 3
      have e4 : W3.cell? ⟨Bx, 4, none⟩ = some (.int .i64 o.b) := X3.cell 4
      have e5 : W3.cell? ⟨Bx, 5, none⟩ = some (.int .u64 o.imm) := X3.cell 5
      have hws3 : w7.heap.size ≤ W3.heap.size := Nat.le_trans g6 hT3.size
      have hbal : Below W3.heap.size W3 (W3.alloc (.cells (opC o.k o.fn o.d o.a o.b o.imm) 54)) := (Below.refl _ _).alloc (Nat.le_refl _) _
      have hown4 := own_below hown3 hbal
      have hB4 := Bk.new W3 (opC o.k o.fn o.d o.a o.b o.imm) 54
      have P4 := P3.mono hbal
      have S4 := S3.mono hbal
      have hsz4 : w7.heap.size ≤ (W3.alloc (.cells (opC o.k o.fn o.d o.a o.b o.imm) 54)).heap.size := by simp; omega
      have hkp := HSN.out
      gi_wp2_with (gi_at_builtin; go_must (refine wpListIn_append_op rfl _ _ rfl w7.heap.size _ _ _ rfl hown4 _ o rfl hB4 (by omega) hsz4 ?_); intro v' W5 hown5 hg5; obtain ⟨A5, c5, rfl⟩ := own_shape' hown5; have P5 := P4.grown hg5 (own_base hown4 (by omega)); have p5 := P5.cell; have fp5 := P5.free)
      have S5 := S4.grown hg5 (own_base hown4 (by omega))
      have T5 : TB (fun k => k = w.heap.size + 1 ∨ v.ownBlock = some k) W W5 :=
        ((hT3.mono fun k _ e => .inl e).trans (TB.of_below hbal)).trans (TB.of_grown hg5 (fun k e => .inr e))
      have T6 : TB (fun k => k = w.heap.size + 1 ∨ v.ownBlock = some k ∨ k = w4.heap.size + 1) W (W5.setCell ⟨w4.heap.size + 1, 0, none⟩ (.slice A5 (st.1.length + 1) c5)) :=
        (T5.mono fun k _ e => e.elim .inl (fun h => .inr (.inl h))).trans ⟨rfl, rfl, rfl, by simp, fun k _ hk => Below.heap_setCell W5 ⟨w4.heap.size + 1, 0, none⟩ _ k (fun e => hk (.inr (.inr e)))⟩
      have hvb := own_from g4
      have hW5 : WantAt W5 (w.heap.size + 1) n (backW st.2 o) := (hW3.below hbal).tb (S := fun k => v.ownBlock = some k) (TB.of_grown hg5 (fun k e => e)) (fun e => by have := hvb _ e; omega)
      refine ⟨keepsFrom_tb T6 ?_, KpS.of_tb T6 ?_, S5.other (by show w4.heap.size ≠ w4.heap.size + 1; omega) _, ?_, ?_, g5.trans (T6.below (by have := g5.size; omega) ?_), Nat.le_trans g6 T6.size⟩
      · rintro k ob (e | e | e) h1 h2
        · omega
        · rcases g4.2 with ⟨rfl, -⟩ | ⟨g, cap, cur, rfl, -, hh, -⟩
          · cases e
          · cases e
            rw [hh] at h1
            cases h1
            rfl
        · omega
      · rintro k hk (e | e | e)
        · omega
        · have := hvb _ e; omega
        · omega
      · rw [hkp]; unfold stB1; rw [hst, if_pos rfl]
        exact hW5.tb (S := fun k => k = w4.heap.size + 1) ⟨rfl, rfl, rfl, by simp, fun k _ hk => Below.heap_setCell W5 ⟨w4.heap.size + 1, 0, none⟩ _ k hk⟩ (by omega)
      · rw [hkp]; unfold stB1; rw [hst, if_pos rfl]
        refine ⟨_, P5.set 0 _, ?_⟩
        have : w7.heap.size ≤ w4.heap.size + 1 → False := by omega
        rw [show (st.1 ++ [o]).length = st.1.length + 1 by simp, opsC_snoc]
        exact ownsRow_setCell_below hown5 (a := ⟨w4.heap.size + 1, 0, none⟩) (by show w4.heap.size + 1 < w7.heap.size; omega) _
      · rintro k (e | e | e)
        · omega
        · have := hvb _ e; omega
        · omega
  case done =>
    rintro D ys W hD rfl ⟨g1, g2, ⟨v, g3, g4⟩, g5, g6⟩ hK
    rw [stB_all] at g2 g4
    simp only at g2 g4
    have hll : (backL b.ops we).1.length ≤ b.ops.length := (backL_sub b.ops we).length_le
    have hrev := reverse_c g4 (by simp; omega)
    have c3 := g3.cell
    have hmlt := g2.lt
    have hob := g3.lt
    go_wp2_with (go_at_call 61; go_must (refine hrev.mono ?_); rintro e w8 ⟨rfl, hrow, hT8⟩; have P8 := g3.tb hT8 (fun e => own_base g4 (k := w4.heap.size + 1) (by omega) e.symm); have p8 := P8.cell)
    have hvb : ∀ k, v.ownBlock = some k → k ≠ D ∧ w7.heap.size ≤ k := by
      intro k hk
      have hk7 := own_from g4 k hk
      refine ⟨fun e => ?_, hk7⟩
      rcases g4.2 with ⟨hz, -⟩ | ⟨g, cap, cur, hv, -, hh, -⟩
      · rw [hz] at hk; cases hk
      · rw [hv] at hk
        have hk : some g = some k := hk
        cases hk
        rw [e, hK] at hh
        cases hh
    have hDl : D < W.heap.size := (Array.getElem?_eq_some_iff.1 hK).1
    have hK8 : w8.heap[D]? = some (.deferred (some [])) := (hT8.block D hDl (fun e => (hvb D e).1 rfl)).trans hK
    have hb8 : Below w.heap.size w w8 := g5.trans (hT8.below (by omega) (fun k e => by have := (hvb k e).2; omega))
    have hW8 := g2.tb hT8 (fun e => by have := (hvb _ e).2; omega)
    refine ⟨by simp, .inl ⟨_, _, rfl, run_takeDeferred hK8, ?_⟩⟩
    refine ⟨_, results_tmp2 rfl _ _ _, ?_⟩
    have TD : TB (fun k => k = D) w8 (w8.putObj D (.deferred none)) := TB.of_grown (grownBy_putObj' w8 D _) (fun k e => by cases e; rfl)
    have hlenr : (backL b.ops we).1.reverse.length = (backL b.ops we).1.length := by simp
    unfold BackwardPost
    rw [hwe]
    rw [List.reverse_reverse, hlenr] at hrow
    refine ⟨v, w.heap.size + 1, rfl, own_base_le (own_tb hrow TD ?_) (by omega), by omega, hW8.tb TD (by omega), hb8.trans (TD.below (by have := hb8.size; omega) (by rintro k rfl; omega))⟩
    intro k hk
    exact (hvb k hk).1
  case stop =>
    rintro D c pre W _ _ h _
    exact h.elim
set_option maxRecDepth 100000 in
set_option maxHeartbeats 4000000 in
theorem backward_n4 (b : SBlock) (O : Option Addr) (c m n : Nat) (wn : Want) (w : World) (hO : kOp.Row w O b.ops) (hlen : b.ops.length ≤ 100000) (hn : n ≤ 100000) (hops : ∀ o ∈ b.ops, OpIn n o ∧ -9223372036854775808 ≤ o.d ∧ o.d < 9223372036854775808) (hW : WantAt w m n wn) (h2 : (b.e == 2) = false) (h3 : (b.e == 3) = false) :
    Calls Tryz.prog 34 #[.agg (blkC5 (.slice O b.ops.length c) b.e b.a b.go b.els), .map (some m)] w (BackwardPost w n b wn) := by
  refine (callsIn_wide (n := 9)).1 ?_
  refine callsIn_of_wp_marks Tryz.func34 rfl trivial ?_ rfl
  simp only [Tryz.ntmps34, List.size_toArray, List.length_cons, List.length_nil, Nat.reduceAdd, Nat.reduceSub, Array.replicate_succ, Array.replicate_zero, List.push_toArray, List.append_toArray, List.nil_append, List.cons_append]
  refine wpIn_wide.2 ?_
  have B1 := Bk.new w (blkC5 (.slice O b.ops.length c) b.e b.a b.go b.els) 38
  have hb1 : Below w.heap.size w (w.alloc (.cells (blkC5 (.slice O b.ops.length c) b.e b.a b.go b.els) 38)) := (Below.refl _ _).alloc (Nat.le_refl _) _
  have hs1 : (w.alloc (.cells (blkC5 (.slice O b.ops.length c) b.e b.a b.go b.els) 38)).heap.size = w.heap.size + 1 := by simp
  have hcl := clone_c (hW.below hb1)
  rw [hs1] at hcl
  have hO1 := hO.mono hb1
  have HEW := Lib.hid (show endW b wn = wn by unfold endW; rw [if_neg]; unfold asksEnd; rw [h2, h3]; simp)
  obtain ⟨w1, hw1⟩ : ∃ w1, w.alloc (.cells (blkC5 (.slice O b.ops.length c) b.e b.a b.go b.els) 38) = w1 := ⟨_, rfl⟩
  rw [hw1] at B1 hb1 hs1 hcl hO1
  go_upto_region 2 with (go_at_call 58; go_must (refine hcl.mono ?_); rintro e w2 ⟨rfl, hW2, hb2⟩)
  rw [← hs1] at hb2
  have B2 := B1.mono hb2
  have hb2' := bt hb1 hb2
  have C2 := B2.cell
  have hs2 : w.heap.size + 2 ≤ w2.heap.size := by have := hW2.lt; omega
  clear hcl B1 hw1
  go_upto_region 4 with (fail)
  have hW4 : WantAt w2 (w.heap.size + 1) n (endW b wn) := hW2.congr HEW.out.symm
  clear hW2 C2 hb2 hO1 hb1 hs1
  generalize w2 = w4 at hW4 B2 hb2' hs2 ⊢
  have B4 := B2
  have hb4 := hb2'
  have hs4 := hs2
  clear B2 hb2' hs2
  have hO4 := hO.mono hb4
  have C4 := B4.cell
  obtain ⟨we, hwe⟩ : ∃ we, endW b wn = we := ⟨_, rfl⟩
  rw [hwe] at hW4
  go_upto_region 6 with (fail)
  have B6 := (B4.alloc (.cells #[.func (.func 59) #[.map (some (w.heap.size + 1))] #[]] 59)).alloc (.cells #[.slice none 0 0] 36)
  have S6 := (Bk.new w4 #[.func (.func 59) #[.map (some (w.heap.size + 1))] #[]] 59).alloc (.cells #[.slice none 0 0] 36)
  have P6 := Bk.newAt (w := w4.alloc (.cells #[.func (.func 59) #[.map (some (w.heap.size + 1))] #[]] 59)) (n := w4.heap.size + 1) #[.slice none 0 0] 36 (by simp)
  have hb46 : Below w4.heap.size w4 ((w4.alloc (.cells #[.func (.func 59) #[.map (some (w.heap.size + 1))] #[]] 59)).alloc (.cells #[.slice none 0 0] 36)) := ((Below.refl _ _).alloc (Nat.le_refl _) _).alloc (by simp) _
  have hs6 : ((w4.alloc (.cells #[.func (.func 59) #[.map (some (w.heap.size + 1))] #[]] 59)).alloc (.cells #[.slice none 0 0] 36)).heap.size = w4.heap.size + 2 := by simp
  generalize (w4.alloc (.cells #[.func (.func 59) #[.map (some (w.heap.size + 1))] #[]] 59)).alloc (.cells #[.slice none 0 0] 36) = w6 at B6 S6 P6 hb46 hs6 ⊢
  have hW6 := hW4.below hb46
  have hb6 := bt' hb4 (by omega) hb46
  clear hW4 B4 C4 hb4 hO4 hb46
  have C6 := B6.cell
  go_wp2_with (go_at_call 60; go_must (refine (backwardOp_c O b.ops.length c _).mono ?_); rintro e w7 ⟨rfl, rfl⟩)
  have hs7 : (w6.alloc (.cells #[.slice O b.ops.length c] 36)).heap.size = w4.heap.size + 3 := by simp; omega
  have B7 := Bk.new w6 #[.slice O b.ops.length c] 36
  rw [hs6] at B7
  have S7 := S6.alloc (.cells #[.slice O b.ops.length c] 36)
  have P7 := P6.alloc (.cells #[.slice O b.ops.length c] 36)
  have hW7 := hW6.below ((Below.refl _ _).alloc (Nat.le_refl _) (.cells #[.slice O b.ops.length c] 36))
  have hb7 : Below w.heap.size w (w6.alloc (.cells #[.slice O b.ops.length c] 36)) := hb6.alloc (by omega) _
  obtain ⟨w7, hw7⟩ : ∃ w7, w6.alloc (.cells #[.slice O b.ops.length c] 36) = w7 := ⟨_, rfl⟩
  rw [hw7] at B7 S7 P7 hW7 hb7 hs7 ⊢
  clear hw7 hW6 B6 S6 P6 hb6 C6
  have hOb : ∀ bb o, O = some ⟨bb, o, none⟩ → b.ops ≠ [] → bb < w.heap.size := by
    intro bb o e hne
    obtain ⟨b', o', e', g0, _⟩ := kOp_at hO 0 (List.length_pos_iff.2 hne)
    rw [e] at e'
    cases e'
    exact World.block_lt_of_cell? w _ g0
  refine (wpIn_wide (n := 9)).1 ?_
  refine wpIn_rangeFunc_ownH (α := Fin b.ops.length) (encs := fun x => #[.int .i64 (x.val : Int), (b.ops[x.val]'x.isLt).val]) (Kp := KpS (fun k => k < w.heap.size ∨ k = w4.heap.size + 2)) (S := fun ys => ys = (List.finRange b.ops.length).reverse) (Sp := fun pre => pre <+: (List.finRange b.ops.length).reverse) (N := b.ops.length) rfl (by omega) (gf := 80) (lb := #[.pointer (some ⟨w4.heap.size + 2, 0, none⟩)]) rfl trivial (Go.Proofs.YtoabiignjkcdmaaGreat.enters_of Tryz.func80 (by kernel_rfl) rfl)
    (w0 := w7) ?seq (fun h1 h2 => KpS.trans h1 h2) (KpS.put (by rintro k (h | h) <;> omega)) (Below.refl _ _) (fun _ => rfl)
    (BkI w w7 (w.heap.size + 1) w4.heap.size (w4.heap.size + 1) n b.ops we) (fun _ _ _ => False) (bkI_own (by omega) (by omega) (by omega) (by omega)) (fun _ _ _ _ _ h _ _ => h)
    ⟨S7, hW7, ⟨_, P7, nil_own _ _ _ _⟩, hb7, Nat.le_refl _⟩
    (fun x a' W => ∃ Bx, Bk W Bx (b.ops[x.val]'x.isLt).cells.toArray 54 ∧ a' = { tmps := #[.agg (blkC5 (.slice O b.ops.length c) b.e b.a b.go b.els), .map (some (w.heap.size + 1)), .pointer (some ⟨w.heap.size, 0, none⟩), undef, .slice none 0 0, .map none, .pointer (some ⟨w4.heap.size, 0, none⟩), .pointer (some ⟨w4.heap.size + 1, 0, none⟩), undef, .pointer (some ⟨Bx, 0, none⟩), .map (some m), .map (some (w.heap.size + 1)), .pointer (some ⟨w.heap.size, 1, none⟩), .int .u8 b.e, .bool false, .bool false, .pointer (some ⟨w.heap.size, 1, none⟩), .int .u8 b.e, .bool false, .bool false, undef, undef, undef, .bool false, .bool false, undef, undef, undef, .map (some (w.heap.size + 1)), .func (.func 59) #[.map (some (w.heap.size + 1))] #[], .pointer (some ⟨w.heap.size, 0, none⟩), .slice O b.ops.length c, .func (.func 80) #[] #[.pointer (some ⟨w4.heap.size + 2, 0, none⟩)], .int .i64 (x.val : Int), (b.ops[x.val]'x.isLt).val, undef, undef, undef, undef, undef, undef, undef, undef, undef, undef, undef], defers := [] })
    (fun x a' _ W W' row ⟨Bx, h1, h2⟩ hg hr => ⟨Bx, bk_kept h1 hg (fun r e => (hr r e).2), h2⟩) ?assign ?body ?done ?stop
  case seq =>
    intro l J Jx W hW _ _ hY h0
    exact backOp_in Fence.wide 8 trivial rfl (by omega) l (w4.heap.size + 2) _ b.ops (by omega) O c J Jx hY W (cm (B7.cell 0) hW) (.inr rfl) ((hO.mono hb7).mono hW) (fun hp bb o e => .inl (hOb bb o e (List.length_pos_iff.1 hp))) h0
  case assign =>
    rintro l pre x W K hi hK
    unfold SOp.val
    gi_wp2
    exact hK _ _ ((KeepsOthers.alloc W _).from _) (KpS.alloc W _) (OwnFrom.alloc (B := w7.heap.size) (bkI_own (by omega) (by omega) (by omega) (by omega)) _ hi) ⟨W.heap.size, Bk.new .., rfl⟩
  case body =>
    rintro l pre x a' W hl hr ⟨g1, g2, ⟨v, g3, g4⟩, g5, g6⟩ ⟨Bx, hBx, rfl⟩ hlt
    have hlen' := stB_len b.ops we pre
    have hsn := stB_snoc b.ops we pre x
    have ho := hops _ (List.getElem_mem x.isLt)
    obtain ⟨o, hoe⟩ : ∃ o, b.ops[x.val]'x.isLt = o := ⟨_, rfl⟩
    rw [hoe] at hsn ho hBx
    obtain ⟨st, hste⟩ : ∃ st, stB b.ops we pre = st := ⟨_, rfl⟩
    rw [hste] at hsn hlen' g2 g4
    have hcall := back_c g2 o hn ho.1 ho.2
    unfold SOp.val BackPost at hcall
    have c1 := g1.cell
    have d0 := hBx.cell 0
    have d1 := hBx.cell 1
    have d2 := hBx.cell 2
    have d3 := hBx.cell 3
    have d4 := hBx.cell 4
    have d5 := hBx.cell 5
    replace d0 : W.cell? ⟨Bx, 0, none⟩ = some (.int .u8 o.k) := d0
    replace d1 : W.cell? ⟨Bx, 1, none⟩ = some (.int .u8 o.fn) := d1
    replace d2 : W.cell? ⟨Bx, 2, none⟩ = some (.int .i64 o.d) := d2
    replace d3 : W.cell? ⟨Bx, 3, none⟩ = some (.int .i64 o.a) := d3
    replace d4 : W.cell? ⟨Bx, 4, none⟩ = some (.int .i64 o.b) := d4
    replace d5 : W.cell? ⟨Bx, 5, none⟩ = some (.int .u64 o.imm) := d5
    have HSN := Lib.hid hsn
    clear hsn hste hoe
    have hbx := hBx.lt
    have hml := g2.lt
    cases hst : stays st.2 o with
    | false =>
      rw [hst] at hcall
      gi_wp2_with fail
      refine ⟨trivial, ?_⟩
      refine (CallsIn.inRound l (callsIn_wide.2 hcall)).mono ?_
      rintro e W3 ⟨rfl, hW3, hT3⟩
      rw [if_neg (by decide)] at hW3
      gi_wp2_with fail
      refine ⟨keepsFrom_tb hT3 (by rintro k o rfl _ h; omega), KpS.of_tb hT3 (by rintro k (h | h) <;> omega), g1.tb hT3 (by omega), ?_, ?_, g5.trans (hT3.below (by have := g5.size; omega) (by rintro k rfl; omega)), Nat.le_trans g6 hT3.size⟩
      · rw [HSN.out]; unfold stB1; rw [hst, if_neg (by decide)]; exact hW3
      · rw [HSN.out]
        unfold stB1
        rw [hst, if_neg (by decide)]
        exact ⟨v, g3.tb hT3 (by omega), own_tb g4 hT3 (fun k hk e => by have := own_from g4 k hk; omega)⟩
    | true =>
      rw [hst] at hcall
      gi_wp2_with fail
      refine ⟨trivial, ?_⟩
      refine (CallsIn.inRound l (callsIn_wide.2 hcall)).mono ?_
      rintro e W3 ⟨rfl, hW3, hT3⟩
      replace hW3 : WantAt W3 (w.heap.size + 1) n (backW st.2 o) := hW3
      have S3 := g1.tb hT3 (by omega)
      have P3 := g3.tb hT3 (by omega)
      have hown3 := own_tb g4 hT3 (fun k hk e => by have := own_from g4 k hk; omega)
      have X3 := hBx.tb (n := Bx) hT3 (by intro e; rw [e] at hBx; obtain ⟨D, ⟨es, clk, hh, _⟩, _⟩ := g2; unfold Bk at hBx; rw [hh] at hBx; cases hBx)
      have hb3 : Below w.heap.size w W3 := g5.trans (hT3.below (by have := g5.size; omega) (by rintro k rfl; omega))
      have p3 := P3.cell
      have fp3 := P3.free
      have e0 : W3.cell? ⟨Bx, 0, none⟩ = some (.int .u8 o.k) := X3.cell 0
      have e1 : W3.cell? ⟨Bx, 1, none⟩ = some (.int .u8 o.fn) := X3.cell 1
      have e2 : W3.cell? ⟨Bx, 2, none⟩ = some (.int .i64 o.d) := X3.cell 2
      have e3 : W3.cell? ⟨Bx, 3, none⟩ = some (.int .i64 o.a) := X3.cell 3
      have e4 : W3.cell? ⟨Bx, 4, none⟩ = some (.int .i64 o.b) := X3.cell 4
      have e5 : W3.cell? ⟨Bx, 5, none⟩ = some (.int .u64 o.imm) := X3.cell 5
      have hws3 : w7.heap.size ≤ W3.heap.size := Nat.le_trans g6 hT3.size
      have hbal : Below W3.heap.size W3 (W3.alloc (.cells (opC o.k o.fn o.d o.a o.b o.imm) 54)) := (Below.refl _ _).alloc (Nat.le_refl _) _
      have hown4 := own_below hown3 hbal
      have hB4 := Bk.new W3 (opC o.k o.fn o.d o.a o.b o.imm) 54
      have P4 := P3.mono hbal
      have S4 := S3.mono hbal
      have hsz4 : w7.heap.size ≤ (W3.alloc (.cells (opC o.k o.fn o.d o.a o.b o.imm) 54)).heap.size := by simp; omega
      have hkp := HSN.out
      gi_wp2_with (gi_at_builtin; go_must (refine wpListIn_append_op rfl _ _ rfl w7.heap.size _ _ _ rfl hown4 _ o rfl hB4 (by omega) hsz4 ?_); intro v' W5 hown5 hg5; obtain ⟨A5, c5, rfl⟩ := own_shape' hown5; have P5 := P4.grown hg5 (own_base hown4 (by omega)); have p5 := P5.cell; have fp5 := P5.free)
      have S5 := S4.grown hg5 (own_base hown4 (by omega))
      have T5 : TB (fun k => k = w.heap.size + 1 ∨ v.ownBlock = some k) W W5 :=
        ((hT3.mono fun k _ e => .inl e).trans (TB.of_below hbal)).trans (TB.of_grown hg5 (fun k e => .inr e))
      have T6 : TB (fun k => k = w.heap.size + 1 ∨ v.ownBlock = some k ∨ k = w4.heap.size + 1) W (W5.setCell ⟨w4.heap.size + 1, 0, none⟩ (.slice A5 (st.1.length + 1) c5)) :=
        (T5.mono fun k _ e => e.elim .inl (fun h => .inr (.inl h))).trans ⟨rfl, rfl, rfl, by simp, fun k _ hk => Below.heap_setCell W5 ⟨w4.heap.size + 1, 0, none⟩ _ k (fun e => hk (.inr (.inr e)))⟩
      have hvb := own_from g4
      have hW5 : WantAt W5 (w.heap.size + 1) n (backW st.2 o) := (hW3.below hbal).tb (S := fun k => v.ownBlock = some k) (TB.of_grown hg5 (fun k e => e)) (fun e => by have := hvb _ e; omega)
      refine ⟨keepsFrom_tb T6 ?_, KpS.of_tb T6 ?_, S5.other (by show w4.heap.size ≠ w4.heap.size + 1; omega) _, ?_, ?_, g5.trans (T6.below (by have := g5.size; omega) ?_), Nat.le_trans g6 T6.size⟩
      · rintro k ob (e | e | e) h1 h2
        · omega
        · rcases g4.2 with ⟨rfl, -⟩ | ⟨g, cap, cur, rfl, -, hh, -⟩
          · cases e
          · cases e
            rw [hh] at h1
            cases h1
            rfl
        · omega
      · rintro k hk (e | e | e)
        · omega
        · have := hvb _ e; omega
        · omega
      · rw [hkp]; unfold stB1; rw [hst, if_pos rfl]
        exact hW5.tb (S := fun k => k = w4.heap.size + 1) ⟨rfl, rfl, rfl, by simp, fun k _ hk => Below.heap_setCell W5 ⟨w4.heap.size + 1, 0, none⟩ _ k hk⟩ (by omega)
      · rw [hkp]; unfold stB1; rw [hst, if_pos rfl]
        refine ⟨_, P5.set 0 _, ?_⟩
        have : w7.heap.size ≤ w4.heap.size + 1 → False := by omega
        rw [show (st.1 ++ [o]).length = st.1.length + 1 by simp, opsC_snoc]
        exact ownsRow_setCell_below hown5 (a := ⟨w4.heap.size + 1, 0, none⟩) (by show w4.heap.size + 1 < w7.heap.size; omega) _
      · rintro k (e | e | e)
        · omega
        · have := hvb _ e; omega
        · omega
  case done =>
    rintro D ys W hD rfl ⟨g1, g2, ⟨v, g3, g4⟩, g5, g6⟩ hK
    rw [stB_all] at g2 g4
    simp only at g2 g4
    have hll : (backL b.ops we).1.length ≤ b.ops.length := (backL_sub b.ops we).length_le
    have hrev := reverse_c g4 (by simp; omega)
    have c3 := g3.cell
    have hmlt := g2.lt
    have hob := g3.lt
    go_wp2_with (go_at_call 61; go_must (refine hrev.mono ?_); rintro e w8 ⟨rfl, hrow, hT8⟩; have P8 := g3.tb hT8 (fun e => own_base g4 (k := w4.heap.size + 1) (by omega) e.symm); have p8 := P8.cell)
    have hvb : ∀ k, v.ownBlock = some k → k ≠ D ∧ w7.heap.size ≤ k := by
      intro k hk
      have hk7 := own_from g4 k hk
      refine ⟨fun e => ?_, hk7⟩
      rcases g4.2 with ⟨hz, -⟩ | ⟨g, cap, cur, hv, -, hh, -⟩
      · rw [hz] at hk; cases hk
      · rw [hv] at hk
        have hk : some g = some k := hk
        cases hk
        rw [e, hK] at hh
        cases hh
    have hDl : D < W.heap.size := (Array.getElem?_eq_some_iff.1 hK).1
    have hK8 : w8.heap[D]? = some (.deferred (some [])) := (hT8.block D hDl (fun e => (hvb D e).1 rfl)).trans hK
    have hb8 : Below w.heap.size w w8 := g5.trans (hT8.below (by omega) (fun k e => by have := (hvb k e).2; omega))
    have hW8 := g2.tb hT8 (fun e => by have := (hvb _ e).2; omega)
    refine ⟨by simp, .inl ⟨_, _, rfl, run_takeDeferred hK8, ?_⟩⟩
    refine ⟨_, results_tmp2 rfl _ _ _, ?_⟩
    have TD : TB (fun k => k = D) w8 (w8.putObj D (.deferred none)) := TB.of_grown (grownBy_putObj' w8 D _) (fun k e => by cases e; rfl)
    have hlenr : (backL b.ops we).1.reverse.length = (backL b.ops we).1.length := by simp
    unfold BackwardPost
    rw [hwe]
    rw [List.reverse_reverse, hlenr] at hrow
    refine ⟨v, w.heap.size + 1, rfl, own_base_le (own_tb hrow TD ?_) (by omega), by omega, hW8.tb TD (by omega), hb8.trans (TD.below (by have := hb8.size; omega) (by rintro k rfl; omega))⟩
    intro k hk
    exact (hvb k hk).1
  case stop =>
    rintro D c pre W _ _ h _
    exact h.elim
theorem backward_c (b : SBlock) (O : Option Addr) (c m n : Nat) (wn : Want) (w : World) (hO : kOp.Row w O b.ops) (hlen : b.ops.length ≤ 100000) (hn : n ≤ 100000) (hops : ∀ o ∈ b.ops, OpIn n o ∧ -9223372036854775808 ≤ o.d ∧ o.d < 9223372036854775808) (hend : asksEnd b = true → 0 ≤ b.a ∧ b.a < (n : Int)) (hW : WantAt w m n wn) :
    Calls Tryz.prog 34 #[.agg (blkC5 (.slice O b.ops.length c) b.e b.a b.go b.els), .map (some m)] w (BackwardPost w n b wn) := by
  cases h2 : (b.e == 2) with
  | true => exact backward_e2 b O c m n wn w hO hlen hn hops hW h2 (hend (by unfold asksEnd; rw [h2]; rfl))
  | false =>
    cases h3 : (b.e == 3) with
    | false => exact backward_n4 b O c m n wn w hO hlen hn hops hW h2 h3
    | true =>
      by_cases h4 : 0 ≤ b.a
      · exact backward_e3 b O c m n wn w hO hlen hn hops hW h2 h3 h4 (hend (by unfold asksEnd; rw [h2, h3]; simp [h4]))
      · exact backward_n3 b O c m n wn w hO hlen hn hops hW h2 h3 (by omega)
end Go.Proofs.YtoabiignjkcdmaaGreat
