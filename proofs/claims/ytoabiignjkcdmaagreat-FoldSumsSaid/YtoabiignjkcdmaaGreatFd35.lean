/-
  Lemmas (texts FoldW5 FoldW7), each proved without a condition beyond its own hypotheses.
-/
import Derived.Test.YtoabiignjkcdmaaGreatFd28
import Derived.Test.YtoabiignjkcdmaaGreatFd29
import Derived.Test.YtoabiignjkcdmaaGreatFd34
import Derived.Test.YtoabiignjkcdmaaGreatFd27
namespace Go.Proofs.YtoabiignjkcdmaaGreat
open Go.RowKit Go.Maps Go.Shelf
set_option linter.unusedVariables false
set_option linter.unusedSimpArgs false

theorem forwardL_snoc : ∀ (l : List SOp) (f : Fx) (o : SOp), forwardL f (l ++ [o]) = ((forwardL f l).1 ++ [foldO (forwardL f l).2 o], foldF (forwardL f l).2 (foldO (forwardL f l).2 o))
  | [], f, o => rfl
  | x :: l, f, o => by
    have ih := forwardL_snoc l (foldF f (foldO f x)) o
    show (foldO f x :: (forwardL _ (l ++ [o])).1, (forwardL _ (l ++ [o])).2) = _
    rw [ih]
    rfl
theorem forwardL_length : ∀ (l : List SOp) (f : Fx), (forwardL f l).1.length = l.length
  | [], f => rfl
  | x :: l, f => congrArg (· + 1) (forwardL_length l _)
def opsC (l : List SOp) : List Value := l.flatMap SOp.cells
theorem opsC_length (l : List SOp) : (opsC l).length = l.length * 6 := flat_len SOp.cells 6 (fun _ => rfl) l
theorem opsC_snoc (l : List SOp) (o : SOp) : opsC (l ++ [o]) = opsC l ++ o.cells := by simp [opsC]
/-- ops = append(ops, o). -/
theorem wpList_append_op {ops : Array Oper} {rest : List Oper} {o : Oper} {a : Act} {Q : Exit → Act → World → Prop} {w : World} (hgd : o.guard = none) (s x : Operand)
    (ho : o.op = .call { callee := .builtin .append, args := #[s, x], argTypes := #[36, 36] }) (base : Nat) (v : Value) (n : Nat) (xs : List Value) (hs : a.eval s = v) (hown : w.ownsRow base 54 6 v n xs)
    (k : Nat) (so : SOp) (hx : a.eval x = .slice (some ⟨k, 0, none⟩) 1 1) (hc : Bk w k so.cells.toArray 54) (hn : n ≤ 1000000000) (hb : base ≤ w.heap.size)
    (h : ∀ v' w', w'.ownsRow base 54 6 v' (n + 1) (xs ++ so.cells) → w.grownBy w' v.ownBlock → wpList Tryz.prog ops Q rest (a.put o.dst v') w') : wpList Tryz.prog ops Q (o :: rest) a w := by
  obtain ⟨i0, hi, hz0, hz1, hz2⟩ := info_parts infoOp
  refine wpList_append_own w hgd s x _ ho base 54 i0 _ 6 40 Tryz.underlying36 hi hz0 hz1 hz2 rfl (by decide) v n xs hs hown ⟨k, 0, none⟩ 1 1 so.cells hx rfl (fun j u hu => ?_) ?_ (by unfold maxLen; omega) (by omega) hb (fun v' w' h1 h2 _ => h v' w' h1 h2)
  · have hj : j < 6 := by
      have := (List.getElem?_eq_some_iff.1 hu).1
      simpa [SOp.cells] using this
    have := hc.cell j
    rw [show ((⟨k, 0, none⟩ : Addr).add j) = ⟨k, j, none⟩ by simp only [Addr.add]; split <;> simp_all, this]
    rw [← hu]
    simp
  · intro u hu
    simp [SOp.cells] at hu
    rcases hu with rfl | rfl | rfl | rfl | rfl | rfl <;> rfl
abbrev blkC5 (v : Value) (e a go els : Int) : Array Value := #[v, .int .u8 e, .int .i64 a, .int .i64 go, .int .i64 els]
/-- The world in which a block is folded forwards. -/
structure FF (w0 w : World) (n : Nat) (f : Fx) (cs : Array Value) : Prop where
  F : Fcts w (w0.heap.size + 1 + 1 + 1 + 1) (w0.heap.size + 1 + 1) (w0.heap.size + 1 + 1 + 1) n f
  B : Bk w w0.heap.size cs 38
  Z : Bk w (w0.heap.size + 1) (blkC5 (.slice none 0 0) 0 0 0 0) 38
  T : Below w0.heap.size w0 w
theorem FF.sz {w0 w : World} {n : Nat} {f : Fx} {cs : Array Value} (h : FF w0 w n f cs) : w0.heap.size + 5 ≤ w.heap.size := h.F.pc.lt
theorem FF.grow {w0 w w' : World} {n : Nat} {f : Fx} {cs : Array Value} (h : FF w0 w n f cs) (hb : Below (w0.heap.size + 5) w w') : FF w0 w' n f cs := by
  have ht : TB (fun k => w0.heap.size + 5 ≤ k) w w' := TB.of_belowB hb (fun _ h => h)
  exact ⟨⟨h.F.pc.tb ht (by omega), h.F.nm.tb ht (by omega), h.F.sm.tb ht (by omega), h.F.st, h.F.ne⟩, h.B.tb ht (by omega), h.Z.tb ht (by omega), h.T.trans (hb.mono (by omega))⟩
theorem FF.turn {w0 w w' : World} {n : Nat} {f f' : Fx} {cs : Array Value} (h : FF w0 w n f cs) (hF : Fcts w' (w0.heap.size + 1 + 1 + 1 + 1) (w0.heap.size + 1 + 1) (w0.heap.size + 1 + 1 + 1) n f') (ht : TB (fun k => k = w0.heap.size + 1 + 1 ∨ k = w0.heap.size + 1 + 1 + 1) w w') : FF w0 w' n f' cs := by
  have := h.sz
  exact ⟨hF, h.B.tb ht (by rintro (e | e) <;> omega), h.Z.tb ht (by rintro (e | e) <;> omega), h.T.trans (ht.below (by omega) (by rintro k (e | e) <;> omega))⟩
theorem FF.setB {w0 w : World} {n : Nat} {f : Fx} {cs : Array Value} (h : FF w0 w n f cs) (i : Nat) (v : Value) : FF w0 (w.setCell ⟨w0.heap.size, i, none⟩ v) n f (cs.setIfInBounds i v) :=
  ⟨h.F.other (by omega) (by omega) (by omega) i v, h.B.set i v, h.Z.other (by simp) v, h.T.setCell (p := ⟨w0.heap.size, i, none⟩) (Nat.le_refl _) v⟩
theorem ff_begin (w : World) (n : Nat) (cs : Array Value) : ∃ w1, w1 = ((((w.alloc (.cells cs 38)).alloc (.cells (blkC5 (.slice none 0 0) 0 0 0 0) 38)).alloc (.map #[] 0)).alloc (.map #[] 0)).alloc (.cells #[.map (some (w.heap.size + 1 + 1)), .map (some (w.heap.size + 1 + 1 + 1))] 107) ∧ FF w w1 n .z cs ∧ w1.heap.size = w.heap.size + 5 := by
  refine ⟨_, rfl, ⟨⟨Bk.newAt _ _ (by simp), ?_, ?_, ⟨(fun _ _ h => by cases h), (fun _ _ h => by cases h)⟩, by omega, by omega, by omega⟩, ((((Bk.new w cs _).alloc _).alloc _).alloc _).alloc _, (((Bk.newAt _ _ (by simp)).alloc _).alloc _).alloc _, ?_⟩, by simp⟩
  · refine ⟨.map [], ?_, Reads.z⟩
    have := World.ownsMap_made (H := Unit) ((w.alloc (.cells cs 38)).alloc (.cells (blkC5 (.slice none 0 0) 0 0 0 0) 38)) Tryz.prog 3 (plainElem Tryz.prog 46)
    have e : ((w.alloc (.cells cs 38)).alloc (.cells (blkC5 (.slice none 0 0) 0 0 0 0) 38)).heap.size = w.heap.size + 2 := by simp
    rw [e] at this
    exact (this.alloc _).alloc _
  · refine ⟨.map [], ?_, Reads.z⟩
    have := World.ownsMap_made (H := Unit) (((w.alloc (.cells cs 38)).alloc (.cells (blkC5 (.slice none 0 0) 0 0 0 0) 38)).alloc (.map #[] 0)) Tryz.prog 3 (plainElem Tryz.prog 3)
    have e : (((w.alloc (.cells cs 38)).alloc (.cells (blkC5 (.slice none 0 0) 0 0 0 0) 38)).alloc (.map #[] 0)).heap.size = w.heap.size + 3 := by simp
    rw [e] at this
    exact this.alloc _
  · exact (((((Below.refl _ _).alloc (Nat.le_refl _) _).alloc (by simp) _).alloc (by simp; omega) _).alloc (by simp; omega) _).alloc (by simp; omega) _
theorem forward_end {tm : Array Value} {q : Nat} {cs : Array Value} {w : World} {R : Ending → World → Prop} (h2 : tm.getD 2 undef = .pointer (some ⟨q, 0, none⟩)) (hb : Bk w q cs 38) (hs : cs.size = 5)
    (hR : R (.returned (.agg cs)) w) : bodyPost Tryz.prog Tryz.f32 R Exit.ret { tmps := tm, defers := [] } w := by
  refine bodyPost_ret (v := .agg cs) ?_ rfl hR
  have hp' : tm[2]?.getD undef = .pointer (some ⟨q, 0, none⟩) := by simpa using h2
  have hi : (Tryz.prog.info? 38).map (·.size) = some cs.size := by rw [hs]; kernel_rfl
  simp [results, Tryz.results32, hp', asAddr, run_loadVar_row w q 38 38 cs (0, 0) _ hb Tryz.underlying38 rfl hi]
/-- The block, folded forwards, of the call's own. -/
def ForwardPost (w : World) (b : SBlock) (e : Ending) (w' : World) : Prop :=
  ∃ v, e = .returned (.agg (blkC5 v (forwardS b).e (forwardS b).a (forwardS b).go (forwardS b).els)) ∧ w'.ownsRow w.heap.size 54 6 v b.ops.length (opsC (forwardS b).ops) ∧ Below w.heap.size w w'
theorem own_base_le {w : World} {B B' n s : Nat} {e : TypeId} {v : Value} {xs : List Value} (h : w.ownsRow B e s v n xs) (hB : B' ≤ B) : w.ownsRow B' e s v n xs := by
  refine ⟨h.1, ?_⟩
  rcases h.2 with hz | ⟨g, cap, cur, rfl, hb, r⟩
  · exact .inl hz
  · exact .inr ⟨g, cap, cur, rfl, Nat.le_trans hB hb, r⟩
theorem ops_round {ops : List SOp} {k : Nat} (h : k < ops.length) : (forwardL .z (ops.take (k + 1))) = ((forwardL .z (ops.take k)).1 ++ [foldO (forwardL .z (ops.take k)).2 ops[k]], foldF (forwardL .z (ops.take k)).2 (foldO (forwardL .z (ops.take k)).2 ops[k])) := by
  rw [List.take_succ_eq_append_getElem h, forwardL_snoc]

set_option maxRecDepth 100000 in
set_option maxHeartbeats 4000000 in
theorem forward_c (b : SBlock) (O : Option Addr) (c n : Nat) (w : World) (hO : kOp.Row w O b.ops) (hlen : b.ops.length ≤ 100000) (hn : n ≤ 100000) (hops : ∀ o ∈ b.ops, OpW n o) (hend : asksEnd b = true → 0 ≤ b.a ∧ b.a < (n : Int)) :
    Calls Tryz.prog 32 #[.agg (blkC5 (.slice O b.ops.length c) b.e b.a b.go b.els)] w (ForwardPost w b) := by
  obtain ⟨w1, hw1, hF1, hs1⟩ := ff_begin w n (blkC5 (.slice O b.ops.length c) b.e b.a b.go b.els)
  have hmm := @run_makeMap Tryz.prog
  go_enter Tryz.func32, Tryz.ntmps32
  go_upto_region 4 with (fail)
  rw [← hw1]
  clear hw1 hmm
  have C1 := hF1.B.cell
  have HP := Lib.hid hops
  clear hops
  go_upto_region 5 with (fail)
  clear C1

  go_loopw [5, 17] (fun s5 s17 wr => ∃ k : Nat, s17 = .int .i64 k ∧ k ≤ b.ops.length ∧ wr.ownsRow (w.heap.size + 5) 54 6 s5 k (opsC (forwardL .z (b.ops.take k)).1) ∧ FF w wr n (forwardL .z (b.ops.take k)).2 (blkC5 (.slice O b.ops.length c) b.e b.a b.go b.els))
    (fun _ s17 _ => b.ops.length - (intOf s17).toNat)
  case atStart => exact ⟨0, rfl, Nat.zero_le _, nil_own _ _ _ _, hF1⟩
  case round =>
    clear hF1
    obtain ⟨k, rfl, hk, hown, hF⟩ := hrel
    by_cases hlt : k < b.ops.length
    · obtain ⟨bb, bo, rfl, g0, g1, g2, g3, g4, g5⟩ := kOp_at (hO.mono hF.T) k hlt
      have HW := Lib.hid (HP.out _ (List.getElem_mem hlt))
      have HR := Lib.hid (ops_round hlt)
      have hsz := hF.sz
      obtain ⟨o, ho⟩ : ∃ o, b.ops[k] = o := ⟨_, rfl⟩
      rw [ho] at g0 g1 g2 g3 g4 g5 HW HR
      clear ho
      obtain ⟨f, hf⟩ : ∃ f, (forwardL .z (b.ops.take k)).2 = f := ⟨_, rfl⟩
      obtain ⟨l, hl⟩ : ∃ l, (forwardL .z (b.ops.take k)).1 = l := ⟨_, rfl⟩
      rw [hf] at hF HR
      rw [hl] at hown HR
      clear hf hl
      have hb0 : Below (w.heap.size + 5) wr (wr.alloc (.cells (opC o.k o.fn o.d o.a o.b o.imm) 54)) := (Below.refl (w.heap.size + 5) wr).alloc hsz _
      have hF2 := hF.grow hb0
      have hown2 := own_below hown ((Below.refl wr.heap.size wr).alloc (Nat.le_refl _) (.cells (opC o.k o.fn o.d o.a o.b o.imm) 54))
      have hcall2 := fold_c hF2.F o hn HW.out
      unfold SOp.val FoldPost at hcall2
      go_wp2_with fail
      refine hcall2.mono ?_
      rintro e w2 ⟨rfl, hF3, hT3⟩
      have hF4 := hF2.turn hF3 hT3
      have hown4 := own_tb hown2 hT3 (fun j hj => by have := own_from hown2 j hj; rintro (e | e) <;> omega)
      have hsz4 := hF4.sz
      obtain ⟨o', ho'⟩ : ∃ o', foldO f o = o' := ⟨_, rfl⟩
      rw [ho'] at hF4 HR ⊢
      clear ho' hF3 hT3 hown2 hF2 hcall2
      have hB5 := Bk.new w2 (opC o'.k o'.fn o'.d o'.a o'.b o'.imm) 54
      have hF5 := hF4.grow ((Below.refl (w.heap.size + 5) w2).alloc hsz4 (.cells (opC o'.k o'.fn o'.d o'.a o'.b o'.imm) 54))
      have hown5 := own_below hown4 ((Below.refl w2.heap.size w2).alloc (Nat.le_refl _) (.cells (opC o'.k o'.fn o'.d o'.a o'.b o'.imm) 54))
      have hsz5 := hF5.sz
      unfold SOp.val
      go_wp2_with (at_builtin; go_must (refine wpList_append_op rfl _ _ rfl (w.heap.size + 5) _ k _ rfl hown5 _ o' rfl hB5 (by omega) hsz5 ?_); intro v' w6 hown6 hg6)
      have hF6 := hF5.grow ((Below.refl _ _).grown hg6 hsz5 (fun j hj => own_from hown5 j hj))
      go_roundw
      case rel => 
        have hr := HR.out
        refine ⟨k + 1, rfl, hlt, ?_, ?_⟩
        · rw [hr, opsC_snoc]; exact hown6
        · rw [hr]; exact hF6
      case measure => simp [intOf]; omega
    · have hke : k = b.ops.length := by omega
      rw [hke, List.take_length] at hown hF
      clear hk
      have hl0 : ((k : Int) < b.ops.length) = False := by simp [hke]
      obtain ⟨A, c', rfl⟩ := own_shape' hown
      have CB := hF.B.cell
      have fB := hF.B.free
      go_upto_region 10 with (fail)
      have hF7 : FF w (wr.setCell ⟨w.heap.size, 0, none⟩ (.slice A b.ops.length c')) n _ (blkC5 (.slice A b.ops.length c') b.e b.a b.go b.els) := hF.setB 0 _
      have hown7 := ownsRow_setCell_below hown (a := ⟨w.heap.size, 0, none⟩) (by show w.heap.size < w.heap.size + 5; omega) (.slice A b.ops.length c')
      clear CB fB hF hown hl0 hke
      generalize wr.setCell ⟨w.heap.size, 0, none⟩ (.slice A b.ops.length c') = w7 at hF7 hown7 ⊢
      have C7 := hF7.B.cell
      have Z7 := hF7.Z.cell
      have fz7 := hF7.Z.free
      have fb7 := hF7.B.free
      obtain ⟨a', ha'⟩ : ∃ a', (forwardS b).a = a' := ⟨_, rfl⟩
      have hnot : asksEnd b = false → a' = b.a := by
        intro h
        rw [← ha']
        unfold forwardS
        simp only
        rw [if_neg]
        rintro (h2 | h3)
        · simp [asksEnd, h2] at h
        · simp [asksEnd, h3.1, h3.2] at h
      have hyes : asksEnd b = true → a' = (forwardL .z b.ops).2.of b.a := by
        intro h
        rw [← ha']
        unfold forwardS
        simp only
        rw [if_pos]
        simpa [asksEnd] using h
      have hfin : ∀ W : World, W.ownsRow (w.heap.size + 5) 54 6 (.slice A b.ops.length c') b.ops.length (opsC (forwardL .z b.ops).1) → Below w.heap.size w W → ForwardPost w b (.returned (.agg #[.slice A b.ops.length c', .int .u8 b.e, .int .i64 a', .int .i64 b.go, .int .i64 b.els])) W :=
        fun W h1 h2 => ⟨_, by rw [ha']; rfl, own_base_le h1 (by omega), h2⟩
      have HE := Lib.hid hend
      have HN := Lib.hid hnot
      have HY := Lib.hid hyes
      have HQ := Lib.hid hfin
      clear ha' hnot hyes hend HP hfin
      generalize (forwardL .z b.ops).2 = fe at hF7 HY
      generalize opsC (forwardL .z b.ops).1 = oc at hown7 HQ
      cases hae : asksEnd b with
      | false =>
        have HAB := Lib.hid (HN.out hae)
        have h2 : (b.e == 2) = false := by
          unfold asksEnd at hae
          rw [Bool.or_eq_false_iff] at hae
          exact hae.1
        have h3 : (b.e == 3) = false ∨ ((b.e == 3) = true ∧ b.a < 0) := by
          unfold asksEnd at hae
          rw [Bool.or_eq_false_iff, Bool.and_eq_false_iff, decide_eq_false_iff_not] at hae
          cases h : (b.e == 3) with
          | false => exact .inl rfl
          | true => exact .inr ⟨rfl, by rw [h] at hae; rcases hae.2 with h | h; cases h; omega⟩
        clear hae
        have hfin2 : bodyPost Tryz.prog Tryz.f32 (ForwardPost w b) = bodyPost Tryz.prog Tryz.f32 (ForwardPost w b) := rfl
        have hq : ∀ W : World, W = (((((w7.setCell ⟨w.heap.size + 1, 0, none⟩ (.slice A b.ops.length c')).setCell ⟨w.heap.size + 1, 1, none⟩ (.int .u8 b.e)).setCell ⟨w.heap.size + 1, 2, none⟩ (.int .i64 b.a)).setCell ⟨w.heap.size + 1, 3, none⟩ (.int .i64 b.go)).setCell ⟨w.heap.size + 1, 4, none⟩ (.int .i64 b.els)) →
            Bk W (w.heap.size + 1) #[.slice A b.ops.length c', .int .u8 b.e, .int .i64 b.a, .int .i64 b.go, .int .i64 b.els] 38 ∧ ForwardPost w b (.returned (.agg #[.slice A b.ops.length c', .int .u8 b.e, .int .i64 b.a, .int .i64 b.go, .int .i64 b.els])) W := by
          rintro W rfl
          have hq := HQ.out
          rw [HAB.out] at hq
          refine ⟨store5 hF7.Z rfl _ _ _ _ _, hq _ ?_ (below5 hF7.T (by omega) _ _ _ _ _)⟩
          exact ownsRow_setCell_below (ownsRow_setCell_below (ownsRow_setCell_below (ownsRow_setCell_below (ownsRow_setCell_below hown7 (by show w.heap.size + 1 < w.heap.size + 5; omega) _) (by show w.heap.size + 1 < w.heap.size + 5; omega) _) (by show w.heap.size + 1 < w.heap.size + 5; omega) _) (by show w.heap.size + 1 < w.heap.size + 5; omega) _) (by show w.heap.size + 1 < w.heap.size + 5; omega) _
        have HZ := Lib.hid hq
        clear hq hfin2
        rcases h3 with h3 | ⟨h3, h4⟩
        · go_wp2_with fail
          exact forward_end rfl (HZ.out _ rfl).1 rfl (HZ.out _ rfl).2
        · go_wp2_with fail
          exact forward_end rfl (HZ.out _ rfl).1 rfl (HZ.out _ rfl).2
      | true =>
        have hain := HE.out hae
        have HAB := Lib.hid (HY.out hae)
        have h23 : (b.e == 2) = true ∨ ((b.e == 2) = false ∧ (b.e == 3) = true ∧ 0 ≤ b.a) := by
          unfold asksEnd at hae
          rw [Bool.or_eq_true, Bool.and_eq_true, decide_eq_true_eq] at hae
          cases h : (b.e == 2) with
          | true => exact .inl rfl
          | false => rw [h] at hae; rcases hae with h | h; cases h; exact .inr ⟨rfl, h.1, h.2⟩
        have hcall := of_c hF7.F b.a (by omega) (by omega)
        have hq : ∀ w8 W : World, Below w7.heap.size w7 w8 → W = (((((((w8.setCell ⟨w.heap.size, 2, none⟩ (.int .i64 (fe.of b.a)))).setCell ⟨w.heap.size + 1, 0, none⟩ (.slice A b.ops.length c')).setCell ⟨w.heap.size + 1, 1, none⟩ (.int .u8 b.e)).setCell ⟨w.heap.size + 1, 2, none⟩ (.int .i64 (fe.of b.a))).setCell ⟨w.heap.size + 1, 3, none⟩ (.int .i64 b.go)).setCell ⟨w.heap.size + 1, 4, none⟩ (.int .i64 b.els)) →
            Bk W (w.heap.size + 1) #[.slice A b.ops.length c', .int .u8 b.e, .int .i64 (fe.of b.a), .int .i64 b.go, .int .i64 b.els] 38 ∧ ForwardPost w b (.returned (.agg #[.slice A b.ops.length c', .int .u8 b.e, .int .i64 (fe.of b.a), .int .i64 b.go, .int .i64 b.els])) W := by
          rintro w8 W hb8 rfl
          have hq := HQ.out
          rw [HAB.out] at hq
          have hsz7 := hF7.sz
          have hF8 := (hF7.grow (hb8.mono hsz7)).setB 2 (.int .i64 (fe.of b.a))
          have hown8 := ownsRow_setCell_below (own_below hown7 hb8) (a := ⟨w.heap.size, 2, none⟩) (by show w.heap.size < w.heap.size + 5; omega) (.int .i64 (fe.of b.a))
          refine ⟨store5 hF8.Z rfl _ _ _ _ _, hq _ ?_ (below5 hF8.T (by omega) _ _ _ _ _)⟩
          exact ownsRow_setCell_below (ownsRow_setCell_below (ownsRow_setCell_below (ownsRow_setCell_below (ownsRow_setCell_below hown8 (by show w.heap.size + 1 < w.heap.size + 5; omega) _) (by show w.heap.size + 1 < w.heap.size + 5; omega) _) (by show w.heap.size + 1 < w.heap.size + 5; omega) _) (by show w.heap.size + 1 < w.heap.size + 5; omega) _) (by show w.heap.size + 1 < w.heap.size + 5; omega) _
        have HZ := Lib.hid hq
        have HO := Lib.hid hF7
        clear hq hae
        rcases h23 with h2 | ⟨h2, h3, h4⟩
        · go_wp2_with (go_at_call 56; go_must (refine hcall.mono ?_); rintro e w8 ⟨rfl, hb8⟩; have hF8 := HO.out.grow (hb8.mono HO.out.sz); have C8 := hF8.B.cell; have fb8 := hF8.B.free; have Z8 := hF8.Z.cell; have fz8 := hF8.Z.free)
          exact forward_end rfl (HZ.out _ _ hb8 rfl).1 rfl (HZ.out _ _ hb8 rfl).2
        · go_wp2_with (go_at_call 56; go_must (refine hcall.mono ?_); rintro e w8 ⟨rfl, hb8⟩; have hF8 := HO.out.grow (hb8.mono HO.out.sz); have C8 := hF8.B.cell; have fb8 := hF8.B.free; have Z8 := hF8.Z.cell; have fz8 := hF8.Z.free)
          exact forward_end rfl (HZ.out _ _ hb8 rfl).1 rfl (HZ.out _ _ hb8 rfl).2
end Go.Proofs.YtoabiignjkcdmaaGreat

namespace Go.Proofs.YtoabiignjkcdmaaGreat
open Go.RowKit Go.Maps Go.Shelf
set_option linter.unusedVariables false
set_option linter.unusedSimpArgs false

/-- A set, or none. -/
def SlotAt (w : World) (p : Option Nat) (n : Nat) (wn : Want) : Prop := (p = none ∧ ∀ x, wn x = false) ∨ ∃ m, p = some m ∧ WantAt w m n wn
theorem SlotAt.below {w w' : World} {p : Option Nat} {n : Nat} {wn : Want} (h : SlotAt w p n wn) (hb : Below w.heap.size w w') : SlotAt w' p n wn := by
  rcases h with h | ⟨m, e, h⟩
  · exact .inl h
  · exact .inr ⟨m, e, h.below hb⟩
theorem SlotAt.tb {S : Nat → Prop} {w w' : World} {p : Option Nat} {n : Nat} {wn : Want} (h : SlotAt w p n wn) (ht : TB S w w') (hn : ∀ m, p = some m → ¬ S m) : SlotAt w' p n wn := by
  rcases h with h | ⟨m, e, h⟩
  · exact .inl h
  · exact .inr ⟨m, e, h.tb ht (hn m e)⟩
theorem SlotAt.lt {w : World} {p : Option Nat} {n : Nat} {wn : Want} (h : SlotAt w p n wn) : ∀ m, p = some m → m < w.heap.size := by
  rintro m rfl
  rcases h with ⟨h, -⟩ | ⟨m', e, h⟩
  · cases h
  · cases e; exact h.lt
theorem copyInto_c {w : World} {d n : Nat} {p : Option Nat} {w1 w2 : Want} (h1 : WantAt w d n w1) (h2 : SlotAt w p n w2) (hne : p ≠ some d) (hn : n ≤ 100000) :
    Calls Tryz.prog 62 #[.map (some d), .map p] w fun e w' => e = .returned (.tuple #[]) ∧ WantAt w' d n (fun x => w1 x || w2 x) ∧ w.grownBy w' (some d) := by
  obtain ⟨D1, o1, r1, i1⟩ := h1
  have s1 := Reads.size_le r1 (n := n) (fun y z e => i1 y (by unfold wantG at e; split at e; assumption; cases e))
  rcases h2 with ⟨rfl, hz⟩ | ⟨m, rfl, D2, o2, r2, i2⟩
  · have := AnyX.maps_Copy_opt Tryz.copyN kInt_law (plainElem Tryz.prog 4) d _ none D1 .nil w o1 (.inl ⟨rfl, rfl⟩) hne (by show _ + 0 ≤ _; unfold maxLen; omega)
    refine Calls.mono this ?_
    rintro e w' ⟨he, ho, hg⟩
    refine ⟨he, ⟨_, map_fit ho, ?_, ?_⟩, hg⟩
    · have : (fun x => w1 x || w2 x) = w1 := funext fun x => by rw [hz x, Bool.or_false]
      rw [this]
      exact r1
    · intro x hx
      have hx : (w1 x || w2 x) = true := hx
      rw [hz x, Bool.or_false] at hx
      exact i1 x hx
  · have s2 := Reads.size_le r2 (n := n) (fun y z e => i2 y (by unfold wantG at e; split at e; assumption; cases e))
    have := AnyX.maps_Copy_opt Tryz.copyN kInt_law (plainElem Tryz.prog 4) d _ (some m) D1 D2 w o1 (.inr ⟨m, _, rfl, o2⟩) hne (by unfold maxLen; omega)
    refine Calls.mono this ?_
    rintro e w' ⟨he, ho, hg⟩
    refine ⟨he, ⟨_, map_fit ho, ReadsW.merge r1 r2, ?_⟩, hg⟩
    intro x hx
    have hx : (w1 x || w2 x) = true := hx
    rw [Bool.or_eq_true] at hx
    exact hx.elim (i1 x) (i2 x)
/-- What is asked ahead of each block, as it lies. -/
def InsAt (w : World) (I : Option Addr) (nb n : Nat) (ins : Int → Want) : Prop := ∀ k, k < nb → ∃ b o p, I = some ⟨b, o, none⟩ ∧ w.cell? ⟨b, o + k, none⟩ = some (.map p) ∧ SlotAt w p n (ins (k : Int))
theorem InsAt.below {w w' : World} {I : Option Addr} {nb n : Nat} {ins : Int → Want} (h : InsAt w I nb n ins) (hb : Below w.heap.size w w') : InsAt w' I nb n ins := fun k hk => by
  obtain ⟨b, o, p, e, h1, h2⟩ := h k hk
  exact ⟨b, o, p, e, cm h1 hb, h2.below hb⟩
theorem InsAt.at {w : World} {I : Option Addr} {nb n : Nat} {ins : Int → Want} (h : InsAt w I nb n ins) {x : Int} (hx : 0 ≤ x ∧ x < (nb : Int)) : ∃ b o p, I = some ⟨b, o, none⟩ ∧ w.cell? ⟨b, o + x.toNat, none⟩ = some (.map p) ∧ SlotAt w p n (ins x) := by
  obtain ⟨b, o, p, e, h1, h2⟩ := h x.toNat (by omega)
  rw [show ((x.toNat : Nat) : Int) = x by omega] at h2
  exact ⟨b, o, p, e, h1, h2⟩
def BehindPost (w : World) (n : Nat) (b : SBlock) (ins : Int → Want) (e : Ending) (w' : World) : Prop :=
  ∃ m, e = .returned (.map (some m)) ∧ w.heap.size ≤ m ∧ WantAt w' m n (behindW b ins) ∧ Below w.heap.size w w'
theorem want_made (w : World) (n : Nat) : WantAt (w.alloc (.map #[] 0)) w.heap.size n (fun _ => false) :=
  ⟨.map [], World.ownsMap_made (H := Unit) w Tryz.prog 3 (plainElem Tryz.prog 4), ReadsW.z, (fun _ h => by cases h)⟩

set_option maxRecDepth 100000 in
set_option maxHeartbeats 4000000 in
theorem behind_c (b : SBlock) (v : Value) (I : Option Addr) (nb n c : Nat) (ins : Int → Want) (w : World) (hI : InsAt w I nb n ins) (hn : n ≤ 100000) (hgo : b.e = 1 ∨ b.e = 2 → 0 ≤ b.go ∧ b.go < (nb : Int)) (hels : b.e = 2 → 0 ≤ b.els ∧ b.els < (nb : Int)) (hnb : nb ≤ 100000) :
    Calls Tryz.prog 35 #[.agg (blkC5 v b.e b.a b.go b.els), .slice I nb c] w (BehindPost w n b ins) := by
  have hmm := @run_makeMap Tryz.prog
  have B1 := Bk.new w (blkC5 v b.e b.a b.go b.els) 38
  have hb1 : Below w.heap.size w (w.alloc (.cells (blkC5 v b.e b.a b.go b.els) 38)) := (Below.refl _ _).alloc (Nat.le_refl _) _
  have hI1 := hI.below hb1
  have hs1 : (w.alloc (.cells (blkC5 v b.e b.a b.go b.els) 38)).heap.size = w.heap.size + 1 := by simp
  have hW := want_made (w.alloc (.cells (blkC5 v b.e b.a b.go b.els) 38)) n
  rw [hs1] at hW
  have hI2 := hI1.below ((Below.refl _ _).alloc (Nat.le_refl _) (.map #[] 0))
  have B2 := B1.alloc (.map #[] 0)
  have hb2 : Below w.heap.size w ((w.alloc (.cells (blkC5 v b.e b.a b.go b.els) 38)).alloc (.map #[] 0)) := hb1.alloc (by omega) _
  have hs2 : ((w.alloc (.cells (blkC5 v b.e b.a b.go b.els) 38)).alloc (.map #[] 0)).heap.size = w.heap.size + 2 := by simp
  obtain ⟨w2, hw2⟩ : ∃ w2, (w.alloc (.cells (blkC5 v b.e b.a b.go b.els) 38)).alloc (.map #[] 0) = w2 := ⟨_, rfl⟩
  rw [hw2] at hW hI2 B2 hb2 hs2
  clear B1 hb1 hI1 hs1
  have C2 := B2.cell
  by_cases e2 : b.e = 2
  · obtain ⟨bi, oi, p1, rfl, g1, s1⟩ := hI.at (hels e2)
    obtain ⟨bi', oi', p2, eI, g2, s2⟩ := hI.at (hgo (.inr e2))
    cases eI
    have h1 := hels e2
    have h2 := hgo (.inr e2)
    have q1 := hb2.trans (Below.refl _ _)
    have g1' : w2.cell? ⟨bi, oi + b.els.toNat, none⟩ = some (.map p1) := cm g1 hb2
    have g2' : w2.cell? ⟨bi, oi + b.go.toNat, none⟩ = some (.map p2) := cm g2 hb2
    have l1 : p1 ≠ some (w.heap.size + 1) := fun e => by have := s1.lt _ e; omega
    have l2 : p2 ≠ some (w.heap.size + 1) := fun e => by have := s2.lt _ e; omega
    have lb := World.block_lt_of_cell? w _ g1
    simp only at lb
    have hc1 := copyInto_c hW (s1.below hb2) l1 hn
    have S2 := s2.below hb2
    have hE : (b.e == 2) = true := by simp [e2]
    have hpost : ∀ w4, WantAt w4 (w.heap.size + 1) n (fun x => (false || ins b.els x) || ins b.go x) → Below w.heap.size w w4 → BehindPost w n b ins (.returned (.map (some (w.heap.size + 1)))) w4 := by
      intro w4 h hb
      refine ⟨_, rfl, by omega, h.congr (funext fun x => ?_), hb⟩
      unfold behindW
      rw [if_pos e2, Bool.false_or]
    have HQ := Lib.hid hpost
    have HL := Lib.hid (show w.heap.size + 1 ≤ w2.heap.size ∧ w.heap.size + 1 ≠ bi by omega)
    clear hpost e2 hI hgo hels hI2 s1 s2 g1 g2
    go_enter Tryz.func35, Tryz.ntmps35
    go_upto_region 6 with (go_at_call 62; go_must (refine hc1.mono ?_); rintro e w3 ⟨rfl, hW3, hg3⟩)
    have T3 : TB (fun j => j = w.heap.size + 1) w2 w3 := TB.of_grown hg3 (fun j e => by cases e; rfl)
    have g3 := T3.cell g2' (by show ¬ bi = _; exact fun e => HL.out.2 e.symm)
    have S3 := S2.tb T3 (fun m e1 e2 => l2 (by rw [e1, e2]))
    have C3 := (B2.tb T3 (by omega)).cell
    have hb3 : Below w.heap.size w w3 := hb2.trans (T3.below (by omega) (by rintro k rfl; omega))
    have hc2 := copyInto_c hW3 S3 l2 hn
    go_upto_region 7 with (go_at_call 62; go_must (refine hc2.mono ?_); rintro e w4 ⟨rfl, hW4, hg4⟩)
    have hb4 : Below w.heap.size w w4 := hb3.grown hg4 (by have := hb3.size; omega) (fun j e => by cases e; omega)
    go_wp2_with fail
    go_ret
    exact HQ.out _ hW4 hb4
  · have hE : (b.e == 2) = false := by simp [e2]
    by_cases e1 : b.e = 1
    · obtain ⟨bi, oi, p2, rfl, g2, s2⟩ := hI.at (hgo (.inl e1))
      have h2 := hgo (.inl e1)
      have g2' : w2.cell? ⟨bi, oi + b.go.toNat, none⟩ = some (.map p2) := cm g2 hb2
      have l2 : p2 ≠ some (w.heap.size + 1) := fun e => by have := s2.lt _ e; omega
      have hc2 := copyInto_c hW (s2.below hb2) l2 hn
      have hE1 : (b.e == 1) = true := by simp [e1]
      have hpost : ∀ w4, WantAt w4 (w.heap.size + 1) n (fun x => false || ins b.go x) → Below w.heap.size w w4 → BehindPost w n b ins (.returned (.map (some (w.heap.size + 1)))) w4 := by
        intro w4 h hb
        refine ⟨_, rfl, by omega, h.congr (funext fun x => ?_), hb⟩
        unfold behindW
        rw [if_neg e2, if_pos e1, Bool.false_or]
      have HQ := Lib.hid hpost
      clear hpost e2 e1 hI hgo hels hI2 s2 g2
      go_enter Tryz.func35, Tryz.ntmps35
      go_upto_region 7 with (go_at_call 62; go_must (refine hc2.mono ?_); rintro e w4 ⟨rfl, hW4, hg4⟩)
      have hb4 : Below w.heap.size w w4 := hb2.grown hg4 (by have := hb2.size; omega) (fun j e => by cases e; omega)
      go_wp2_with fail
      go_ret
      exact HQ.out _ hW4 hb4
    · have hE1 : (b.e == 1) = false := by simp [e1]
      have hpost : BehindPost w n b ins (.returned (.map (some (w.heap.size + 1)))) w2 := by
        refine ⟨_, rfl, by omega, hW.congr (funext fun x => ?_), hb2⟩
        unfold behindW
        rw [if_neg e2, if_neg e1]
      have HQ := Lib.hid hpost
      clear hpost e2 e1 hI hgo hels hI2
      go_enter Tryz.func35, Tryz.ntmps35
      go_wp2_with fail
      go_ret
      exact HQ.out
end Go.Proofs.YtoabiignjkcdmaaGreat
