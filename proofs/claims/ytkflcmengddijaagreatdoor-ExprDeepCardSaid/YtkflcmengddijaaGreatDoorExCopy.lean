/-
  sacristyref07.Copy walked.
-/
import Derived.Test.YtkflcmengddijaaGreatDoorExLarge
import Derived.Laws.Rows
namespace Go.Proofs.YtkflcmengddijaaGreatDoor
open Go.RowKit Lx
set_option linter.unusedVariables false
set_option linter.unusedSimpArgs false

/-- What a row's elements may lead to: what the call made, but the row itself. -/
def FN (base : Nat) (v : Value) (n : Nat) : Prop := base ≤ n ∧ v.ownBlock ≠ some n
/-- l = append(l, y), y made by the call. -/
theorem wpList_append_ex1 {ops : Array Oper} {rest : List Oper} {o : Oper} {a : Act} {Q : Exit → Act → World → Prop} {w : World} (hgd : o.guard = none) (s x : Operand)
    (ho : o.op = .call { callee := .builtin .append, args := #[s, x], argTypes := #[38, 38] }) (v : Value) (xs : List Ex) (base : Nat) (hs : a.eval s = v) (hown : kEx.Own 40 (FN base v) w base v xs)
    (k : Nat) (y : Ex) (cs : List Value) (hx : a.eval x = .slice (some ⟨k, 0, none⟩) 1 1) (hc : Bk w k cs.toArray 40) (hy : kEx.Foot (FN base v) w y cs) (hb : base ≤ w.heap.size) (hn : xs.length ≤ 1000000)
    (h : ∀ g cap w', kEx.Own 40 (FN base (.slice (some ⟨g, 0, none⟩) (xs.length + 1) cap)) w' base (.slice (some ⟨g, 0, none⟩) (xs.length + 1) cap) (xs ++ [y]) → w.grownBy w' v.ownBlock →
      wpList Tryz.prog ops Q rest (a.put o.dst (.slice (some ⟨g, 0, none⟩) (xs.length + 1) cap)) w') : wpList Tryz.prog ops Q (o :: rest) a w := by
  obtain ⟨i0, hi, hz0, hz1, hz2⟩ := info_parts infoEx
  obtain ⟨css, hl, hk, how⟩ := hown
  have hcl : cs.length = 5 := kEx.len hy.here
  refine wpList_append_lies w hgd s x _ ho base 40 i0 (.agg #[.int .u8 0, .int .u64 0, .string ⟨#[]⟩, .int .u8 0, .slice none 0 0]) 5 64 Tryz.underlying38 hi hz0 hz1 hz2 rfl (by decide) v xs.length css.flatten hs how ⟨k, 0, none⟩ 1 1 cs hx hcl
    (fun j u hu => World.news_of_block (cs := cs.toArray) hc j u (by simpa using hu)) (exK_one hy.here) (by omega) (by unfold maxLen; omega) (by omega) hb w.heap.size rfl (fun g cap w' h1 h2 h3 h4 => ?_)
  refine h g cap w' ?_ h2
  refine (Kd.Own.snoc (k := kEx) (v := v) (F := FN base v) hl hk hy h2.size (fun n hn hlt => h2.block n hlt (fun e => hn.2 e.symm)) h1).weak fun n hn _ => ⟨hn.1.1, ?_⟩
  show some g ≠ some n
  intro e
  injection e with e
  subst e
  rcases h3 with h3 | h3
  · exact hn.1.2 h3
  · have := hn.2; omega

/-- What Copy answers. -/
def CopyR (x : Ex) (w : World) (e : Ending) (w' : World) : Prop := ∃ A c, e = .returned (.agg (exL x A c).toArray) ∧ kEx.Foot (fun n => w.heap.size ≤ n) w' x (exL x A c)
def CopyOf (x : Ex) : Prop := ∀ (K : Option Addr) (c : Nat) (w : World), x.kids.length ≤ maxLen → kEx.Row w K x.kids → nodesE x ≤ 1000000 →
  Calls Tryz.prog 16 #[.agg #[.int .u8 x.k, .int .u64 x.num, .string x.name, .int .u8 x.op, .slice K x.kids.length c]] w fun e w' => CopyR x w e w' ∧ Below w.heap.size w w'

abbrev exZero : Array Value := #[.int .u8 0, .int .u64 0, .string ⟨#[]⟩, .int .u8 0, .slice none 0 0]
theorem copy_end {x : Ex} {w wr : World} {ys : List Ex} {sa : Option Addr} {sc c : Nat} (how : kEx.Own 40 (FN (w.heap.size + 2) (.slice sa ys.length sc)) wr (w.heap.size + 2) (.slice sa ys.length sc) ys) (hyx : ys = x.kids) (hm : x.kids.length ≤ maxLen) (hB : Below w.heap.size w wr) :
    kEx.Foot (fun n => w.heap.size ≤ n) ((((((wr.setCell ⟨w.heap.size, 4, none⟩ (.slice sa ys.length sc)).setCell ⟨w.heap.size + 1, 0, none⟩ (.int .u8 x.k)).setCell ⟨w.heap.size + 1, 1, none⟩ (.int .u64 x.num)).setCell ⟨w.heap.size + 1, 2, none⟩ (.string x.name)).setCell ⟨w.heap.size + 1, 3, none⟩ (.int .u8 x.op)).setCell ⟨w.heap.size + 1, 4, none⟩ (.slice sa ys.length sc)) x (exL x sa sc) ∧
    Below w.heap.size w ((((((wr.setCell ⟨w.heap.size, 4, none⟩ (.slice sa ys.length sc)).setCell ⟨w.heap.size + 1, 0, none⟩ (.int .u8 x.k)).setCell ⟨w.heap.size + 1, 1, none⟩ (.int .u64 x.num)).setCell ⟨w.heap.size + 1, 2, none⟩ (.string x.name)).setCell ⟨w.heap.size + 1, 3, none⟩ (.int .u8 x.op)).setCell ⟨w.heap.size + 1, 4, none⟩ (.slice sa ys.length sc)) := by
  have l0 : w.heap.size ≤ w.heap.size := Nat.le_refl _
  have l1 : w.heap.size ≤ w.heap.size + 1 := Nat.le_succ _
  refine ⟨?_, (((((hB.setCell (p := ⟨w.heap.size, 4, none⟩) l0 _).setCell (p := ⟨w.heap.size + 1, 0, none⟩) l1 _).setCell (p := ⟨w.heap.size + 1, 1, none⟩) l1 _).setCell (p := ⟨w.heap.size + 1, 2, none⟩) l1 _).setCell (p := ⟨w.heap.size + 1, 3, none⟩) l1 _).setCell (p := ⟨w.heap.size + 1, 4, none⟩) l1 _⟩
  intro w' hs hb
  simp only [World.size_setCell] at hs hb
  obtain ⟨a, cc, e, hrow⟩ := how.row_foot (w' := w') hs (fun n hn hlt => by
    have hge : w.heap.size + 2 ≤ n := by
      rcases hn with h | h
      · exact h.1
      · obtain ⟨_, _, _, ho⟩ := how
        exact own_from ho n h
    rw [hb n (by omega) hlt]
    rw [heap_setCell_other _ _ _ _ (by show n ≠ w.heap.size + 1; omega), heap_setCell_other _ _ _ _ (by show n ≠ w.heap.size + 1; omega), heap_setCell_other _ _ _ _ (by show n ≠ w.heap.size + 1; omega), heap_setCell_other _ _ _ _ (by show n ≠ w.heap.size + 1; omega), heap_setCell_other _ _ _ _ (by show n ≠ w.heap.size + 1; omega), heap_setCell_other _ _ _ _ (by show n ≠ w.heap.size; omega)])
  obtain ⟨rfl, rfl⟩ : sa = a ∧ sc = cc := by injection e with h1 h2 h3; exact ⟨h1, h3⟩
  rw [hyx] at hrow
  refine kEx_iff.2 ⟨sa, sc, rfl, hm, fun hn => ?_, hrow⟩
  obtain ⟨_, _, _, ho⟩ := how
  rcases ho.2 with ⟨h, _⟩ | ⟨g, cap, cur, h, _⟩
  · injection h
  · injection h with h _ _
    rw [hn] at h
    cases h

set_option maxRecDepth 100000 in
set_option maxHeartbeats 4000000 in
theorem copy_c (x : Ex) : CopyOf x := by
  refine Ex.ind (P := CopyOf) (fun x ih => ?_) x
  intro K c w hm hr hn
  have B0 := (Bk.new w (exL x K c).toArray 40).alloc (.cells exZero 40)
  have B1 := Bk.newAt (w := w.alloc (.cells (exL x K c).toArray 40)) (n := w.heap.size + 1) exZero 40 (by simp)
  have hb0 := ((Below.refl w.heap.size w).alloc (Nat.le_refl _) (.cells (exL x K c).toArray 40)).alloc (by simp) (.cells exZero 40)
  have hkl := nodes_len x.kids
  have hnn := nodesE_eq x
  have hkl2 : x.kids.length ≤ 1000000 := by omega
  have HN := Lib.hid hn
  clear hkl hnn hn
  go_enter Tryz.func16, Tryz.ntmps16
  go_wp2_with fail
  go_loopw [3, 4] (fun v i wr => ∃ (ii : Nat), ii ≤ x.kids.length ∧ i = .int .i64 ii ∧ kEx.Own 40 (FN (w.heap.size + 2) v) wr (w.heap.size + 2) v (x.kids.take ii) ∧ Below w.heap.size w wr ∧
    Bk wr w.heap.size (exL x K c).toArray 40 ∧ Bk wr (w.heap.size + 1) exZero 40 ∧ w.heap.size + 2 ≤ wr.heap.size) (fun _ i _ => x.kids.length - (intOf i).toNat)
  case atStart => exact ⟨0, Nat.zero_le _, rfl, Kd.Own.nil .., hb0, B0, B1, by simp⟩
  case round =>
    clear hb0 B0 B1
    obtain ⟨ii, hii, rfl, how, hB, B0, B1, hz⟩ := hrel
    obtain ⟨ys, hys⟩ : ∃ ys, ys = x.kids.take ii := ⟨_, rfl⟩
    rw [← hys] at how
    have hyl : ys.length = ii := by rw [hys, List.length_take]; omega
    have htl : ys.length ≤ 1000000 := by omega
    have HY := Lib.hid hys
    have HYL := Lib.hid hyl
    clear hys hyl
    obtain ⟨sa, sc, rfl, _⟩ := how.row
    have C0 := B0.cell
    have i0 : (0 : Int) ≤ (ii : Int) := by omega
    by_cases hlt : ii < x.kids.length
    · have i1 : (ii : Int) < (x.kids.length : Int) := by omega
      obtain ⟨ob, oo, KK, kc, rfl, gm, gr, g0, g1, g2, g3, g4⟩ := kEx_at (hr.mono hB) ii hlt
      have hck := Lib.hid (ih x.kids[ii] (List.getElem_mem hlt) KK kc wr gm gr (by have := nodes_kid (List.getElem_mem hlt); have := HN.out; omega))
      go_wp2_with fail
      refine hck.out.mono ?_
      rintro e w1 ⟨⟨A1, c1, rfl, hf⟩, hb1⟩
      have B2 := Bk.new w1 (exL x.kids[ii] A1 c1).toArray 40
      have hb2 := hb1.alloc hb1.size (.cells (exL x.kids[ii] A1 c1).toArray 40)
      have how2 : kEx.Own 40 (FN (w.heap.size + 2) (.slice sa ys.length sc)) (w1.alloc (.cells (exL x.kids[ii] A1 c1).toArray 40)) (w.heap.size + 2) (.slice sa ys.length sc) ys := (how.later hb2).weak fun n hn _ => hn.1
      have hf2 : kEx.Foot (FN (w.heap.size + 2) (.slice sa ys.length sc)) (w1.alloc (.cells (exL x.kids[ii] A1 c1).toArray 40)) x.kids[ii] (exL x.kids[ii] A1 c1) := by
        refine (hf.later (w1 := w1.alloc (.cells (exL x.kids[ii] A1 c1).toArray 40)) (by simp) (fun n _ hn => Below.heap_alloc w1 _ n hn)).weak fun n hn _ => ⟨by have := hn.1; omega, ?_⟩
        obtain ⟨_, _, _, ho⟩ := how
        exact fun e => own_lt ho hn.1 e.symm
      have hz3 : w.heap.size + 2 ≤ (w1.alloc (.cells (exL x.kids[ii] A1 c1).toArray 40)).heap.size := by have := hb1.size; simp; omega
      go_wp2_with (at_builtin; refine wpList_append_ex1 rfl _ _ rfl _ ys (w.heap.size + 2) rfl how2 w1.heap.size x.kids[ii] (exL x.kids[ii] A1 c1) rfl B2 hf2 hz3 htl ?_; intro g cap w3 how3 hgrow)
      have hof : ∀ q, Value.ownBlock (.slice sa ys.length sc) = some q → w.heap.size + 2 ≤ q := by obtain ⟨_, _, _, ho⟩ := how2; exact own_from ho
      refine ⟨⟨ii + 1, by omega, by go_num, ?_, (hB.trans (hb2.mono hB.size)).grown hgrow (by omega) (fun q hq => by have := hof q hq; omega), ?_, ?_, Nat.le_trans hz3 hgrow.size⟩, by simp [intOf]; omega⟩
      · rw [List.take_succ_eq_append_getElem hlt, ← HY.out]
        exact how3
      · exact (B0.mono hb2).grown hgrow (fun e => by have := hof _ e.symm; omega)
      · exact (B1.mono hb2).grown hgrow (fun e => by have := hof _ e.symm; omega)
    · obtain rfl : ii = x.kids.length := by omega
      have C1 := B1.cell
      have F0 := B0.free
      have F1 := B1.free
      go_wp2_with fail
      have B2 := (((((B1.other (a := ⟨w.heap.size, 4, none⟩) (by simp) (.slice sa ys.length sc)).set 0 (.int .u8 x.k)).set 1 (.int .u64 x.num)).set 2 (.string x.name)).set 3 (.int .u8 x.op)).set 4 (.slice sa ys.length sc)
      have hyx : ys = x.kids := by rw [HY.out, List.take_length]
      have hfin := copy_end (c := c) how hyx hm hB
      obtain ⟨W, hW⟩ : ∃ W, W = ((((((wr.setCell ⟨w.heap.size, 4, none⟩ (.slice sa ys.length sc)).setCell ⟨w.heap.size + 1, 0, none⟩ (.int .u8 x.k)).setCell ⟨w.heap.size + 1, 1, none⟩ (.int .u64 x.num)).setCell ⟨w.heap.size + 1, 2, none⟩ (.string x.name)).setCell ⟨w.heap.size + 1, 3, none⟩ (.int .u8 x.op)).setCell ⟨w.heap.size + 1, 4, none⟩ (.slice sa ys.length sc)) := ⟨_, rfl⟩
      rw [← hW] at B2 hfin ⊢
      refine bodyPost_ret (results_cell_row rfl _ _ (w.heap.size + 1) 40 _ (0, 0) _ rfl B2 Tryz.underlying40 rfl (by kernel_rfl)) rfl ⟨⟨sa, sc, ?_, hfin.1⟩, hfin.2⟩
      show _ = Ending.returned (.agg #[.int .u8 x.k, .int .u64 x.num, .string x.name, .int .u8 x.op, .slice sa x.kids.length sc])
      rw [← hyx]
      rfl
end Go.Proofs.YtkflcmengddijaaGreatDoor
