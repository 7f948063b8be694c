/-
  Lemmas (texts FoldWe FoldWh), each proved without a condition beyond its own hypotheses.
-/
import Derived.Test.YtoabiignjkcdmaaGreatFd38
namespace Go.Proofs.YtoabiignjkcdmaaGreat
open Go.RowKit Go.Lib Go.Shelf Go.Maps Go.Proofs.YtoabiignjkcdmaaGreatW.PrintLast
set_option linter.unusedVariables false
set_option linter.unusedSimpArgs false

/-! ### Marks -/
def mkD (D : Nat) : Deferred := { target := .collected D, args := #[] }
def Marks (W : World) (Ds : List Nat) : Prop := ∀ D ∈ Ds, W.heap[D]? = some (.deferred (some []))
theorem Marks.tb {S : Nat → Prop} {W W' : World} {Ds : List Nat} (h : Marks W Ds) (ht : TB S W W') (hn : ∀ D ∈ Ds, ¬ S D) : Marks W' Ds := fun D hD => (ht.block D (Array.getElem?_eq_some_iff.1 (h D hD)).1 (hn D hD)).trans (h D hD)
theorem Marks.below {W W' : World} {Ds : List Nat} (h : Marks W Ds) (hb : Below W.heap.size W W') : Marks W' Ds := h.tb (S := fun _ => False) (TB.of_below hb) (fun _ _ => id)
theorem leaves_marks {P : Program} {fn : Func} {tmps : Array Value} {R : Ending → World → Prop} : ∀ (Ds : List Nat) (W : World), Ds.Nodup → Marks W Ds → (∀ W', TB (fun k => k ∈ Ds) W W' → LeavesInM Fence.wide 9 P fn tmps R [] .returning W') →
    LeavesInM Fence.wide 9 P fn tmps R (Ds.map mkD) .returning W
  | [], W, _, _, h => h W (TB.refl _ _)
  | D :: Ds, W, hn, hd, h => by
    obtain ⟨n1, n2⟩ := List.nodup_cons.1 hn
    have hD := hd D (List.mem_cons_self ..)
    have T1 : TB (fun k => k = D) W (W.putObj D (.deferred none)) := TB.of_grown (grownBy_putObj' W D _) (fun k e => by cases e; rfl)
    refine ⟨by simp, .inl ⟨D, _, rfl, run_takeDeferred hD, ?_⟩⟩
    refine leaves_marks Ds _ n2 (Marks.tb (fun D' h' => hd D' (List.mem_cons_of_mem _ h')) T1 (fun D' h' e => n1 (e ▸ h'))) fun W' hT => ?_
    refine h W' ?_
    exact (T1.mono fun k _ e => by rw [e]; exact List.mem_cons_self ..).trans (hT.mono fun k _ e => List.mem_cons_of_mem _ e)

/-! ### What is asked ahead of each block, in a row of the call's own -/
def InsRow (W : World) (gi nb n : Nat) (ins : Int → Want) : Prop := ∃ cur, Bk W gi cur 70 ∧ cur.size = nb ∧ ∀ k, k < nb → ∃ p, cur[k]? = some (.map p) ∧ SlotAt W p n (ins (k : Int))
theorem WantAt.map {W : World} {m n : Nat} {wn : Want} (h : WantAt W m n wn) : ∃ es clk, W.heap[m]? = some (.map es clk) := by
  obtain ⟨D, ⟨es, clk, hh, -⟩, -⟩ := h
  exact ⟨es, clk, hh⟩
theorem InsRow.tb {S : Nat → Prop} {W W' : World} {gi nb n : Nat} {ins : Int → Want} (h : InsRow W gi nb n ins) (ht : TB S W W') (hg : ¬ S gi) (hm : ∀ m es clk, W.heap[m]? = some (.map es clk) → ¬ S m) : InsRow W' gi nb n ins := by
  obtain ⟨cur, h1, h2, h3⟩ := h
  refine ⟨cur, h1.tb ht hg, h2, fun k hk => ?_⟩
  obtain ⟨p, e, hs⟩ := h3 k hk
  refine ⟨p, e, ?_⟩
  rcases hs with hs | ⟨m, e2, hs⟩
  · exact .inl hs
  · obtain ⟨es, clk, hh⟩ := hs.map
    exact .inr ⟨m, e2, hs.tb ht (hm m es clk hh)⟩
theorem InsRow.below {W W' : World} {gi nb n : Nat} {ins : Int → Want} (h : InsRow W gi nb n ins) (hb : Below W.heap.size W W') : InsRow W' gi nb n ins := h.tb (S := fun _ => False) (TB.of_below hb) id (fun _ _ _ _ => id)
theorem InsRow.at {W : World} {gi nb n : Nat} {ins : Int → Want} (h : InsRow W gi nb n ins) : InsAt W (some ⟨gi, 0, none⟩) nb n ins := by
  obtain ⟨cur, h1, h2, h3⟩ := h
  intro k hk
  obtain ⟨p, e, hs⟩ := h3 k hk
  exact ⟨gi, 0, p, rfl, by rw [Nat.zero_add, h1.cell]; exact e, hs⟩
theorem InsRow.put {W : World} {gi nb n : Nat} {ins : Int → Want} (h : InsRow W gi nb n ins) {k m : Nat} {wn : Want} (hk : k < nb) (hm : WantAt W m n wn) : InsRow (W.setCell ⟨gi, k, none⟩ (.map (some m))) gi nb n (putW ins k wn) := by
  obtain ⟨cur, h1, h2, h3⟩ := h
  have ht : TB (fun j => j = gi) W (W.setCell ⟨gi, k, none⟩ (.map (some m))) := TB.of_grown (set_grown W gi k _) (fun j e => by cases e; rfl)
  have hmap : ∀ m' wn', WantAt W m' n wn' → WantAt (W.setCell ⟨gi, k, none⟩ (.map (some m))) m' n wn' := fun m' wn' hw => hw.tb ht (fun e => by
    obtain ⟨es, clk, hh⟩ := hw.map
    unfold Bk at h1
    rw [e, h1] at hh
    cases hh)
  refine ⟨_, h1.set k _, by simp [h2], fun j hj => ?_⟩
  unfold putW
  by_cases e : j = k
  · subst e
    refine ⟨some m, ?_, ?_⟩
    · simp [h2, hj]
    · rw [if_pos rfl]; exact .inr ⟨m, rfl, hmap m wn hm⟩
  · obtain ⟨p, e2, hs⟩ := h3 j hj
    refine ⟨p, ?_, ?_⟩
    · rw [Array.getElem?_setIfInBounds_ne (by omega)]; exact e2
    · rw [if_neg (by omega)]
      rcases hs with hs | ⟨m', e3, hs⟩
      · exact .inl hs
      · exact .inr ⟨m', e3, hmap m' _ hs⟩
theorem insRow_made {W : World} {gi nb n : Nat} (h : Bk W gi (madeCells #[.map none] nb) 70) : InsRow W gi nb n (fun _ _ => false) := by
  refine ⟨_, h, by rw [size_madeCells] <;> simp, fun k hk => ⟨none, ?_, .inl ⟨rfl, fun _ => rfl⟩⟩⟩
  simp [madeCells, hk, Nat.mod_one]
/-- How many there are. -/
theorem wantLen {W : World} {m n : Nat} {wn : Want} (h : WantAt W m n wn) (ty : TypeId) : (Builtin.len_ #[70] ty #[.map (some m)]).run Tryz.prog W = .ok (.int .i64 ((wn.sz n : Nat) : Int)) W := by
  obtain ⟨D, ho, hr, hi⟩ := h
  rw [ho.len Tryz.underlying70 ty, ReadsW.size hr hi]
theorem slotLen {W : World} {p : Option Nat} {n : Nat} {wn : Want} (h : SlotAt W p n wn) (ty : TypeId) : (Builtin.len_ #[70] ty #[.map p]).run Tryz.prog W = .ok (.int .i64 ((wn.sz n : Nat) : Int)) W := by
  rcases h with ⟨rfl, hz⟩ | ⟨m, rfl, h⟩
  · have e : wn.sz n = 0 := by
      unfold Want.sz
      rw [List.length_eq_zero_iff, List.filter_eq_nil_iff]
      intro i _
      rw [hz]; decide
    rw [e]
    exact Maps.len_nil Tryz.underlying70 ty
  · exact wantLen h ty
section
variable {P : Program} {ops : Array Oper} {Q : Exit → Act → World → Prop} {oi : Oper} {N : Option Tmp} {a : Act} {w : World} {K : Act → World → Prop}
/-- len(m), at a step of a region that draws its order. -/
theorem len_ (hw : Region.wanted oi (yielded ops a.tmps) = true) (hN : oi.dst = N) (m : Operand) (t : TypeId) (hop : oi.op = Op.call { callee := Callee.builtin Builtin.len, args := #[m], argTypes := #[t] }) (v : Value) (hm : a.eval m = v) (x : Int) (hrun : ∀ ty, (Builtin.len_ #[t] ty #[v]).run P w = .ok (.int .i64 x) w)
    (h : K (a.put N (.int .i64 x)) w) : if Region.wanted oi (yielded ops a.tmps) = true then Oper.wp P oi a w K Q else K (a.put N undef) w := by
  refine value_ (w1 := w) hw hN ?_ h
  unfold execOp
  simp [hop, resolve, invoke, builtin, hm, hrun, Result.andThen]
end
theorem blkRow_of {w : World} {base n c : Nat} {O : Option Addr} {bs : List SBlock} {vs : List Value} (h : w.ownsRow base 38 5 (.slice O n c) bs.length (blksC bs vs)) (hvl : vs.length = bs.length) : BlkRow w O bs vs := by
  intro i hi hi'
  obtain ⟨g, c', e', _, _⟩ := h.form (by omega)
  injection e' with e1 e2 _
  subst e1
  subst e2
  have key : ∀ j, j < 5 → w.cell? ⟨g, 0 + i * 5 + j, none⟩ = (blkC bs[i] vs[i])[j]? := fun j hj => by
    rw [← blksC_get bs vs i hi hi' j hj, Nat.zero_add]
    exact World.ownsRow.cellAt h (i * 5 + j) (by omega)
  exact ⟨g, 0, rfl, key 0 (by decide), key 1 (by decide), key 2 (by decide), key 3 (by decide), key 4 (by decide)⟩
/-- What the rounds know. -/
def OI (wr : World) (gi ab nb n : Nat) (bs : List SBlock) (ins : Int → Want) (Ds : List Nat) (pre : List (Fin bs.length)) (W : World) : Prop :=
  Below wr.heap.size wr W ∧ InsRow W gi nb n (insSt bs n ins pre).1 ∧ Bk W ab #[.bool (insSt bs n ins pre).2] 4 ∧ Bk W (gi + 1) #[.slice (some ⟨gi, 0, none⟩) nb nb] 65 ∧ Marks W Ds
theorem OI.tb {S : Nat → Prop} {wr W W' : World} {gi ab nb n : Nat} {bs : List SBlock} {ins : Int → Want} {Ds : List Nat} {pre : List (Fin bs.length)} (h : OI wr gi ab nb n bs ins Ds pre W) (ht : TB S W W') (h1 : ¬ S gi) (h2 : ¬ S ab) (h3 : ¬ S (gi + 1)) (h4 : ∀ D ∈ Ds, ¬ S D) (h5 : ∀ k, S k → wr.heap.size ≤ k) (h6 : ∀ m es clk, W.heap[m]? = some (.map es clk) → ¬ S m) :
    OI wr gi ab nb n bs ins Ds pre W' := by
  obtain ⟨g1, g2, g3, g4, g5⟩ := h
  exact ⟨g1.trans (ht.below g1.size h5), g2.tb ht h1 h6, g3.tb ht h2, g4.tb ht h3, g5.tb ht h4⟩
theorem OI.below {wr W W' : World} {gi ab nb n : Nat} {bs : List SBlock} {ins : Int → Want} {Ds : List Nat} {pre : List (Fin bs.length)} (h : OI wr gi ab nb n bs ins Ds pre W) (hb : Below W.heap.size W W') : OI wr gi ab nb n bs ins Ds pre W' := by
  obtain ⟨g1, g2, g3, g4, g5⟩ := h
  exact ⟨bt g1 hb, g2.below hb, g3.mono hb, g4.mono hb, g5.below hb⟩
end Go.Proofs.YtoabiignjkcdmaaGreat

namespace Go.Proofs.YtoabiignjkcdmaaGreat
open Go.RowKit Go.Lib Go.Shelf Go.Maps
set_option linter.unusedVariables false
set_option linter.unusedSimpArgs false

/-- A cell of a row of the call's own is written. -/
theorem own_set {w : World} {base sz n g cap : Nat} {e : TypeId} {xs : List Value} (h : w.ownsRow base e sz (.slice (some ⟨g, 0, none⟩) n cap) n xs) {j : Nat} (hj : j < n * sz) (u : Value) :
    (w.setCell ⟨g, j, none⟩ u).ownsRow base e sz (.slice (some ⟨g, 0, none⟩) n cap) n (xs.set j u) := by
  obtain ⟨h1, h2⟩ := h
  refine ⟨by rw [List.length_set]; exact h1, ?_⟩
  rcases h2 with ⟨h2, -⟩ | ⟨g', cap', cur, hv, hg, hh, hc, hm, hs, ht⟩
  · cases h2
  · cases hv
    refine .inr ⟨g, cap, cur.setIfInBounds j u, rfl, hg, heap_setCell_same w g j cur e u hh, hc, hm, by simp [hs], ?_⟩
    rw [Array.toList_setIfInBounds, List.take_set, ht]
theorem blksC_set : ∀ (k : Nat) (bs : List SBlock) (vs : List Value) (hk : k < bs.length) (hl : bs.length = vs.length) (l : List SOp) (v : Value), blksC (bs.set k { bs[k] with ops := l }) (vs.set k v) = (blksC bs vs).set (k * 5) v
  | _, [], _, hk, _, _, _ => by simp at hk
  | _, b :: bs, [], _, hl, _, _ => by simp at hl
  | 0, b :: bs, x :: xs, _, _, l, v => by
    simp only [List.set_cons_zero, List.getElem_cons_zero, blksC_cons, Nat.zero_mul]
    rfl
  | k + 1, b :: bs, x :: xs, hk, hl, l, v => by
    have ih := blksC_set k bs xs (by simpa using hk) (by simpa using hl) l v
    simp only [List.set_cons_succ, List.getElem_cons_succ, blksC_cons]
    rw [ih, show (k + 1) * 5 = k * 5 + 5 by omega]
    rfl
theorem OfI.cut {w W W2 : World} {p : SIr} {S P B : Option Addr} {c1 c2 c3 qb : Nat} {s : List Bool} {pr : List SHanded} {bs : List SBlock} {sv pv : Value} {g n c : Nat} {vs : List Value} (h : OfI w W p S P B c1 c2 c3 qb ⟨s, pr, bs⟩ sv pv (.slice (some ⟨g, 0, none⟩) n c) vs) (hb : Below W.heap.size W W2)
    {k : Nat} (hk : k < bs.length) (l : List SOp) (v : Value) (ho : W2.ownsRow w.heap.size 54 6 v l.length (opsC l)) :
    OfI w (W2.setCell ⟨g, k * 5, none⟩ v) p S P B c1 c2 c3 qb ⟨s, pr, bs.set k { bs[k] with ops := l }⟩ sv pv (.slice (some ⟨g, 0, none⟩) n c) (vs.set k v) := by
  have h2 := h.below hb
  have hrb : W2.ownsRow w.heap.size 38 5 (.slice (some ⟨g, 0, none⟩) n c) bs.length (blksC bs vs) := h2.C.rb
  have hvl : vs.length = bs.length := h2.C.l
  have hn : n = bs.length := by
    rcases hrb.2 with ⟨e, _⟩ | ⟨_, _, _, e, _⟩
    · cases e
    · cases e; rfl
  subst hn
  obtain ⟨cur, hcur, hgb⟩ : ∃ cur, Bk W2 g cur 38 ∧ w.heap.size ≤ g := by
    rcases hrb.2 with ⟨e, _⟩ | ⟨_, _, cur, e, hg, hh, _⟩
    · cases e
    · cases e; exact ⟨cur, hh, hg⟩
  have ht : TY (fun t => t = 38) W2 (W2.setCell ⟨g, k * 5, none⟩ v) := TY.set (T := fun t => t = 38) (TY.refl _ _) hcur rfl v
  have hrow := own_set hrb (j := k * 5) (by omega) v
  rw [← blksC_set k bs vs hk hvl.symm l v] at hrow
  refine ⟨⟨own_ty h2.C.rs ht (by decide), own_ty h2.C.rp ht (by decide), ?_, ?_, ?_⟩, h2.Q.other (by intro e; have hq := h2.Q; unfold Bk at hq hcur; rw [show g = qb from e.symm, hq] at hcur; cases hcur) _, h2.X.other (by intro e; have hq := h2.X; unfold Bk at hq hcur; rw [show g = w.heap.size from e.symm, hq] at hcur; cases hcur) _,
    h2.Z.other (by intro e; have hq := h2.Z; unfold Bk at hq hcur; rw [show g = w.heap.size + 1 from e.symm, hq] at hcur; cases hcur) _, h2.lt.setCell (p := ⟨g, k * 5, none⟩) hgb _, h2.qn⟩
  · show (vs.set k v).length = (bs.set k _).length
    rw [List.length_set, List.length_set]; exact hvl
  · show World.ownsRow _ _ _ _ _ (bs.set k _).length _
    rw [List.length_set]; exact hrow
  · intro i hi hi'
    have hi1 : i < bs.length := by simpa using hi
    have hi2 : i < vs.length := by omega
    by_cases e : i = k
    · subst e
      simp only [List.getElem_set_self]
      exact own_ty ho ht (by decide)
    · have e1 : (bs.set k { bs[k] with ops := l })[i]'(by rw [List.length_set]; exact hi1) = bs[i] := by rw [List.getElem_set_ne (by omega)]
      have e2 : (vs.set k v)[i]'hi' = vs[i] := by rw [List.getElem_set_ne (by omega)]
      show World.ownsRow _ _ _ _ ((vs.set k v)[i]'hi') ((bs.set k { bs[k] with ops := l })[i]'(by rw [List.length_set]; exact hi1)).ops.length (((bs.set k { bs[k] with ops := l })[i]'(by rw [List.length_set]; exact hi1)).ops.flatMap SOp.cells)
      rw [e1, e2]
      exact own_ty (h2.C.ro i hi1 hi2) ht (by decide)
theorem own_marks {W W' : World} {Ds : List Nat} {base sz n : Nat} {e : TypeId} {v : Value} {xs : List Value} (h : W.ownsRow base e sz v n xs) (hm : Marks W Ds) (hT : TB (fun k => k ∈ Ds) W W') : W'.ownsRow base e sz v n xs := by
  refine own_tb h hT fun k hk hD => ?_
  rcases h.2 with ⟨rfl, -⟩ | ⟨g, cap, cur, rfl, -, hh, -⟩
  · cases hk
  · cases hk
    have := hm _ hD
    rw [hh] at this
    cases this
theorem Copied.marks {W W' : World} {Ds : List Nat} {base : Nat} {p : SIr} {sv pv bv : Value} {ovs : List Value} (h : Copied base p W sv pv bv ovs) (hm : Marks W Ds) (hT : TB (fun k => k ∈ Ds) W W') : Copied base p W' sv pv bv ovs :=
  ⟨own_marks h.rs hm hT, own_marks h.rp hm hT, h.l, own_marks h.rb hm hT, fun i hi hi' => own_marks (h.ro i hi hi') hm hT⟩
theorem Bk.marks {W W' : World} {Ds : List Nat} {n : Nat} {cs : Array Value} {t : TypeId} (h : Bk W n cs t) (hm : Marks W Ds) (hT : TB (fun k => k ∈ Ds) W W') : Bk W' n cs t :=
  h.tb hT fun hD => by
    have := hm _ hD
    unfold Bk at h
    rw [h] at this
    cases this
/-- The first k blocks are cut. -/
def mix (ins : Int → Want) (bs : List SBlock) (k : Nat) : List SBlock := (bs.map (cutB ins)).take k ++ bs.drop k
theorem mix_zero (ins : Int → Want) (bs : List SBlock) : mix ins bs 0 = bs := by unfold mix; simp
theorem mix_all (ins : Int → Want) (bs : List SBlock) : mix ins bs bs.length = bs.map (cutB ins) := by
  unfold mix
  rw [List.take_of_length_le (by simp)]
  simp
theorem mix_len (ins : Int → Want) (bs : List SBlock) (k : Nat) (hk : k ≤ bs.length) : (mix ins bs k).length = bs.length := by
  unfold mix
  simp
  omega
theorem mix_at (ins : Int → Want) (bs : List SBlock) (k : Nat) (hk : k < bs.length) : (mix ins bs k)[k]'(by rw [mix_len ins bs k (by omega)]; exact hk) = bs[k] := by
  unfold mix
  rw [List.getElem_append_right (by simp; omega)]
  simp [Nat.min_eq_left (Nat.le_of_lt hk)]
theorem mix_succ (ins : Int → Want) (bs : List SBlock) (k : Nat) (hk : k < bs.length) : mix ins bs (k + 1) = (mix ins bs k).set k (cutB ins bs[k]) := by
  apply List.ext_getElem?
  intro i
  unfold mix
  rw [List.getElem?_set]
  by_cases e : k = i
  · subst e
    rw [if_pos rfl, if_pos (by simp; omega), List.getElem?_append_left (by simp; omega)]
    simp [hk]
  · rw [if_neg e]
    rcases Nat.lt_or_gt_of_ne e with h | h
    · rw [List.getElem?_append_right (by simp; omega), List.getElem?_append_right (by simp; omega)]
      simp [Nat.min_eq_left (Nat.le_of_lt hk), Nat.min_eq_left (show k + 1 ≤ bs.length from hk)]
      congr 1
      omega
    · rw [List.getElem?_append_left (by simp; omega), List.getElem?_append_left (by simp; omega)]
      simp [show i < k + 1 by omega, h]
end Go.Proofs.YtoabiignjkcdmaaGreat
