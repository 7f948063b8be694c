/-
  Lemmas (texts FoldV FoldWb FoldWc FoldRg RunK3 RefC7), each proved without a condition beyond its own hypotheses.
-/
import Derived.Test.YtoabiignjkcdmaaGreatFd25
import Derived.Test.YtoabiignjkcdmaaGreatFd37
import Derived.Test.YtoabiignjkcdmaaGreatFd31
import Derived.Test.YtoabiignjkcdmaaGreatFd34
namespace Go.Proofs.YtoabiignjkcdmaaGreat
open Go.RowKit
set_option linter.unusedVariables false
set_option linter.unusedSimpArgs false

/-- One block of a round. -/
def insSt1 (bs : List SBlock) (n : Nat) (s : (Int → Want) × Bool) (i : Fin bs.length) : (Int → Want) × Bool :=
  if (backB (bs[i.val]'i.isLt) s.1).2.sz n ≠ (s.1 (i.val : Int)).sz n then (putW s.1 i.val (backB (bs[i.val]'i.isLt) s.1).2, true) else s
def insSt (bs : List SBlock) (n : Nat) (ins : Int → Want) (pre : List (Fin bs.length)) : (Int → Want) × Bool := pre.foldl (insSt1 bs n) (ins, false)
theorem insSt_snoc (bs : List SBlock) (n : Nat) (ins : Int → Want) (pre : List (Fin bs.length)) (x : Fin bs.length) : insSt bs n ins (pre ++ [x]) = insSt1 bs n (insSt bs n ins pre) x := by
  unfold insSt
  rw [List.foldl_append]
  rfl
def sumSz (ins : Int → Want) (n nb : Nat) : Nat := ((List.range nb).map fun (k : Nat) => (ins (k : Int)).sz n).sum
theorem sz_le_n (w : Want) (n : Nat) : w.sz n ≤ n := by
  unfold Want.sz
  exact Nat.le_trans (List.length_filter_le _ _) (by simp)
theorem sum_range_le (f : Nat → Nat) (n : Nat) (hf : ∀ k, f k ≤ n) : ∀ nb, ((List.range nb).map f).sum ≤ nb * n
  | 0 => by simp
  | nb + 1 => by
    have := sum_range_le f n hf nb
    have := hf nb
    rw [List.range_succ, List.map_append, List.sum_append]
    simp [Nat.add_mul]
    omega
theorem sumSz_le (ins : Int → Want) (n nb : Nat) : sumSz ins n nb ≤ nb * n := sum_range_le _ n (fun k => sz_le_n _ n) nb
theorem sum_range_mono (f g : Nat → Nat) : ∀ nb, (∀ k, k < nb → f k ≤ g k) → ((List.range nb).map f).sum ≤ ((List.range nb).map g).sum
  | 0, _ => by simp
  | nb + 1, h => by
    have h1 := sum_range_mono f g nb (fun k hk => h k (by omega))
    have h2 := h nb (by omega)
    rw [List.range_succ, List.map_append, List.sum_append, List.map_append, List.sum_append]
    simp
    omega
theorem sum_range_lt (f g : Nat → Nat) : ∀ nb, (∀ k, k < nb → f k ≤ g k) → ∀ j, j < nb → f j < g j → ((List.range nb).map f).sum < ((List.range nb).map g).sum
  | 0, _, j, hj, _ => by omega
  | nb + 1, h, j, hj, hlt => by
    rw [List.range_succ, List.map_append, List.sum_append, List.map_append, List.sum_append]
    have h2 := h nb (by omega)
    by_cases e : j = nb
    · subst e
      have h1 := sum_range_mono f g j (fun k hk => h k (by omega))
      simp
      omega
    · have h1 := sum_range_lt f g nb (fun k hk => h k (by omega)) j (by omega) hlt
      simp
      omega
theorem insSt1_law {bs : List SBlock} {n nb : Nat} (hok : ∀ b ∈ bs, BlkOk n nb b) {s : (Int → Want) × Bool} (h : SoFar bs n s.1) (i : Fin bs.length) :
    SoFar bs n (insSt1 bs n s i).1 ∧ sumSz s.1 n bs.length ≤ sumSz (insSt1 bs n s i).1 n bs.length ∧
    ((insSt1 bs n s i) = s ∧ (backB (bs[i.val]'i.isLt) s.1).2.sz n = (s.1 (i.val : Int)).sz n ∨ (insSt1 bs n s i).2 = true ∧ sumSz s.1 n bs.length < sumSz (insSt1 bs n s i).1 n bs.length) := by
  unfold insSt1
  by_cases e : (backB (bs[i.val]'i.isLt) s.1).2.sz n = (s.1 (i.val : Int)).sz n
  · rw [if_neg (by simp [e])]
    exact ⟨h, Nat.le_refl _, .inl ⟨rfl, e⟩⟩
  · rw [if_pos e]
    have hle : ∀ k, k < bs.length → (s.1 (k : Int)).sz n ≤ (putW s.1 i.val (backB (bs[i.val]'i.isLt) s.1).2 (k : Int)).sz n := by
      intro k hk
      unfold putW
      by_cases ek : (k : Int) = (i.val : Int)
      · rw [if_pos ek, ek]
        exact sz_le (h.g i.val i.isLt) n
      · rw [if_neg ek]
        exact Nat.le_refl _
    have hlt : (s.1 (i.val : Int)).sz n < (putW s.1 i.val (backB (bs[i.val]'i.isLt) s.1).2 (i.val : Int)).sz n := by
      have h1 := sz_le (h.g i.val i.isLt) n
      unfold putW
      rw [if_pos rfl]
      omega
    have hs : sumSz s.1 n bs.length < sumSz (putW s.1 i.val (backB (bs[i.val]'i.isLt) s.1).2) n bs.length := sum_range_lt _ _ _ hle i.val i.isLt hlt
    exact ⟨h.put hok i.isLt, Nat.le_of_lt hs, .inr ⟨rfl, hs⟩⟩
theorem insSt_law {bs : List SBlock} {n nb : Nat} (hok : ∀ b ∈ bs, BlkOk n nb b) {ins : Int → Want} (h : SoFar bs n ins) : ∀ (pre : List (Fin bs.length)),
    SoFar bs n (insSt bs n ins pre).1 ∧ sumSz ins n bs.length ≤ sumSz (insSt bs n ins pre).1 n bs.length ∧
    ((insSt bs n ins pre) = (ins, false) ∧ (∀ i ∈ pre, (backB (bs[i.val]'i.isLt) ins).2.sz n = (ins (i.val : Int)).sz n) ∨ (insSt bs n ins pre).2 = true ∧ sumSz ins n bs.length < sumSz (insSt bs n ins pre).1 n bs.length) := by
  intro pre
  have key : ∀ (l pre : List (Fin bs.length)), (SoFar bs n (insSt bs n ins pre).1 ∧ sumSz ins n bs.length ≤ sumSz (insSt bs n ins pre).1 n bs.length ∧
    ((insSt bs n ins pre) = (ins, false) ∧ (∀ i ∈ pre, (backB (bs[i.val]'i.isLt) ins).2.sz n = (ins (i.val : Int)).sz n) ∨ (insSt bs n ins pre).2 = true ∧ sumSz ins n bs.length < sumSz (insSt bs n ins pre).1 n bs.length)) →
    (SoFar bs n (insSt bs n ins (pre ++ l)).1 ∧ sumSz ins n bs.length ≤ sumSz (insSt bs n ins (pre ++ l)).1 n bs.length ∧
    ((insSt bs n ins (pre ++ l)) = (ins, false) ∧ (∀ i ∈ pre ++ l, (backB (bs[i.val]'i.isLt) ins).2.sz n = (ins (i.val : Int)).sz n) ∨ (insSt bs n ins (pre ++ l)).2 = true ∧ sumSz ins n bs.length < sumSz (insSt bs n ins (pre ++ l)).1 n bs.length)) := by
    intro l
    induction l with
    | nil => intro pre hp; rw [List.append_nil]; exact hp
    | cons x l ih =>
      intro pre ⟨p1, p2, p3⟩
      have e : pre ++ x :: l = (pre ++ [x]) ++ l := by simp
      rw [e]
      refine ih (pre ++ [x]) ?_
      obtain ⟨q1, q2, q3⟩ := insSt1_law hok p1 x
      rw [insSt_snoc]
      refine ⟨q1, Nat.le_trans p2 q2, ?_⟩
      rcases q3 with ⟨q3, q4⟩ | ⟨q3, q4⟩
      · rw [q3]
        rcases p3 with ⟨p3, p4⟩ | p3
        · refine .inl ⟨p3, fun i hi => ?_⟩
          rcases List.mem_append.1 hi with hi | hi
          · exact p4 i hi
          · rcases List.mem_singleton.1 hi with rfl
            rw [p3] at q4
            exact q4
        · exact .inr p3
      · exact .inr ⟨q3, Nat.lt_of_le_of_lt p2 q4⟩
  have := key pre [] ⟨h, Nat.le_refl _, .inl ⟨rfl, fun i hi => by cases hi⟩⟩
  simpa using this
/-- A whole round. -/
theorem round_law {bs : List SBlock} {n nb : Nat} (hok : ∀ b ∈ bs, BlkOk n nb b) {ins : Int → Want} (h : SoFar bs n ins) :
    SoFar bs n (insSt bs n ins (List.finRange bs.length).reverse).1 ∧
    ((insSt bs n ins (List.finRange bs.length).reverse).2 = false → FixedW bs (insSt bs n ins (List.finRange bs.length).reverse).1) ∧
    ((insSt bs n ins (List.finRange bs.length).reverse).2 = true → sumSz ins n bs.length < sumSz (insSt bs n ins (List.finRange bs.length).reverse).1 n bs.length) := by
  obtain ⟨h1, h2, h3⟩ := insSt_law hok h (List.finRange bs.length).reverse
  refine ⟨h1, fun hf => ?_, fun ht => ?_⟩
  · rcases h3 with ⟨h3, h4⟩ | ⟨h3, -⟩
    · rw [h3]
      refine h.fixed hok fun k hk => ?_
      exact h4 ⟨k, hk⟩ (by simp)
    · rw [h3] at hf; cases hf
  · rcases h3 with ⟨h3, h4⟩ | ⟨-, h3⟩
    · rw [h3] at ht; cases ht
    · exact h3
end Go.Proofs.YtoabiignjkcdmaaGreat

namespace Go.Proofs.YtoabiignjkcdmaaGreat
open Go.RowKit Go.Lib Go.Shelf Go.Maps
set_option linter.unusedVariables false
set_option linter.unusedSimpArgs false

theorem empty_own (w : World) (e : TypeId) (sz : Nat) : (w.alloc (.cells #[] e)).ownsRow w.heap.size e sz (.slice (some ⟨w.heap.size, 0, none⟩) 0 0) 0 [] :=
  ⟨by simp, .inr ⟨w.heap.size, 0, #[], rfl, Nat.le_refl _, heap_alloc_new w _, Nat.le_refl _, Nat.zero_le _, by simp, by simp⟩⟩
set_option maxRecDepth 100000 in
set_option maxHeartbeats 1000000 in
theorem cloneB_c {w : World} {S : Option Addr} {xs : List Bool} {c : Nat} (hS : kBool.Row w S xs) (hl : xs.length ≤ 100000) :
    Calls Tryz.prog 30 #[.slice S xs.length c] w fun e w' => ∃ v', e = .returned v' ∧ w'.ownsRow w.heap.size 4 1 v' xs.length (xs.flatMap fun x => [.bool x]) ∧ Below w.heap.size w w' := by
  have q22 : ∀ (w : World) (a : Option Addr) (n c n' c' : Nat), (binOp .eql 22 (.slice a n c) (.slice none n' c')).run Tryz.prog w = .ok (.bool a.isNone) w := fun w a n c n' c' => Lib.run_eql_slice_nil w _ _ a n c n' c' Tryz.underlying22
  cases S with
  | none =>
    have h0 : xs = [] := by
      rcases hS with h | ⟨b, o, e, _⟩
      · exact h
      · cases e
    subst h0
    go_enter Tryz.func30, Tryz.ntmps30
    go_wp2
    go_ret
    exact ⟨_, rfl, nil_own _ _ _ _, Below.refl _ _⟩
  | some a =>
    have hown := empty_own w 4 1
    have hb : Below w.heap.size w (w.alloc (.cells #[] 4)) := (Below.refl _ _).alloc (Nat.le_refl _) _
    have hS1 := hS.mono hb
    go_enter Tryz.func30, Tryz.ntmps30
    go_wp2_with (at_builtin; go_must (refine wpList_append_flat (fun x : Bool => [.bool x]) 1 (fun _ => rfl) (fun x u hu => by simp at hu; subst hu; rfl) rfl _ _ 22 4 (.bool false) 1 rfl Tryz.underlying22 infoBool rfl (by decide) w.heap.size _ 0 [] rfl hown (some a) c xs rfl hS1 (by omega) (by omega) (by simp) ?_); intro v' w2 hown2 hg2)
    go_ret
    rw [Nat.zero_add, List.nil_append] at hown2
    exact ⟨_, rfl, hown2, hb.grown hg2 (by simp) (fun k e => own_from hown k e)⟩
set_option maxRecDepth 100000 in
set_option maxHeartbeats 1000000 in
theorem cloneH_c {w : World} {S : Option Addr} {xs : List SHanded} {c : Nat} (hS : kHanded.Row w S xs) (hl : xs.length ≤ 100000) :
    Calls Tryz.prog 31 #[.slice S xs.length c] w fun e w' => ∃ v', e = .returned v' ∧ w'.ownsRow w.heap.size 61 5 v' xs.length (xs.flatMap SHanded.cells) ∧ Below w.heap.size w w' := by
  have q22 : ∀ (w : World) (a : Option Addr) (n c n' c' : Nat), (binOp .eql 23 (.slice a n c) (.slice none n' c')).run Tryz.prog w = .ok (.bool a.isNone) w := fun w a n c n' c' => Lib.run_eql_slice_nil w _ _ a n c n' c' Tryz.underlying23
  cases S with
  | none =>
    have h0 : xs = [] := by
      rcases hS with h | ⟨b, o, e, _⟩
      · exact h
      · cases e
    subst h0
    go_enter Tryz.func31, Tryz.ntmps31
    go_wp2
    go_ret
    exact ⟨_, rfl, nil_own _ _ _ _, Below.refl _ _⟩
  | some a =>
    have hown := empty_own w 61 5
    have hb : Below w.heap.size w (w.alloc (.cells #[] 61)) := (Below.refl _ _).alloc (Nat.le_refl _) _
    have hS1 := hS.mono hb
    go_enter Tryz.func31, Tryz.ntmps31
    go_wp2_with (at_builtin; go_must (refine wpList_append_flat SHanded.cells 5 (fun _ => rfl) (fun x u hu => by simp [SHanded.cells] at hu; rcases hu with rfl | rfl | rfl | rfl | rfl <;> rfl) rfl _ _ 23 61 (.agg #[.bool false, .bool false, .bool false, .int .i64 0, .int .i64 0]) 24 rfl Tryz.underlying23 infoHanded rfl (by decide) w.heap.size _ 0 [] rfl hown (some a) c xs rfl hS1 (by omega) (by omega) (by simp) ?_); intro v' w2 hown2 hg2)
    go_ret
    rw [Nat.zero_add, List.nil_append] at hown2
    exact ⟨_, rfl, hown2, hb.grown hg2 (by simp) (fun k e => own_from hown k e)⟩

/-! ### Worlds in which rows of certain types turn -/
def IsTy (T : TypeId → Prop) (W : World) (k : Nat) : Prop := ∃ cs t fr, W.heap[k]? = some (.cells cs t fr) ∧ T t
/-- w' is w but for rows of cells of certain types, and new blocks. -/
def TY (T : TypeId → Prop) (W W' : World) : Prop := TB (IsTy T W) W W'
section
variable {T T' : TypeId → Prop} {a b c : World}
theorem TY.refl (T : TypeId → Prop) (a : World) : TY T a a := TB.refl _ _
theorem TY.trans (h : TY T a b) (k : TY T b c) : TY T a c :=
  ⟨k.os.trans h.os, k.tape.trans h.tape, k.output.trans h.output, Nat.le_trans h.size k.size, fun i hi hn => by
    have h1 := h.block i hi hn
    refine (k.block i (Nat.lt_of_lt_of_le hi h.size) (fun e => hn ?_)).trans h1
    obtain ⟨cs, t, fr, e1, e2⟩ := e
    exact ⟨cs, t, fr, h1.symm.trans e1, e2⟩⟩
theorem TY.of_below (h : Below a.heap.size a b) : TY T a b := TB.of_below h
theorem TY.of_tb {S : Nat → Prop} (h : TB S a b) (hS : ∀ k, S k → IsTy T a k) : TY T a b := h.mono fun k _ hk => hS k hk
theorem TY.of_grown {row : Option Nat} (h : a.grownBy b row) (hS : ∀ k, row = some k → IsTy T a k) : TY T a b := TB.of_grown h hS
theorem TY.mono (h : TY T a b) (hT : ∀ t, T t → T' t) : TY T' a b := TB.mono h fun k _ ⟨cs, t, fr, e1, e2⟩ => ⟨cs, t, fr, e1, hT t e2⟩
theorem isTy_bk {n : Nat} {cs : Array Value} {t : TypeId} (h : Bk a n cs t) (hT : T t) : IsTy T a n := ⟨cs, t, _, h, hT⟩
theorem TY.set (h : TY T a b) {n i : Nat} {cs : Array Value} {t : TypeId} (hb : Bk b n cs t) (hT : T t) (v : Value) : TY T a (b.setCell ⟨n, i, none⟩ v) :=
  h.trans (TY.of_grown (set_grown b n i v) (fun k e => by cases e; exact isTy_bk hb hT))
theorem not_isTy_bk {n : Nat} {cs : Array Value} {t : TypeId} (h : Bk a n cs t) (hT : ¬ T t) : ¬ IsTy T a n := by
  rintro ⟨cs', t', fr, e, h2⟩
  unfold Bk at h
  rw [h] at e
  cases e
  exact hT h2
theorem Bk.ty {n : Nat} {cs : Array Value} {t : TypeId} (h : Bk a n cs t) (ht : TY T a b) (hT : ¬ T t) : Bk b n cs t := h.tb ht (not_isTy_bk h hT)
theorem own_ty {base sz n : Nat} {e : TypeId} {v : Value} {xs : List Value} (h : a.ownsRow base e sz v n xs) (ht : TY T a b) (hT : ¬ T e) : b.ownsRow base e sz v n xs := by
  refine own_tb h ht fun k hk => ?_
  rintro ⟨cs', t', fr, e, h2⟩
  rcases h.2 with ⟨rfl, -⟩ | ⟨g, cap, cur, rfl, -, hh, -⟩
  · cases hk
  · cases hk
    rw [hh] at e
    cases e
    exact hT h2
theorem WantAt.ty {m n : Nat} {wn : Want} (h : WantAt a m n wn) (ht : TY T a b) : WantAt b m n wn := by
  refine h.tb ht ?_
  rintro ⟨cs', t', fr, e, h2⟩
  obtain ⟨D, ⟨es, clk, hh, -⟩, -⟩ := h
  rw [hh] at e
  cases e
theorem SlotAt.ty {p : Option Nat} {n : Nat} {wn : Want} (h : SlotAt a p n wn) (ht : TY T a b) : SlotAt b p n wn := by
  rcases h with h | ⟨m, e, h⟩
  · exact .inl h
  · exact .inr ⟨m, e, h.ty ht⟩
theorem Copied.ty {base : Nat} {p : SIr} {sv pv bv : Value} {ovs : List Value} (h : Copied base p a sv pv bv ovs) (ht : TY T a b) (h1 : ¬ T 4) (h2 : ¬ T 61) (h3 : ¬ T 38) (h4 : ¬ T 54) : Copied base p b sv pv bv ovs :=
  ⟨own_ty h.rs ht h1, own_ty h.rp ht h2, h.l, own_ty h.rb ht h3, fun i hi hi' => own_ty (h.ro i hi hi') ht h4⟩
end
end Go.Proofs.YtoabiignjkcdmaaGreat

namespace Go.Proofs.YtoabiignjkcdmaaGreat
open Go.RowKit Go.Lib Go.Shelf Go.Maps Go.Proofs.YtoabiignjkcdmaaGreatW.PrintLast
set_option linter.unusedVariables false
set_option linter.unusedSimpArgs false

/-- What fold.Of hands back. -/
def OfPost (p : SIr) (w : World) (e : Ending) (w' : World) : Prop :=
  (checkS p = false → e = .returned (.tuple #[.agg zeroIr, .int .i64 2]) ∧ Below w.heap.size w w') ∧
  (checkS p = true → ∃ ins sv pv bv vs, FixedW (forwardP p).blk ins ∧ e = .returned (.tuple #[.agg #[sv, pv, bv], .int .i64 0]) ∧ Copied w.heap.size (foldS p ins) w' sv pv bv vs ∧ Below w.heap.size w w')
theorem of_end {tm : Array Value} {q : Nat} {x : Int} {cs : Array Value} {w : World} (h2 : tm.getD 2 undef = .pointer (some ⟨q, 0, none⟩)) (h3 : tm.getD 3 undef = .int .i64 x) (hb : Bk w q cs 26) (hs : cs.size = 3) :
    (results Tryz.f15 tm).run Tryz.prog w = .ok (.tuple #[.agg cs, .int .i64 x]) w := by
  have hp' : tm[2]?.getD undef = .pointer (some ⟨q, 0, none⟩) := by simpa using h2
  have hq' : tm[3]?.getD undef = .int .i64 x := by simpa using h3
  have hi : (Tryz.prog.info? 26).map (·.size) = some cs.size := by rw [hs]; kernel_rfl
  simp [results, Tryz.results15, hp', hq', asAddr, run_loadVar_row w q 26 26 cs (0, 0) _ hb Tryz.underlying26 rfl hi]
/-- What may be asked of a program that is folded. -/
structure FoldOk (p : SIr) : Prop where
  sec : p.sec.length ≤ 100000
  par : p.par.length ≤ 1000
  ops : ∀ b ∈ p.blk, b.ops.length ≤ 100000
  blk : p.blk.length ≤ 100000
  opw : checkS p = true → ∀ b ∈ p.blk, ∀ o ∈ b.ops, OpW p.sec.length o
set_option maxRecDepth 100000 in
set_option maxHeartbeats 2000000 in
theorem of_no (p : SIr) (S P B : Option Addr) (c1 c2 c3 : Nat) (w : World) (hS : kBool.Row w S p.sec) (hP : kHanded.Row w P p.par) (hB : kBlock.Row w B p.blk) (hok : FoldOk p) (hno : checkS p = false) :
    Calls Tryz.prog 15 #[.agg #[.slice S p.sec.length c1, .slice P p.par.length c2, .slice B p.blk.length c3]] w (OfPost p w) := by
  obtain ⟨w1, hw1⟩ : ∃ w1, w1 = (w.alloc (.cells #[.slice S p.sec.length c1, .slice P p.par.length c2, .slice B p.blk.length c3] 26)).alloc (.cells zeroIr 26) := ⟨_, rfl⟩
  have hb1 : Below w.heap.size w w1 := by rw [hw1]; exact ((Below.refl w.heap.size w).alloc (Nat.le_refl _) _).alloc (by simp) _
  have BP : Bk w1 w.heap.size #[.slice S p.sec.length c1, .slice P p.par.length c2, .slice B p.blk.length c3] 26 := by rw [hw1]; exact (Bk.new w _ _).alloc _
  have BO : Bk w1 (w.heap.size + 1) zeroIr 26 := by rw [hw1]; exact Bk.newAt _ _ (by simp)
  have HCK := check_c p S P B c1 c2 c3 w1 (hS.mono hb1) (hP.mono hb1) (hB.mono hb1) hok.par (fun b hb => by have := hok.ops b hb; omega)
  have hcn : checkN p = 2 := by unfold checkN; rw [hno]; rfl
  rw [hcn] at HCK
  have hpost : ∀ W, Below w.heap.size w W → OfPost p w (.returned (.tuple #[.agg #[.slice none 0 0, .slice none 0 0, .slice none 0 0], .int .i64 2])) W := fun W hW => ⟨fun _ => ⟨rfl, hW⟩, fun h => by rw [hno] at h; cases h⟩
  have HQ := Lib.hid hpost
  clear hpost hno hcn
  go_enter Tryz.func15, Tryz.ntmps15
  go_upto_region 1 with (fail)
  rw [← hw1]
  clear hw1
  have CP := BP.cell
  go_wp2_with (go_at_call 11; refine HCK.mono ?_; rintro e w2 ⟨rfl, hb2⟩; have BO2 := BO.mono hb2; have CO2 := BO2.cell; have FO2 := BO2.free; have hbw2 := bt hb1 hb2)
  have hQ3 := ((BO2.set 0 (.slice none 0 0)).set 1 (.slice none 0 0)).set 2 (.slice none 0 0)
  refine bodyPost_ret (of_end rfl rfl hQ3 rfl) rfl ?_
  exact HQ.out _ (((hbw2.setCell (p := ⟨w.heap.size + 1, 0, none⟩) (Nat.le_succ _) _).setCell (p := ⟨w.heap.size + 1, 1, none⟩) (Nat.le_succ _) _).setCell (p := ⟨w.heap.size + 1, 2, none⟩) (Nat.le_succ _) _)

/-! ### The program that is made -/
structure OfI (w W : World) (p : SIr) (S P B : Option Addr) (c1 c2 c3 qb : Nat) (q : SIr) (sv pv bv : Value) (vs : List Value) : Prop where
  C : Copied w.heap.size q W sv pv bv vs
  Q : Bk W qb #[sv, pv, bv] 26
  X : Bk W w.heap.size #[.slice S p.sec.length c1, .slice P p.par.length c2, .slice B p.blk.length c3] 26
  Z : Bk W (w.heap.size + 1) zeroIr 26
  lt : Below w.heap.size w W
  qn : w.heap.size + 2 ≤ qb
theorem OfI.ty {T : TypeId → Prop} {w W W' : World} {p : SIr} {S P B : Option Addr} {c1 c2 c3 qb : Nat} {q : SIr} {sv pv bv : Value} {vs : List Value} (h : OfI w W p S P B c1 c2 c3 qb q sv pv bv vs) (ht : TY T W W')
    (h1 : ¬ T 4) (h2 : ¬ T 61) (h3 : ¬ T 38) (h4 : ¬ T 54) (h5 : ¬ T 26) (hB : ∀ k, IsTy T W k → w.heap.size ≤ k) : OfI w W' p S P B c1 c2 c3 qb q sv pv bv vs :=
  ⟨h.C.ty ht h1 h2 h3 h4, h.Q.ty ht h5, h.X.ty ht h5, h.Z.ty ht h5, h.lt.trans (TB.below ht h.lt.size hB), h.qn⟩
theorem OfI.below {w W W' : World} {p : SIr} {S P B : Option Addr} {c1 c2 c3 qb : Nat} {q : SIr} {sv pv bv : Value} {vs : List Value} (h : OfI w W p S P B c1 c2 c3 qb q sv pv bv vs) (hb : Below W.heap.size W W') : OfI w W' p S P B c1 c2 c3 qb q sv pv bv vs :=
  ⟨⟨own_below h.C.rs hb, own_below h.C.rp hb, h.C.l, own_below h.C.rb hb, fun i hi hi' => own_below (h.C.ro i hi hi') hb⟩, h.Q.mono hb, h.X.mono hb, h.Z.mono hb, bt h.lt hb, h.qn⟩
section
variable {P : Program} {ops : Array Oper} {Q : Exit → Act → World → Prop} {oi : Oper} {N : Option Tmp} {a : Act} {w : World} {K : Act → World → Prop}
/-- blocks = append(blocks, b), at a step of a region that draws its order. -/
theorem appendBlk_ (hw : Region.wanted oi (yielded ops a.tmps) = true) (hN : oi.dst = N) (s x : Operand) (hop : oi.op = Op.call { callee := Callee.builtin Builtin.append, args := #[s, x], argTypes := #[24, 24] }) (base : Nat) (v : Value) (n : Nat) (xs : List Value) (hs : a.eval s = v)
    (hown : w.ownsRow base 38 5 v n xs) (k : Nat) (b : SBlock) (ov : Value) (h1 : ov.oneCell' = true) (hx : a.eval x = .slice (some ⟨k, 0, none⟩) 1 1) (hc : Bk w k (blkC b ov).toArray 38) (hn : n ≤ 1000000) (hb : base ≤ w.heap.size)
    (h : ∀ v' w', w'.ownsRow base 38 5 v' (n + 1) (xs ++ blkC b ov) → w.grownBy w' v.ownBlock → K (a.put N v') w') : if Region.wanted oi (yielded ops a.tmps) = true then Oper.wp Tryz.prog oi a w K Q else K (a.put N undef) w := by
  obtain ⟨i0, hi, hz0, hz1, hz2⟩ := info_parts infoBlock
  obtain ⟨v', w', hrun, r1, r2, -⟩ := run_append_own (P := Tryz.prog) w base 24 oi.type 38 i0 _ 5 56 Tryz.underlying24 hi hz0 hz1 hz2 rfl (by decide) v n xs hown ⟨k, 0, none⟩ 1 1 (blkC b ov) rfl (fun j u hu => by
      have hj : j < 5 := by
        have := (List.getElem?_eq_some_iff.1 hu).1
        simpa [blkC] using this
      have := hc.cell j
      rw [show ((⟨k, 0, none⟩ : Addr).add j) = ⟨k, j, none⟩ by simp only [Addr.add]; split <;> simp_all, this]
      rw [← hu]
      simp) (fun u hu => by
      simp [blkC] at hu
      rcases hu with rfl | rfl | rfl | rfl | rfl
      · exact h1
      all_goals rfl) (by unfold maxLen; omega) (by omega) hb
  refine value_ (w1 := w') hw hN ?_ (h v' w' r1 r2)
  unfold execOp
  simp [hop, resolve, invoke, builtin, hs, hx, hrun, Result.andThen]
end
/-- A region's steps, where none of them faults. -/
def onlyN (Q : Exit → Act → World → Prop) : Exit → Act → World → Prop
  | .normal, a, w => Q .normal a w
  | _, _, _ => False
theorem startM_ {P : Program} {ops : Array Oper} {Q : Exit → Act → World → Prop} {id n : Nat} {S : World → Prop} {ds : List Nat} {a : Act} {w : World} (l : Array Bool) (hm : P.follows .mixedOrders = true) (hn : ops.size = n) (hl : Array.replicate n false = l) (hS : S w.drew)
    (h : S w.drew → wpAnyLast P .any ops (onlyN Q) S ds n l a w.drew) : (Code.region id ops true).wp P Q a w :=
  Code.wp_mono (fun e a w q => by cases e <;> first | exact q | exact q.elim) (start_ l hm hn hl hS h)
theorem startInM_ {P : Program} {ops : Array Oper} {Q : Exit → Act → World → Prop} {id n0 n l : Nat} {S : World → Prop} {ds : List Nat} {a : Act} {w : World} (l0 : Array Bool) (hm : P.follows .mixedOrders = true) (hn : ops.size = n0) (hl : Array.replicate n0 false = l0) (hd : noDefer ops = true) (hS : S w.drew)
    (h : S w.drew → wpAnyLast P .any ops (onlyN Q) S ds n0 l0 a w.drew) : (Code.region id ops true).wpIn (Fence.wide.inRound l) n P Q a w :=
  wpIn_mono (startIn_ l0 hm hn hl hd (fun ⟨_, _, h⟩ => h) hS h) (fun e a w q => by cases e <;> first | exact q | exact q.elim)
theorem blksC_snoc (bs : List SBlock) (vs : List Value) (b : SBlock) (v : Value) (h : bs.length = vs.length) : blksC (bs ++ [b]) (vs ++ [v]) = blksC bs vs ++ blkC b v := by
  unfold blksC
  rw [List.zipWith_append h, List.flatten_append]
  simp
end Go.Proofs.YtoabiignjkcdmaaGreat

namespace Go.Proofs.YtoabiignjkcdmaaGreat
open Go.RowKit Go.Lib Go.Shelf Go.Maps
set_option linter.unusedVariables false
set_option linter.unusedSimpArgs false

/-- The two blocks of a loop that begins at place n lie as they lay. -/
def TwoKept (n : Nat) (W W' : World) : Prop := W'.heap[n]? = W.heap[n]? ∧ W'.heap[n + 1]? = W.heap[n + 1]?
/-- What a round comes to: it goes on. -/
def RoundGoes {α : Type} (n : Nat) (Kp : World → World → Prop) (I : List α → World → Prop) (ys : List α) (W : World) : Exit → Act → World → Prop
  | .normal, _, W' => TwoKept n W W' ∧ Kp W W' ∧ I ys W'
  | _, _, _ => False
theorem range_goes {P : Program} {α : Type} {g : Operand} {ps : Array Tmp} {assign body : Code} {Q : Exit → Act → World → Prop} {a : Act} {w : World} {gf : Nat} {lb : Array Value}
    (hg : a.eval g = .func (.func gf) #[] lb) (eg : ∀ args w, (callFunc gf args).run P w = .ok (.enter gf args) w) (encs : α → Array Value) (hps : ∀ x, (encs x).size = ps.size) (xs : List α) (N : Nat) (Kp : World → World → Prop)
    (hKt : ∀ {A B C : World}, Kp A B → Kp B C → Kp A C)
    (hKp : ∀ (W : World) (r : Loop) (o' : Obj), W.heap[w.heap.size + 1]? = some (.loop r) → Kp W (W.putObj (w.heap.size + 1) o'))
    (hiter : ∀ (l : Nat) (J : List α → World → Prop) (W : World), Below w.heap.size w W →
      (∀ pre x W1, J pre W1 → pre.length < N → YieldAt Fence.wide 7 P l (encs x) W1 fun e W' => (e = .returned (.bool true) ∧ J (pre ++ [x]) W' ∧ Kp W1 W') ∨ (e = .returned (.bool false) ∧ False)) → J [] W →
      CallsIn Fence.wide 8 P gf (#[.func (.yield l) #[] #[]] ++ lb) W fun e W' => (∃ v, e = .returned v) ∧ J xs W')
    (I : List α → World → Prop) (h0 : I [] w) (hIa : ∀ pre W o, I pre W → I pre (W.alloc o)) (hIp : ∀ pre (W : World) (r : Loop) (o' : Obj), I pre W → W.heap[w.heap.size + 1]? = some (.loop r) → I pre (W.putObj (w.heap.size + 1) o'))
    (Ax : α → Act → World → Prop) (hAx : ∀ x a' (W : World) (r : Loop) (o' : Obj), Ax x a' W → W.heap[w.heap.size + 1]? = some (.loop r) → Ax x a' (W.putObj (w.heap.size + 1) o'))
    (hassign : ∀ (l : Nat) (pre : List α) (x : α) (W : World) (K : Act → World → Prop), I pre W → w.heap.size + 2 ≤ W.heap.size → (∀ a' W', TwoKept w.heap.size W W' → Kp W W' → I pre W' → Ax x a' W' → K a' W') →
      assign.wpIn (Fence.wide.inRound l) 7 P (Exit.then K (fun _ _ _ => False)) { tmps := (ps.zip (encs x)).foldl (fun t (p, v) => t.setIfInBounds p v) a.tmps, defers := [] } W)
    (hbody : ∀ (l : Nat) (pre : List α) (x : α) (a' : Act) (W : World), w.heap.size + 2 ≤ W.heap.size → I pre W → Ax x a' W → pre.length < N → body.wpIn (Fence.wide.inRound l) 7 P (RoundGoes w.heap.size Kp I (pre ++ [x]) W) a' W)
    (hdone : ∀ (W : World), I xs W → W.heap[w.heap.size]? = some (.deferred (some [])) → Q .normal { a with defers := { target := .collected w.heap.size, args := #[] } :: a.defers } W) :
    (Code.rangeFunc g ps assign body).wpIn Fence.wide 9 P Q a w := by
  refine wpIn_rangeFunc fun fn hfn => ?_
  -- the record, in each of its states
  let rc : LoopState → Loop := fun st => { state := st, pending := none, fn := fn, tmps := a.tmps, params := ps, assign := assign, body := body, defers := w.heap.size }
  let V : World := (w.alloc (.deferred (some []))).alloc (.loop (rc .ready))
  have hVl : V.heap[w.heap.size + 1]? = some (.loop (rc .ready)) := by
    have := heap_alloc_new (w.alloc (.deferred (some []))) (.loop (rc .ready))
    rwa [World.size_alloc] at this
  have hVd : V.heap[w.heap.size]? = some (.deferred (some [])) := (Below.heap_alloc _ _ _ (by simp)).trans (heap_alloc_new w _)
  have hVb : Below w.heap.size w V := ((Below.refl _ w).alloc (Nat.le_refl _) _).alloc (by simp) _
  refine ⟨w.heap.size + 1, [{ target := .collected w.heap.size, args := #[] }], V, { target := .fn (.func gf) lb, args := #[.func (.yield (w.heap.size + 1)) #[] #[]] }, V, gf, #[.func (.yield (w.heap.size + 1)) #[] #[]] ++ lb, V, ?_, ?_, ?_, ?_, (fun h => by cases h), ?_⟩
  · exact run_enterLoop_outer _ _ _ _ _
  · simp only [resolve, hg]
    simp [go_sem]
  · intro f' _; trivial
  · simp [invoke, go_sem, eg]
  refine (hiter (w.heap.size + 1) (fun pre W => I pre W ∧ W.heap[w.heap.size + 1]? = some (.loop (rc .ready)) ∧ W.heap[w.heap.size]? = some (.deferred (some []))) V hVb ?_ ⟨hIa _ _ _ (hIa _ _ _ h0), hVl, hVd⟩).mono ?_
  · -- one round
    rintro pre x W ⟨hi, hl, hd⟩ hlen
    have hlt : w.heap.size + 1 < W.heap.size := (Array.getElem?_eq_some_iff.1 hl).1
    have hy := run_yield (P := P) (args := encs x) hl (hps x)
    refine ⟨fn, _, assign, body, hy, roundIn_of_wpIn hfn (hassign _ pre x W _ hi (by omega) ?_)⟩
    intro a' Wa hk hka hia hax
    have hla : Wa.heap[w.heap.size + 1]? = some (.loop (rc .ready)) := hk.2.trans hl
    have hda : Wa.heap[w.heap.size]? = some (.deferred (some [])) := hk.1.trans hd
    have hlta : w.heap.size + 1 < Wa.heap.size := (Array.getElem?_eq_some_iff.1 hla).1
    refine ⟨_, run_beginRound hla rfl, ?_⟩
    have hlb : (Wa.putObj (w.heap.size + 1) (.loop (rc .busy))).heap[w.heap.size + 1]? = some (.loop (rc .busy)) := World.putObj_heap_same hlta
    have hdb : (Wa.putObj (w.heap.size + 1) (.loop (rc .busy))).heap[w.heap.size]? = some (.deferred (some [])) := (World.putObj_heap_other (by omega)).trans hda
    have hsz : (Wa.putObj (w.heap.size + 1) (.loop (rc .busy))).heap.size = Wa.heap.size := by simp [World.putObj]
    refine wpIn_mono (hbody _ pre x a' _ (by rw [hsz]; omega) (hIp _ _ _ (.loop (rc .busy)) hia hla) (hAx _ _ _ _ (.loop (rc .busy)) hax hla) hlen) ?_
    intro e a3 W3 hp
    cases e with
    | normal =>
      obtain ⟨⟨k1, k2⟩, hkp, hi3⟩ := hp
      have hl3 : W3.heap[w.heap.size + 1]? = some (.loop (rc .busy)) := k2.trans hlb
      have hd3 : W3.heap[w.heap.size]? = some (.deferred (some [])) := k1.trans hdb
      have hend := run_endRound (P := P) none hl3
      refine ⟨_, _, hend, .inl ⟨rfl, ⟨hIp _ _ _ _ hi3 hl3, World.putObj_heap_same (Array.getElem?_eq_some_iff.1 hl3).1, (World.putObj_heap_other (by omega)).trans hd3⟩, ?_⟩⟩
      exact hKt hka (hKt (hKt (hKp _ _ _ hla) hkp) (hKp _ _ _ hl3))
    | _ => exact hp.elim
  · -- behind the iterator
    rintro e W2 ⟨⟨v, rfl⟩, hi, hl, hd⟩
    refine ⟨none, _, run_endLoop (P := P) hl (by simp [rc]), ?_⟩
    exact hdone _ (hIp _ _ _ _ hi hl) ((World.putObj_heap_other (by omega)).trans hd)
end Go.Proofs.YtoabiignjkcdmaaGreat

namespace Go.Proofs.YtoabiignjkcdmaaGreat
open Go.RowKit
set_option linter.unusedVariables false
set_option linter.unusedSimpArgs false

def aIn : SIn := ⟨[], []⟩
end Go.Proofs.YtoabiignjkcdmaaGreat

namespace Go.Proofs.YtoabiignjkcdmaaGreat
open Go.RowKit
set_option linter.unusedVariables false
set_option linter.unusedSimpArgs false

theorem blksC_cons (x : SBlock) (xs : List SBlock) (b : Value) (bs : List Value) : blksC (x :: xs) (b :: bs) = blkC x b ++ blksC xs bs := rfl
theorem blksC_get : ∀ (xs : List SBlock) (bs : List Value) (i : Nat) (h1 : i < xs.length) (h2 : i < bs.length) (j : Nat), j < 5 → (blksC xs bs)[i * 5 + j]? = (blkC xs[i] bs[i])[j]?
  | x :: xs, b :: bs, 0, h1, h2, j, hj => by
    rw [blksC_cons, Nat.zero_mul, Nat.zero_add, List.getElem?_append_left (by simp [blkC]; omega)]
    rfl
  | x :: xs, b :: bs, i + 1, h1, h2, j, hj => by
    rw [blksC_cons, List.getElem?_append_right (by simp [blkC]; omega)]
    have e : (i + 1) * 5 + j - (blkC x b).length = i * 5 + j := by simp [blkC]; omega
    rw [e, blksC_get xs bs i (by simpa using h1) (by simpa using h2) j hj]
    rfl
theorem copied_rows {base : Nat} {p : SIr} {w : World} {sv pv bv : Value} {ovs : List Value} (h : Copied base p w sv pv bv ovs) (hops : ∀ b ∈ p.blk, b.ops.length ≤ maxLen) :
    ∃ (S P B : Option Addr) (c1 c2 c3 : Nat), sv = .slice S p.sec.length c1 ∧ pv = .slice P p.par.length c2 ∧ bv = .slice B p.blk.length c3 ∧ kBool.Row w S p.sec ∧ kHanded.Row w P p.par ∧ kBlock.Row w B p.blk := by
  obtain ⟨rs, rp, l, rb, ro⟩ := h
  obtain ⟨S, c1, rfl⟩ := own_shape' rs
  obtain ⟨P, c2, rfl⟩ := own_shape' rp
  obtain ⟨B, c3, rfl⟩ := own_shape' rb
  refine ⟨S, P, B, c1, c2, c3, rfl, rfl, rfl, row_of_flat rs rfl, row_of_flat rp rfl, ?_⟩
  by_cases h0 : p.blk = []
  · exact .inl h0
  obtain ⟨g, c', e', _, _⟩ := rb.form (List.length_pos_iff.2 h0)
  injection e' with e1 _ e3
  subst e1 e3
  refine .inr ⟨g, 0, rfl, fun i hi => ?_⟩
  have hi' : i < ovs.length := by omega
  have r := ro i hi hi'
  obtain ⟨O, oc, eo⟩ := own_shape' r
  rw [eo] at r
  refine ⟨blkC p.blk[i] ovs[i], ⟨O, oc, by rw [eo]; rfl, hops _ (List.getElem_mem hi), row_of_flat r rfl⟩, fun j hj => ?_⟩
  have hj' : j < 5 := hj
  have hlt : i * 5 + j < p.blk.length * 5 := by omega
  have h1 := World.ownsRow.cellAt rb (i * 5 + j) hlt
  show w.cell? ⟨g, 0 + i * 5 + j, none⟩ = _
  have h2 := blksC_get p.blk ovs i hi hi' j hj'
  rw [List.getElem?_eq_getElem hj] at h2
  rw [Nat.zero_add]
  simpa [h2] using h1

end Go.Proofs.YtoabiignjkcdmaaGreat
