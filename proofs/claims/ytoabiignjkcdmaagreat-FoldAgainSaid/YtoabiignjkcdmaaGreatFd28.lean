/-
  Lemmas (texts FoldW4), each proved without a condition beyond its own hypotheses.
-/
import Derived.Test.YtoabiignjkcdmaaGreatFd26
import Derived.Test.YtoabiignjkcdmaaGreatFd4
namespace Go.Proofs.YtoabiignjkcdmaaGreat
open Go.RowKit Go.Maps Go.Shelf Go.Proofs.YtoabiignjkcdmaaGreatW.PrintLast
set_option linter.unusedVariables false
set_option linter.unusedSimpArgs false

structure OpW (n : Nat) (o : SOp) : Prop where
  hi : OpIn n o
  az : askN o.k = 0 → o.a = 0
  bz : askN o.k ≤ 1 → o.b = 0
  imm : 0 ≤ o.imm ∧ o.imm < 18446744073709551616
  fn3 : o.k = 3 → 1 ≤ o.fn ∧ o.fn ≤ 14
theorem Fx.St.num {f : Fx} {n : Nat} (h : f.St n) {d x : Int} (hd : 0 ≤ d ∧ d < (n : Int)) (hx : 0 ≤ x ∧ x < 18446744073709551616) : (f.num d x).St n where
  nums := fun k y hk => by
    unfold Fx.num at hk
    simp only at hk
    split at hk
    · rename_i e; cases hk; rw [e]; exact ⟨hd, hx⟩
    · exact h.nums k y hk
  same := h.same
theorem Fx.St.sam {f : Fx} {n : Nat} (h : f.St n) {d x : Int} (hd : 0 ≤ d ∧ d < (n : Int)) (hx : 0 ≤ x ∧ x < (n : Int)) : (f.sam d x).St n where
  nums := h.nums
  same := fun k y hk => by
    unfold Fx.sam at hk
    simp only at hk
    split at hk
    · rename_i e; cases hk; rw [e]; exact ⟨hd, hx⟩
    · exact h.same k y hk
def FoldPost (w : World) (p bn bs n : Nat) (f : Fx) (o : SOp) (e : Ending) (w' : World) : Prop :=
  e = .returned (foldO f o).val ∧ Fcts w' p bn bs n (foldF f (foldO f o)) ∧ TB (fun k => k = bn ∨ k = bs) w w'
abbrev opC (k fn d a b imm : Int) : Array Value := #[.int .u8 k, .int .u8 fn, .int .i64 d, .int .i64 a, .int .i64 b, .int .u64 imm]
/-- The world in which a step is folded. -/
structure FW (w0 w : World) (p bn bs n : Nat) (f : Fx) (cs : Array Value) : Prop where
  F : Fcts w p bn bs n f
  B : Bk w w0.heap.size cs 54
  Z : Bk w (w0.heap.size + 1) (opC 0 0 0 0 0 0) 54
  T : TB (fun k => k = bn ∨ k = bs) w0 w
  lt : p < w0.heap.size ∧ bn < w0.heap.size ∧ bs < w0.heap.size
theorem FW.below {w0 w w' : World} {p bn bs n : Nat} {f : Fx} {cs : Array Value} (h : FW w0 w p bn bs n f cs) (hb : Below w.heap.size w w') : FW w0 w' p bn bs n f cs :=
  ⟨h.F.below hb, h.B.mono hb, h.Z.mono hb, h.T.trans (TB.of_below hb), h.lt⟩
theorem FW.drew {w0 w : World} {p bn bs n : Nat} {f : Fx} {cs : Array Value} (h : FW w0 w p bn bs n f cs) : FW w0 w.drew p bn bs n f cs := h.below (Below.refl _ _).drew
theorem Fcts.other {w : World} {p bn bs n : Nat} {f : Fx} (h : Fcts w p bn bs n f) {m : Nat} (h1 : m ≠ p) (h2 : m ≠ bn) (h3 : m ≠ bs) (i : Nat) (v : Value) : Fcts (w.setCell ⟨m, i, none⟩ v) p bn bs n f := by
  have ht : TB (fun k => k = m) w (w.setCell ⟨m, i, none⟩ v) := ⟨rfl, rfl, rfl, by simp, fun k _ hk => Below.heap_setCell w ⟨m, i, none⟩ v k hk⟩
  exact ⟨h.pc.other (Ne.symm h1) v, h.nm.tb ht (Ne.symm h2), h.sm.tb ht (Ne.symm h3), h.st, h.ne⟩
theorem FW.setB {w0 w : World} {p bn bs n : Nat} {f : Fx} {cs : Array Value} (h : FW w0 w p bn bs n f cs) (i : Nat) (v : Value) : FW w0 (w.setCell ⟨w0.heap.size, i, none⟩ v) p bn bs n f (cs.setIfInBounds i v) := by
  obtain ⟨l1, l2, l3⟩ := h.lt
  refine ⟨h.F.other (by omega) (by omega) (by omega) i v, h.B.set i v, h.Z.other (by simp) v, ⟨h.T.os, h.T.tape, h.T.output, by have := h.T.size; simp; omega, fun k hk hs => ?_⟩, h.lt⟩
  exact (Below.heap_setCell w ⟨w0.heap.size, i, none⟩ v k (by show k ≠ w0.heap.size; omega)).trans (h.T.block k hk hs)
theorem fw_begin {w : World} {p bn bs n : Nat} {f : Fx} (h : Fcts w p bn bs n f) (cs : Array Value) : ∃ w1, w1 = (w.alloc (.cells cs 54)).alloc (.cells (opC 0 0 0 0 0 0) 54) ∧ FW w w1 p bn bs n f cs := by
  refine ⟨_, rfl, (h.below ((Below.refl _ _).alloc (Nat.le_refl _) _)).below ((Below.refl _ _).alloc (Nat.le_refl _) _), (Bk.new w cs _).alloc _, Bk.newAt _ _ (by simp), ((TB.refl _ _).alloc _).alloc _, h.pc.lt, h.nm.lt, h.sm.lt⟩

theorem fold_end {tm : Array Value} {q : Nat} {cs : Array Value} {w : World} {R : Ending → World → Prop} (h4 : tm.getD 4 undef = .pointer (some ⟨q, 0, none⟩)) (hb : Bk w q cs 54) (hs : cs.size = 6)
    (hR : R (.returned (.agg cs)) w) : bodyPost Tryz.prog Tryz.f55 R Exit.ret { tmps := tm, defers := [] } w := by
  refine bodyPost_ret (v := .agg cs) ?_ rfl hR
  have hp' : tm[4]?.getD undef = .pointer (some ⟨q, 0, none⟩) := by simpa using h4
  have hi : (Tryz.prog.info? 54).map (·.size) = some cs.size := by rw [hs]; kernel_rfl
  simp [results, Tryz.results55, hp', asAddr, run_loadVar_row w q 54 54 cs (0, 0) _ hb Tryz.underlying54 rfl hi]
theorem store6o {w : World} {q : Nat} {z : Array Value} {t : TypeId} (h : Bk w q z t) (hz : z.size = 6) (a b c d e f : Value) : Bk ((((((w.setCell ⟨q, 0, none⟩ a).setCell ⟨q, 1, none⟩ b).setCell ⟨q, 2, none⟩ c).setCell ⟨q, 3, none⟩ d).setCell ⟨q, 4, none⟩ e).setCell ⟨q, 5, none⟩ f) q #[a, b, c, d, e, f] t := by
  have h4 := (((((h.set 0 a).set 1 b).set 2 c).set 3 d).set 4 e).set 5 f
  have e' : ((((((z.setIfInBounds 0 a).setIfInBounds 1 b).setIfInBounds 2 c).setIfInBounds 3 d).setIfInBounds 4 e).setIfInBounds 5 f) = #[a, b, c, d, e, f] := by
    apply Array.ext_getElem?
    intro i
    have hi : i = 0 ∨ i = 1 ∨ i = 2 ∨ i = 3 ∨ i = 4 ∨ i = 5 ∨ 6 ≤ i := by omega
    rcases hi with rfl | rfl | rfl | rfl | rfl | rfl | hi
    · simp [Array.getElem?_setIfInBounds, hz]
    · simp [Array.getElem?_setIfInBounds, hz]
    · simp [Array.getElem?_setIfInBounds, hz]
    · simp [Array.getElem?_setIfInBounds, hz]
    · simp [Array.getElem?_setIfInBounds, hz]
    · simp [Array.getElem?_setIfInBounds, hz]
    · rw [Array.getElem?_eq_none (by simp [hz]; omega), Array.getElem?_eq_none (by simp; omega)]
  rw [e'] at h4
  exact h4
theorem FW.store6 {w0 w : World} {p bn bs n : Nat} {f : Fx} {cs : Array Value} (h : FW w0 w p bn bs n f cs) (hcs : cs.size = 6) (a b c d e g : Value) :
    FW w0 ((((((w.setCell ⟨w0.heap.size, 0, none⟩ a).setCell ⟨w0.heap.size, 1, none⟩ b).setCell ⟨w0.heap.size, 2, none⟩ c).setCell ⟨w0.heap.size, 3, none⟩ d).setCell ⟨w0.heap.size, 4, none⟩ e).setCell ⟨w0.heap.size, 5, none⟩ g) p bn bs n f #[a, b, c, d, e, g] := by
  have h6 := (((((h.setB 0 a).setB 1 b).setB 2 c).setB 3 d).setB 4 e).setB 5 g
  exact ⟨h6.F, store6o h.B hcs _ _ _ _ _ _, h6.Z, h6.T, h6.lt⟩
theorem FW.turn {w0 w w' : World} {p bn bs n : Nat} {f f' : Fx} {cs : Array Value} (h : FW w0 w p bn bs n f cs) (hF : Fcts w' p bn bs n f') (ht : TB (fun k => k = bn ∨ k = bs) w w') : FW w0 w' p bn bs n f' cs := by
  obtain ⟨l1, l2, l3⟩ := h.lt
  exact ⟨hF, h.B.tb ht (by rintro (e | e) <;> omega), h.Z.tb ht (by rintro (e | e) <;> omega), h.T.trans ht, h.lt⟩
theorem FW.putN {w0 w w' : World} {p bn bs n : Nat} {f : Fx} {cs : Array Value} (h : FW w0 w p bn bs n f cs) {D : DI} (hr : ReadsI .u64 D f.nums) {d : Int} (x : Int) (hd : 0 ≤ d ∧ d < (n : Int)) (hx : 0 ≤ x ∧ x < 18446744073709551616) {m : Nat}
    (ho : w'.ownsMap Tryz.prog 3 (plainElem Tryz.prog 46) bn m (D.put (kI d) (.lit (.int .u64 x)))) (hm : w.mapTurned w' bn) : FW w0 w' p bn bs n (f.num d x) cs := by
  obtain ⟨n1, n2, n3⟩ := h.F.ne
  have T : TB (fun k => k = bn) w w' := TB.of_grown hm.grown (fun k e => by cases e; rfl)
  refine h.turn ⟨h.F.pc.tb T n1, ⟨_, map_fit ho, (Reads.put hr d x).congr fun k => rfl⟩, h.F.sm.tb T (Ne.symm n3), h.F.st.num hd hx, h.F.ne⟩ (T.mono fun k _ e => .inl e)
theorem FW.putS {w0 w w' : World} {p bn bs n : Nat} {f : Fx} {cs : Array Value} (h : FW w0 w p bn bs n f cs) {D : DI} (hr : ReadsI .i64 D f.same) {d : Int} (x : Int) (hd : 0 ≤ d ∧ d < (n : Int)) (hx : 0 ≤ x ∧ x < (n : Int)) {m : Nat}
    (ho : w'.ownsMap Tryz.prog 3 (plainElem Tryz.prog 3) bs m (D.put (kI d) (.lit (.int .i64 x)))) (hm : w.mapTurned w' bs) : FW w0 w' p bn bs n (f.sam d x) cs := by
  obtain ⟨n1, n2, n3⟩ := h.F.ne
  have T : TB (fun k => k = bs) w w' := TB.of_grown hm.grown (fun k e => by cases e; rfl)
  refine h.turn ⟨h.F.pc.tb T n2, h.F.nm.tb T n3, ⟨_, map_fit ho, (Reads.put hr d x).congr fun k => rfl⟩, h.F.st.sam hd hx, h.F.ne⟩ (T.mono fun k _ e => .inr e)
theorem Fcts.sizes {w : World} {p bn bs n : Nat} {f : Fx} (h : Fcts w p bn bs n f) : (∀ D, ReadsI .u64 D f.nums → Maps.size D ≤ n) ∧ (∀ D, ReadsI .i64 D f.same → Maps.size D ≤ n) :=
  ⟨fun D hr => hr.size_le fun x y e => (h.st.nums x y e).1, fun D hr => hr.size_le fun x y e => (h.st.same x y e).1⟩
/-- The end: what the call's own cells hold is handed back. -/
theorem FW.post {w0 w : World} {p bn bs n : Nat} {f : Fx} {cs : Array Value} (h : FW w0 w p bn bs n f cs) (a b c d e g : Value) :
    Bk ((((((w.setCell ⟨w0.heap.size + 1, 0, none⟩ a).setCell ⟨w0.heap.size + 1, 1, none⟩ b).setCell ⟨w0.heap.size + 1, 2, none⟩ c).setCell ⟨w0.heap.size + 1, 3, none⟩ d).setCell ⟨w0.heap.size + 1, 4, none⟩ e).setCell ⟨w0.heap.size + 1, 5, none⟩ g) (w0.heap.size + 1) #[a, b, c, d, e, g] 54 ∧
    Fcts ((((((w.setCell ⟨w0.heap.size + 1, 0, none⟩ a).setCell ⟨w0.heap.size + 1, 1, none⟩ b).setCell ⟨w0.heap.size + 1, 2, none⟩ c).setCell ⟨w0.heap.size + 1, 3, none⟩ d).setCell ⟨w0.heap.size + 1, 4, none⟩ e).setCell ⟨w0.heap.size + 1, 5, none⟩ g) p bn bs n f ∧
    TB (fun k => k = bn ∨ k = bs) w0 ((((((w.setCell ⟨w0.heap.size + 1, 0, none⟩ a).setCell ⟨w0.heap.size + 1, 1, none⟩ b).setCell ⟨w0.heap.size + 1, 2, none⟩ c).setCell ⟨w0.heap.size + 1, 3, none⟩ d).setCell ⟨w0.heap.size + 1, 4, none⟩ e).setCell ⟨w0.heap.size + 1, 5, none⟩ g) := by
  obtain ⟨l1, l2, l3⟩ := h.lt
  have n1 : w0.heap.size + 1 ≠ p := by omega
  have n2 : w0.heap.size + 1 ≠ bn := by omega
  have n3 : w0.heap.size + 1 ≠ bs := by omega
  have st : ∀ {w : World} (i : Nat) (v : Value), TB (fun k => k = bn ∨ k = bs) w0 w → TB (fun k => k = bn ∨ k = bs) w0 (w.setCell ⟨w0.heap.size + 1, i, none⟩ v) := fun {w} i v ht =>
    ⟨ht.os, ht.tape, ht.output, by have := ht.size; simp; omega, fun k hk hs => (Below.heap_setCell w ⟨w0.heap.size + 1, i, none⟩ v k (by show k ≠ w0.heap.size + 1; omega)).trans (ht.block k hk hs)⟩
  exact ⟨store6o h.Z rfl _ _ _ _ _ _, (((((h.F.other n1 n2 n3 0 a).other n1 n2 n3 1 b).other n1 n2 n3 2 c).other n1 n2 n3 3 d).other n1 n2 n3 4 e).other n1 n2 n3 5 g, st 5 g (st 4 e (st 3 d (st 2 c (st 1 b (st 0 a h.T)))))⟩

set_option maxRecDepth 100000 in
set_option maxHeartbeats 4000000 in
theorem fold_n2 {w : World} {p bn bs n : Nat} {f : Fx} (h : Fcts w p bn bs n f) (k : Int) (fn d a b imm : Int) (hk : k = 5 ∨ k = 6 ∨ k = 7 ∨ k = 10) (hn : n ≤ 100000) (ho : OpW n ⟨k, fn, d, a, b, imm⟩) :
    Calls Tryz.prog 55 #[.pointer (some ⟨p, 0, none⟩), .agg (opC k fn d a b imm)] w (FoldPost w p bn bs n f ⟨k, fn, d, a, b, imm⟩) := by
  have hlen : (asksL ⟨k, fn, d, a, b, imm⟩).length = 2 := by rcases hk with rfl | rfl | rfl | rfl <;> rfl
  have hask : askN k = 2 := by rcases hk with rfl | rfl | rfl | rfl <;> rfl
  have hset : setsB k = false := by rcases hk with rfl | rfl | rfl | rfl <;> rfl
  have h1 : (k == 1) = false := by rcases hk with rfl | rfl | rfl | rfl <;> rfl
  have h2 : (k == 2) = false := by rcases hk with rfl | rfl | rfl | rfl <;> rfl
  have h3 : (k == 3) = false := by rcases hk with rfl | rfl | rfl | rfl <;> rfl
  have hk13 : (k : Int) = 1 ∨ (k : Int) = 2 ∨ (k : Int) = 3 ∨ (k : Int) = 4 ∨ (k : Int) = 5 ∨ (k : Int) = 6 ∨ (k : Int) = 7 ∨ (k : Int) = 8 ∨ (k : Int) = 9 ∨ (k : Int) = 10 ∨ (k : Int) = 11 ∨ (k : Int) = 12 ∨ (k : Int) = 13 := by omega
  have ha : 0 ≤ a ∧ a < (n : Int) := ho.hi.a (show 0 < askN k by omega)
  have ra := h.st.of ha
  have hb : 0 ≤ b ∧ b < (n : Int) := ho.hi.b (show 1 < askN k by omega)
  have rb := h.st.of hb
  have hfo : foldO f ⟨k, fn, d, a, b, imm⟩ = ⟨k, fn, d, f.of a, f.of b, imm⟩ := by rcases hk with rfl | rfl | rfl | rfl <;> rfl
  have hff : foldF f (⟨k, fn, d, f.of a, f.of b, imm⟩) = f := by unfold foldF; exact if_pos hset
  unfold FoldPost
  rw [hfo, hff]
  obtain ⟨w1, hw1, hF1⟩ := fw_begin h (opC k fn d a b imm)
  have HA := Lib.hid (fun w => asks_lit k hk13 fn d a b imm w)
  have HO := Lib.hid (fun w (h : Fcts w p bn bs n f) v h0 h1 => of_c h v h0 h1)
  have HS := Lib.hid (fun k fn a b imm w => sets_c k fn d a b imm w)
  clear hfo hff
  go_enter Tryz.func55, Tryz.ntmps55
  go_upto_region 1 with (fail)
  rw [← hw1]
  clear hw1
  have C1 := hF1.B.cell
  go_upto_region 2 with (go_at_call 74; go_must (refine (HA.out _).mono ?_); rintro e w3 ⟨A, c, rfl, hb3, -⟩; rw [hlen])
  have hF3 := hF1.below hb3
  clear hF1 hb3 C1
  have C3 := hF3.B.cell
  go_upto_region 4 with (go_at_call 56; go_must (refine (HO.out _ hF3.F a (by omega) (by omega)).mono ?_); rintro e w4 ⟨rfl, hb4⟩; have C4 := (hF3.below hb4).B.cell; have f4 := (hF3.below hb4).B.free 3)
  have hF5 : FW w (w4.setCell ⟨w.heap.size, 3, none⟩ (.int .i64 (f.of a))) p bn bs n f (opC k fn d (f.of a) b imm) := (hF3.below hb4).setB 3 _
  clear hF3 hb4 C3 C4 f4
  generalize w4.setCell ⟨w.heap.size, 3, none⟩ (.int .i64 (f.of a)) = w5 at hF5 ⊢
  have C5 := hF5.B.cell
  go_upto_region 6 with (go_at_call 56; go_must (refine (HO.out _ hF5.F b (by omega) (by omega)).mono ?_); rintro e w6 ⟨rfl, hb6⟩; have C6 := (hF5.below hb6).B.cell; have f6 := (hF5.below hb6).B.free 4)
  have hF7 : FW w (w6.setCell ⟨w.heap.size, 4, none⟩ (.int .i64 (f.of b))) p bn bs n f (opC k fn d (f.of a) (f.of b) imm) := (hF5.below hb6).setB 4 _
  clear hF5 hb6 C5 C6 f6
  generalize w6.setCell ⟨w.heap.size, 4, none⟩ (.int .i64 (f.of b)) = w7 at hF7 ⊢
  obtain ⟨DN, hown, hRN⟩ := hF7.F.nm
  have cn0 : w7.cell? ⟨p, 0, none⟩ = some (.map (some bn)) := hF7.F.pc.cell 0
  have cb3 : w7.cell? ⟨w.heap.size, 3, none⟩ = some (.int .i64 (f.of a)) := hF7.B.cell 3
  have cb4 : w7.cell? ⟨w.heap.size, 4, none⟩ = some (.int .i64 (f.of b)) := hF7.B.cell 4
  have hk3 := keyI (x := f.of a) (by omega) (by omega)
  have hk4 := keyI (x := f.of b) (by omega) (by omega)
  refine start_ (n := 12) (S := fun w' => w'.cell? ⟨p, 0, none⟩ = some (.map (some bn)) ∧ w'.cell? ⟨w.heap.size, 3, none⟩ = some (.int .i64 (f.of a))) (ds := []) (bz 12 0) (by kernel_rfl) rfl rfl ⟨cn0, cb3⟩ (fun hHeld => ?_)
  refine pure_ (i := 0) (N := (some 31)) (v := ?_) (a' := ?_) (bz 12 1) rfl rfl (by kernel_rfl) (fun _ _ _ h => h) (Or.inl ⟨by rfl, ?_⟩) ?_ ?_
  rotate_left
  · intro w'
    go_simp
    with_reducible rfl
  rotate_left
  · simp only [Act.put, sa_, sb_, sc_]
    rfl
  refine pure_ (i := 1) (N := (some 32)) (v := ?_) (a' := ?_) (bz 12 3) rfl rfl (by kernel_rfl) (fun _ _ _ h => h) (Or.inl ⟨by rfl, ?_⟩) ?_ ?_
  rotate_left
  · intro w'
    go_simp
    with_reducible rfl
  rotate_left
  · simp only [Act.put, sa_, sb_, sc_]
    rfl
  refine pure_ (i := 2) (N := (some 33)) (v := ?_) (a' := ?_) (bz 12 7) rfl rfl (by kernel_rfl) (fun _ _ _ h => h) (Or.inl ⟨by rfl, ?_⟩) ?_ ?_
  rotate_left
  · intro w'
    go_simp
    with_reducible rfl
  rotate_left
  · simp only [Act.put, sa_, sb_, sc_]
    rfl
  refine pure_ (i := 4) (N := (some 35)) (v := ?_) (a' := ?_) (bz 12 23) rfl rfl (by kernel_rfl) (fun _ _ _ h => h) (Or.inl ⟨by rfl, ?_⟩) ?_ ?_
  rotate_left
  · intro w'
    go_simp
    with_reducible rfl
  rotate_left
  · simp only [Act.put, sa_, sb_, sc_]
    rfl
  refine take_ (i := 3) (N := (some 34)) (v := ?_) (a' := ?_) (bz 12 31) rfl rfl (by kernel_rfl) (fun _ _ _ h => h) (Or.inl ⟨by rfl, ?_⟩) hHeld ?_ ?_
  rotate_left
  · rintro w' ⟨s0, s1⟩
    go_simp
    with_reducible rfl
  rotate_left
  · simp only [Act.put, sa_, sb_, sc_]
    rfl
  refine take_ (i := 5) (N := (some 36)) (v := ?_) (a' := ?_) (bz 12 63) rfl rfl (by kernel_rfl) (fun _ _ _ h => h) (Or.inl ⟨by rfl, ?_⟩) hHeld ?_ ?_
  rotate_left
  · rintro w' ⟨s0, s1⟩
    go_simp
    with_reducible rfl
  rotate_left
  · simp only [Act.put, sa_, sb_, sc_]
    rfl
  refine one_ (i := 6) (N := (some 37)) (bz 12 127) rfl rfl (by kernel_rfl) (by decide) (fun K hK => ?_)
  refine look_ (by rfl) rfl _ _ 104 rfl 3 46 kInt_law Tryz.underlying104 Tryz.underlying46 (Tryz.zeroValue46 _) bn _ DN rfl (World.ownsMap.drew hown) _ hRN (f.of a) rfl hk3 ?_
  refine hK.out _ _ ⟨cn0, cb3⟩ (fun hHeld => ?_)
  clear hK K
  refine norm_ (a' := ?_) ?_ ?_
  rotate_left
  · show Act.put _ (some 37) _ = _
    simp only [Act.put, sa_, sb_, sc_]
    rfl
  refine pure_ (i := 7) (N := (some 30)) (v := ?_) (a' := ?_) (bz 12 255) rfl rfl (by kernel_rfl) (fun _ _ _ h => h) (Or.inl ⟨by rfl, ?_⟩) ?_ ?_
  rotate_left
  · intro w'
    go_simp
    with_reducible rfl
  rotate_left
  · simp only [Act.put, sa_, sb_, sc_]
    rfl
  refine pure_ (i := 8) (N := (some 38)) (v := ?_) (a' := ?_) (bz 12 511) rfl rfl (by kernel_rfl) (fun _ _ _ h => h) (Or.inl ⟨by rfl, ?_⟩) ?_ ?_
  rotate_left
  · intro w'
    go_simp
    with_reducible rfl
  rotate_left
  · simp only [Act.put, sa_, sb_, sc_]
    rfl
  refine pure_ (i := 9) (N := (some 39)) (v := ?_) (a' := ?_) (bz 12 1023) rfl rfl (by kernel_rfl) (fun _ _ _ h => h) (Or.inl ⟨by rfl, ?_⟩) ?_ ?_
  rotate_left
  · intro w'
    go_simp
    with_reducible rfl
  rotate_left
  · simp only [Act.put, sa_, sb_, sc_]
    rfl
  refine pure_ (i := 10) (N := (some 6)) (v := ?_) (a' := ?_) (bz 12 2047) rfl rfl (by kernel_rfl) (fun _ _ _ h => h) (Or.inl ⟨by rfl, ?_⟩) ?_ ?_
  rotate_left
  · intro w'
    go_simp
    with_reducible rfl
  rotate_left
  · simp only [Act.put, sa_, sb_, sc_]
    rfl
  refine pure_ (i := 11) (N := (some 7)) (v := ?_) (a' := ?_) (bz 12 4095) rfl rfl (by kernel_rfl) (fun _ _ _ h => h) (Or.inl ⟨by rfl, ?_⟩) ?_ ?_
  rotate_left
  · intro w'
    go_simp
    with_reducible rfl
  rotate_left
  · simp only [Act.put, sa_, sb_, sc_]
    rfl
  refine done_ (by kernel_rfl) ?_
  go_upto_region 7 with (fail)
  refine start_ (n := 12) (S := fun w' => w'.cell? ⟨p, 0, none⟩ = some (.map (some bn)) ∧ w'.cell? ⟨w.heap.size, 4, none⟩ = some (.int .i64 (f.of b))) (ds := []) (bz 12 0) (by kernel_rfl) rfl rfl ⟨cn0, cb4⟩ (fun hHeld => ?_)
  refine pure_ (i := 0) (N := (some 41)) (v := ?_) (a' := ?_) (bz 12 1) rfl rfl (by kernel_rfl) (fun _ _ _ h => h) (Or.inl ⟨by rfl, ?_⟩) ?_ ?_
  rotate_left
  · intro w'
    go_simp
    with_reducible rfl
  rotate_left
  · simp only [Act.put, sa_, sb_, sc_]
    rfl
  refine pure_ (i := 1) (N := (some 42)) (v := ?_) (a' := ?_) (bz 12 3) rfl rfl (by kernel_rfl) (fun _ _ _ h => h) (Or.inl ⟨by rfl, ?_⟩) ?_ ?_
  rotate_left
  · intro w'
    go_simp
    with_reducible rfl
  rotate_left
  · simp only [Act.put, sa_, sb_, sc_]
    rfl
  refine pure_ (i := 2) (N := (some 43)) (v := ?_) (a' := ?_) (bz 12 7) rfl rfl (by kernel_rfl) (fun _ _ _ h => h) (Or.inl ⟨by rfl, ?_⟩) ?_ ?_
  rotate_left
  · intro w'
    go_simp
    with_reducible rfl
  rotate_left
  · simp only [Act.put, sa_, sb_, sc_]
    rfl
  refine pure_ (i := 4) (N := (some 45)) (v := ?_) (a' := ?_) (bz 12 23) rfl rfl (by kernel_rfl) (fun _ _ _ h => h) (Or.inl ⟨by rfl, ?_⟩) ?_ ?_
  rotate_left
  · intro w'
    go_simp
    with_reducible rfl
  rotate_left
  · simp only [Act.put, sa_, sb_, sc_]
    rfl
  refine take_ (i := 3) (N := (some 44)) (v := ?_) (a' := ?_) (bz 12 31) rfl rfl (by kernel_rfl) (fun _ _ _ h => h) (Or.inl ⟨by rfl, ?_⟩) hHeld ?_ ?_
  rotate_left
  · rintro w' ⟨s0, s1⟩
    go_simp
    with_reducible rfl
  rotate_left
  · simp only [Act.put, sa_, sb_, sc_]
    rfl
  refine take_ (i := 5) (N := (some 46)) (v := ?_) (a' := ?_) (bz 12 63) rfl rfl (by kernel_rfl) (fun _ _ _ h => h) (Or.inl ⟨by rfl, ?_⟩) hHeld ?_ ?_
  rotate_left
  · rintro w' ⟨s0, s1⟩
    go_simp
    with_reducible rfl
  rotate_left
  · simp only [Act.put, sa_, sb_, sc_]
    rfl
  refine one_ (i := 6) (N := (some 47)) (bz 12 127) rfl rfl (by kernel_rfl) (by decide) (fun K hK => ?_)
  refine look_ (by rfl) rfl _ _ 104 rfl 3 46 kInt_law Tryz.underlying104 Tryz.underlying46 (Tryz.zeroValue46 _) bn _ DN rfl (World.ownsMap.drew (World.ownsMap.drew hown)) _ hRN (f.of b) rfl hk4 ?_
  refine hK.out _ _ ⟨cn0, cb4⟩ (fun hHeld => ?_)
  clear hK K
  refine norm_ (a' := ?_) ?_ ?_
  rotate_left
  · show Act.put _ (some 47) _ = _
    simp only [Act.put, sa_, sb_, sc_]
    rfl
  refine pure_ (i := 7) (N := (some 40)) (v := ?_) (a' := ?_) (bz 12 255) rfl rfl (by kernel_rfl) (fun _ _ _ h => h) (Or.inl ⟨by rfl, ?_⟩) ?_ ?_
  rotate_left
  · intro w'
    go_simp
    with_reducible rfl
  rotate_left
  · simp only [Act.put, sa_, sb_, sc_]
    rfl
  refine pure_ (i := 8) (N := (some 48)) (v := ?_) (a' := ?_) (bz 12 511) rfl rfl (by kernel_rfl) (fun _ _ _ h => h) (Or.inl ⟨by rfl, ?_⟩) ?_ ?_
  rotate_left
  · intro w'
    go_simp
    with_reducible rfl
  rotate_left
  · simp only [Act.put, sa_, sb_, sc_]
    rfl
  refine pure_ (i := 9) (N := (some 49)) (v := ?_) (a' := ?_) (bz 12 1023) rfl rfl (by kernel_rfl) (fun _ _ _ h => h) (Or.inl ⟨by rfl, ?_⟩) ?_ ?_
  rotate_left
  · intro w'
    go_simp
    with_reducible rfl
  rotate_left
  · simp only [Act.put, sa_, sb_, sc_]
    rfl
  refine pure_ (i := 10) (N := (some 8)) (v := ?_) (a' := ?_) (bz 12 2047) rfl rfl (by kernel_rfl) (fun _ _ _ h => h) (Or.inl ⟨by rfl, ?_⟩) ?_ ?_
  rotate_left
  · intro w'
    go_simp
    with_reducible rfl
  rotate_left
  · simp only [Act.put, sa_, sb_, sc_]
    rfl
  refine pure_ (i := 11) (N := (some 9)) (v := ?_) (a' := ?_) (bz 12 4095) rfl rfl (by kernel_rfl) (fun _ _ _ h => h) (Or.inl ⟨by rfl, ?_⟩) ?_ ?_
  rotate_left
  · intro w'
    go_simp
    with_reducible rfl
  rotate_left
  · simp only [Act.put, sa_, sb_, sc_]
    rfl
  refine done_ (by kernel_rfl) ?_
  have hF8 := hF7.drew.drew
  clear hF7 cn0 cb3 cb4 hown
  generalize w7.drew.drew = w8 at hF8 ⊢
  have C8 := hF8.B.cell
  go_wp2_with (go_at_call 76; go_must (refine (HS.out _ _ _ _ _ _).mono ?_); rintro e w9 ⟨rfl, hb9⟩; rw [hset]; have hF9 := hF8.below hb9; have C9 := hF9.B.cell; have Z9 := hF9.Z.cell; have fz := hF9.Z.free)
  obtain ⟨e1, e2, e3⟩ := hF9.post (.int .u8 k) (.int .u8 fn) (.int .i64 d) (.int .i64 (f.of a)) (.int .i64 (f.of b)) (.int .u64 imm)
  exact fold_end rfl e1 rfl ⟨rfl, e2, e3⟩
set_option maxRecDepth 100000 in
set_option maxHeartbeats 4000000 in
theorem fold_n1 {w : World} {p bn bs n : Nat} {f : Fx} (h : Fcts w p bn bs n f) (k : Int) (fn d a b imm : Int) (hk : k = 8 ∨ k = 11) (hn : n ≤ 100000) (ho : OpW n ⟨k, fn, d, a, b, imm⟩) :
    Calls Tryz.prog 55 #[.pointer (some ⟨p, 0, none⟩), .agg (opC k fn d a b imm)] w (FoldPost w p bn bs n f ⟨k, fn, d, a, b, imm⟩) := by
  have hlen : (asksL ⟨k, fn, d, a, b, imm⟩).length = 1 := by rcases hk with rfl | rfl <;> rfl
  have hask : askN k = 1 := by rcases hk with rfl | rfl <;> rfl
  have hset : setsB k = false := by rcases hk with rfl | rfl <;> rfl
  have h1 : (k == 1) = false := by rcases hk with rfl | rfl <;> rfl
  have h2 : (k == 2) = false := by rcases hk with rfl | rfl <;> rfl
  have h3 : (k == 3) = false := by rcases hk with rfl | rfl <;> rfl
  have hk13 : (k : Int) = 1 ∨ (k : Int) = 2 ∨ (k : Int) = 3 ∨ (k : Int) = 4 ∨ (k : Int) = 5 ∨ (k : Int) = 6 ∨ (k : Int) = 7 ∨ (k : Int) = 8 ∨ (k : Int) = 9 ∨ (k : Int) = 10 ∨ (k : Int) = 11 ∨ (k : Int) = 12 ∨ (k : Int) = 13 := by omega
  have ha : 0 ≤ a ∧ a < (n : Int) := ho.hi.a (show 0 < askN k by omega)
  have ra := h.st.of ha
  have hb : -1 < b ∧ b < 1 := by have : b = 0 := ho.bz (show askN k ≤ 1 by omega); omega
  have hfo : foldO f ⟨k, fn, d, a, b, imm⟩ = ⟨k, fn, d, f.of a, b, imm⟩ := by rcases hk with rfl | rfl <;> rfl
  have hff : foldF f (⟨k, fn, d, f.of a, b, imm⟩) = f := by unfold foldF; exact if_pos hset
  unfold FoldPost
  rw [hfo, hff]
  obtain ⟨w1, hw1, hF1⟩ := fw_begin h (opC k fn d a b imm)
  have HA := Lib.hid (fun w => asks_lit k hk13 fn d a b imm w)
  have HO := Lib.hid (fun w (h : Fcts w p bn bs n f) v h0 h1 => of_c h v h0 h1)
  have HS := Lib.hid (fun k fn a b imm w => sets_c k fn d a b imm w)
  clear hfo hff
  go_enter Tryz.func55, Tryz.ntmps55
  go_upto_region 1 with (fail)
  rw [← hw1]
  clear hw1
  have C1 := hF1.B.cell
  go_upto_region 2 with (go_at_call 74; go_must (refine (HA.out _).mono ?_); rintro e w3 ⟨A, c, rfl, hb3, -⟩; rw [hlen])
  have hF3 := hF1.below hb3
  clear hF1 hb3 C1
  have C3 := hF3.B.cell
  go_upto_region 6 with (go_at_call 56; go_must (refine (HO.out _ hF3.F a (by omega) (by omega)).mono ?_); rintro e w4 ⟨rfl, hb4⟩; have C4 := (hF3.below hb4).B.cell; have f4 := (hF3.below hb4).B.free 3)
  have hF5 : FW w (w4.setCell ⟨w.heap.size, 3, none⟩ (.int .i64 (f.of a))) p bn bs n f (opC k fn d (f.of a) b imm) := (hF3.below hb4).setB 3 _
  clear hF3 hb4 C3 C4 f4
  generalize w4.setCell ⟨w.heap.size, 3, none⟩ (.int .i64 (f.of a)) = w5 at hF5 ⊢
  generalize w5 = w7 at hF5 ⊢
  have hF7 := hF5
  clear hF5
  obtain ⟨DN, hown, hRN⟩ := hF7.F.nm
  have cn0 : w7.cell? ⟨p, 0, none⟩ = some (.map (some bn)) := hF7.F.pc.cell 0
  have cb3 : w7.cell? ⟨w.heap.size, 3, none⟩ = some (.int .i64 (f.of a)) := hF7.B.cell 3
  have cb4 : w7.cell? ⟨w.heap.size, 4, none⟩ = some (.int .i64 (b)) := hF7.B.cell 4
  have hk3 := keyI (x := f.of a) (by omega) (by omega)
  have hk4 := keyI (x := b) (by omega) (by omega)
  refine start_ (n := 12) (S := fun w' => w'.cell? ⟨p, 0, none⟩ = some (.map (some bn)) ∧ w'.cell? ⟨w.heap.size, 3, none⟩ = some (.int .i64 (f.of a))) (ds := []) (bz 12 0) (by kernel_rfl) rfl rfl ⟨cn0, cb3⟩ (fun hHeld => ?_)
  refine pure_ (i := 0) (N := (some 31)) (v := ?_) (a' := ?_) (bz 12 1) rfl rfl (by kernel_rfl) (fun _ _ _ h => h) (Or.inl ⟨by rfl, ?_⟩) ?_ ?_
  rotate_left
  · intro w'
    go_simp
    with_reducible rfl
  rotate_left
  · simp only [Act.put, sa_, sb_, sc_]
    rfl
  refine pure_ (i := 1) (N := (some 32)) (v := ?_) (a' := ?_) (bz 12 3) rfl rfl (by kernel_rfl) (fun _ _ _ h => h) (Or.inl ⟨by rfl, ?_⟩) ?_ ?_
  rotate_left
  · intro w'
    go_simp
    with_reducible rfl
  rotate_left
  · simp only [Act.put, sa_, sb_, sc_]
    rfl
  refine pure_ (i := 2) (N := (some 33)) (v := ?_) (a' := ?_) (bz 12 7) rfl rfl (by kernel_rfl) (fun _ _ _ h => h) (Or.inl ⟨by rfl, ?_⟩) ?_ ?_
  rotate_left
  · intro w'
    go_simp
    with_reducible rfl
  rotate_left
  · simp only [Act.put, sa_, sb_, sc_]
    rfl
  refine pure_ (i := 4) (N := (some 35)) (v := ?_) (a' := ?_) (bz 12 23) rfl rfl (by kernel_rfl) (fun _ _ _ h => h) (Or.inl ⟨by rfl, ?_⟩) ?_ ?_
  rotate_left
  · intro w'
    go_simp
    with_reducible rfl
  rotate_left
  · simp only [Act.put, sa_, sb_, sc_]
    rfl
  refine take_ (i := 3) (N := (some 34)) (v := ?_) (a' := ?_) (bz 12 31) rfl rfl (by kernel_rfl) (fun _ _ _ h => h) (Or.inl ⟨by rfl, ?_⟩) hHeld ?_ ?_
  rotate_left
  · rintro w' ⟨s0, s1⟩
    go_simp
    with_reducible rfl
  rotate_left
  · simp only [Act.put, sa_, sb_, sc_]
    rfl
  refine take_ (i := 5) (N := (some 36)) (v := ?_) (a' := ?_) (bz 12 63) rfl rfl (by kernel_rfl) (fun _ _ _ h => h) (Or.inl ⟨by rfl, ?_⟩) hHeld ?_ ?_
  rotate_left
  · rintro w' ⟨s0, s1⟩
    go_simp
    with_reducible rfl
  rotate_left
  · simp only [Act.put, sa_, sb_, sc_]
    rfl
  refine one_ (i := 6) (N := (some 37)) (bz 12 127) rfl rfl (by kernel_rfl) (by decide) (fun K hK => ?_)
  refine look_ (by rfl) rfl _ _ 104 rfl 3 46 kInt_law Tryz.underlying104 Tryz.underlying46 (Tryz.zeroValue46 _) bn _ DN rfl (World.ownsMap.drew hown) _ hRN (f.of a) rfl hk3 ?_
  refine hK.out _ _ ⟨cn0, cb3⟩ (fun hHeld => ?_)
  clear hK K
  refine norm_ (a' := ?_) ?_ ?_
  rotate_left
  · show Act.put _ (some 37) _ = _
    simp only [Act.put, sa_, sb_, sc_]
    rfl
  refine pure_ (i := 7) (N := (some 30)) (v := ?_) (a' := ?_) (bz 12 255) rfl rfl (by kernel_rfl) (fun _ _ _ h => h) (Or.inl ⟨by rfl, ?_⟩) ?_ ?_
  rotate_left
  · intro w'
    go_simp
    with_reducible rfl
  rotate_left
  · simp only [Act.put, sa_, sb_, sc_]
    rfl
  refine pure_ (i := 8) (N := (some 38)) (v := ?_) (a' := ?_) (bz 12 511) rfl rfl (by kernel_rfl) (fun _ _ _ h => h) (Or.inl ⟨by rfl, ?_⟩) ?_ ?_
  rotate_left
  · intro w'
    go_simp
    with_reducible rfl
  rotate_left
  · simp only [Act.put, sa_, sb_, sc_]
    rfl
  refine pure_ (i := 9) (N := (some 39)) (v := ?_) (a' := ?_) (bz 12 1023) rfl rfl (by kernel_rfl) (fun _ _ _ h => h) (Or.inl ⟨by rfl, ?_⟩) ?_ ?_
  rotate_left
  · intro w'
    go_simp
    with_reducible rfl
  rotate_left
  · simp only [Act.put, sa_, sb_, sc_]
    rfl
  refine pure_ (i := 10) (N := (some 6)) (v := ?_) (a' := ?_) (bz 12 2047) rfl rfl (by kernel_rfl) (fun _ _ _ h => h) (Or.inl ⟨by rfl, ?_⟩) ?_ ?_
  rotate_left
  · intro w'
    go_simp
    with_reducible rfl
  rotate_left
  · simp only [Act.put, sa_, sb_, sc_]
    rfl
  refine pure_ (i := 11) (N := (some 7)) (v := ?_) (a' := ?_) (bz 12 4095) rfl rfl (by kernel_rfl) (fun _ _ _ h => h) (Or.inl ⟨by rfl, ?_⟩) ?_ ?_
  rotate_left
  · intro w'
    go_simp
    with_reducible rfl
  rotate_left
  · simp only [Act.put, sa_, sb_, sc_]
    rfl
  refine done_ (by kernel_rfl) ?_
  go_upto_region 7 with (fail)
  refine start_ (n := 12) (S := fun w' => w'.cell? ⟨p, 0, none⟩ = some (.map (some bn)) ∧ w'.cell? ⟨w.heap.size, 4, none⟩ = some (.int .i64 (b))) (ds := []) (bz 12 0) (by kernel_rfl) rfl rfl ⟨cn0, cb4⟩ (fun hHeld => ?_)
  refine pure_ (i := 0) (N := (some 41)) (v := ?_) (a' := ?_) (bz 12 1) rfl rfl (by kernel_rfl) (fun _ _ _ h => h) (Or.inl ⟨by rfl, ?_⟩) ?_ ?_
  rotate_left
  · intro w'
    go_simp
    with_reducible rfl
  rotate_left
  · simp only [Act.put, sa_, sb_, sc_]
    rfl
  refine pure_ (i := 1) (N := (some 42)) (v := ?_) (a' := ?_) (bz 12 3) rfl rfl (by kernel_rfl) (fun _ _ _ h => h) (Or.inl ⟨by rfl, ?_⟩) ?_ ?_
  rotate_left
  · intro w'
    go_simp
    with_reducible rfl
  rotate_left
  · simp only [Act.put, sa_, sb_, sc_]
    rfl
  refine pure_ (i := 2) (N := (some 43)) (v := ?_) (a' := ?_) (bz 12 7) rfl rfl (by kernel_rfl) (fun _ _ _ h => h) (Or.inl ⟨by rfl, ?_⟩) ?_ ?_
  rotate_left
  · intro w'
    go_simp
    with_reducible rfl
  rotate_left
  · simp only [Act.put, sa_, sb_, sc_]
    rfl
  refine pure_ (i := 4) (N := (some 45)) (v := ?_) (a' := ?_) (bz 12 23) rfl rfl (by kernel_rfl) (fun _ _ _ h => h) (Or.inl ⟨by rfl, ?_⟩) ?_ ?_
  rotate_left
  · intro w'
    go_simp
    with_reducible rfl
  rotate_left
  · simp only [Act.put, sa_, sb_, sc_]
    rfl
  refine take_ (i := 3) (N := (some 44)) (v := ?_) (a' := ?_) (bz 12 31) rfl rfl (by kernel_rfl) (fun _ _ _ h => h) (Or.inl ⟨by rfl, ?_⟩) hHeld ?_ ?_
  rotate_left
  · rintro w' ⟨s0, s1⟩
    go_simp
    with_reducible rfl
  rotate_left
  · simp only [Act.put, sa_, sb_, sc_]
    rfl
  refine take_ (i := 5) (N := (some 46)) (v := ?_) (a' := ?_) (bz 12 63) rfl rfl (by kernel_rfl) (fun _ _ _ h => h) (Or.inl ⟨by rfl, ?_⟩) hHeld ?_ ?_
  rotate_left
  · rintro w' ⟨s0, s1⟩
    go_simp
    with_reducible rfl
  rotate_left
  · simp only [Act.put, sa_, sb_, sc_]
    rfl
  refine one_ (i := 6) (N := (some 47)) (bz 12 127) rfl rfl (by kernel_rfl) (by decide) (fun K hK => ?_)
  refine look_ (by rfl) rfl _ _ 104 rfl 3 46 kInt_law Tryz.underlying104 Tryz.underlying46 (Tryz.zeroValue46 _) bn _ DN rfl (World.ownsMap.drew (World.ownsMap.drew hown)) _ hRN (b) rfl hk4 ?_
  refine hK.out _ _ ⟨cn0, cb4⟩ (fun hHeld => ?_)
  clear hK K
  refine norm_ (a' := ?_) ?_ ?_
  rotate_left
  · show Act.put _ (some 47) _ = _
    simp only [Act.put, sa_, sb_, sc_]
    rfl
  refine pure_ (i := 7) (N := (some 40)) (v := ?_) (a' := ?_) (bz 12 255) rfl rfl (by kernel_rfl) (fun _ _ _ h => h) (Or.inl ⟨by rfl, ?_⟩) ?_ ?_
  rotate_left
  · intro w'
    go_simp
    with_reducible rfl
  rotate_left
  · simp only [Act.put, sa_, sb_, sc_]
    rfl
  refine pure_ (i := 8) (N := (some 48)) (v := ?_) (a' := ?_) (bz 12 511) rfl rfl (by kernel_rfl) (fun _ _ _ h => h) (Or.inl ⟨by rfl, ?_⟩) ?_ ?_
  rotate_left
  · intro w'
    go_simp
    with_reducible rfl
  rotate_left
  · simp only [Act.put, sa_, sb_, sc_]
    rfl
  refine pure_ (i := 9) (N := (some 49)) (v := ?_) (a' := ?_) (bz 12 1023) rfl rfl (by kernel_rfl) (fun _ _ _ h => h) (Or.inl ⟨by rfl, ?_⟩) ?_ ?_
  rotate_left
  · intro w'
    go_simp
    with_reducible rfl
  rotate_left
  · simp only [Act.put, sa_, sb_, sc_]
    rfl
  refine pure_ (i := 10) (N := (some 8)) (v := ?_) (a' := ?_) (bz 12 2047) rfl rfl (by kernel_rfl) (fun _ _ _ h => h) (Or.inl ⟨by rfl, ?_⟩) ?_ ?_
  rotate_left
  · intro w'
    go_simp
    with_reducible rfl
  rotate_left
  · simp only [Act.put, sa_, sb_, sc_]
    rfl
  refine pure_ (i := 11) (N := (some 9)) (v := ?_) (a' := ?_) (bz 12 4095) rfl rfl (by kernel_rfl) (fun _ _ _ h => h) (Or.inl ⟨by rfl, ?_⟩) ?_ ?_
  rotate_left
  · intro w'
    go_simp
    with_reducible rfl
  rotate_left
  · simp only [Act.put, sa_, sb_, sc_]
    rfl
  refine done_ (by kernel_rfl) ?_
  have hF8 := hF7.drew.drew
  clear hF7 cn0 cb3 cb4 hown
  generalize w7.drew.drew = w8 at hF8 ⊢
  have C8 := hF8.B.cell
  go_wp2_with (go_at_call 76; go_must (refine (HS.out _ _ _ _ _ _).mono ?_); rintro e w9 ⟨rfl, hb9⟩; rw [hset]; have hF9 := hF8.below hb9; have C9 := hF9.B.cell; have Z9 := hF9.Z.cell; have fz := hF9.Z.free)
  obtain ⟨e1, e2, e3⟩ := hF9.post (.int .u8 k) (.int .u8 fn) (.int .i64 d) (.int .i64 (f.of a)) (.int .i64 b) (.int .u64 imm)
  exact fold_end rfl e1 rfl ⟨rfl, e2, e3⟩
set_option maxRecDepth 100000 in
set_option maxHeartbeats 4000000 in
theorem fold_n0 {w : World} {p bn bs n : Nat} {f : Fx} (h : Fcts w p bn bs n f) (fn d a b imm : Int) (hn : n ≤ 100000) (ho : OpW n ⟨13, fn, d, a, b, imm⟩) :
    Calls Tryz.prog 55 #[.pointer (some ⟨p, 0, none⟩), .agg (opC 13 fn d a b imm)] w (FoldPost w p bn bs n f ⟨13, fn, d, a, b, imm⟩) := by
  have hlen : (asksL ⟨13, fn, d, a, b, imm⟩).length = 0 := by rfl
  have hask : askN 13 = 0 := by rfl
  have hset : setsB 13 = false := by rfl
  have hk13 : (13 : Int) = 1 ∨ (13 : Int) = 2 ∨ (13 : Int) = 3 ∨ (13 : Int) = 4 ∨ (13 : Int) = 5 ∨ (13 : Int) = 6 ∨ (13 : Int) = 7 ∨ (13 : Int) = 8 ∨ (13 : Int) = 9 ∨ (13 : Int) = 10 ∨ (13 : Int) = 11 ∨ (13 : Int) = 12 ∨ (13 : Int) = 13 := by decide
  have ha : -1 < a ∧ a < 1 := by have : a = 0 := ho.az hask; omega
  have hb : -1 < b ∧ b < 1 := by have : b = 0 := ho.bz (show askN 13 ≤ 1 by omega); omega
  have hfo : foldO f ⟨13, fn, d, a, b, imm⟩ = ⟨13, fn, d, a, b, imm⟩ := by rfl
  have hff : foldF f (⟨13, fn, d, a, b, imm⟩) = f := by rfl
  unfold FoldPost
  rw [hfo, hff]
  obtain ⟨w1, hw1, hF1⟩ := fw_begin h (opC 13 fn d a b imm)
  have HA := Lib.hid (fun w => asks_lit 13 hk13 fn d a b imm w)
  have HO := Lib.hid (fun w (h : Fcts w p bn bs n f) v h0 h1 => of_c h v h0 h1)
  have HS := Lib.hid (fun k fn a b imm w => sets_c k fn d a b imm w)
  clear hfo hff
  go_enter Tryz.func55, Tryz.ntmps55
  go_upto_region 1 with (fail)
  rw [← hw1]
  clear hw1
  have C1 := hF1.B.cell
  go_upto_region 6 with (go_at_call 74; go_must (refine (HA.out _).mono ?_); rintro e w3 ⟨A, c, rfl, hb3, -⟩; rw [hlen])
  have hF3 := hF1.below hb3
  clear hF1 hb3 C1
  generalize w3 = w7 at hF3 ⊢
  have hF7 := hF3
  clear hF3
  obtain ⟨DN, hown, hRN⟩ := hF7.F.nm
  have cn0 : w7.cell? ⟨p, 0, none⟩ = some (.map (some bn)) := hF7.F.pc.cell 0
  have cb3 : w7.cell? ⟨w.heap.size, 3, none⟩ = some (.int .i64 (a)) := hF7.B.cell 3
  have cb4 : w7.cell? ⟨w.heap.size, 4, none⟩ = some (.int .i64 (b)) := hF7.B.cell 4
  have hk3 := keyI (x := a) (by omega) (by omega)
  have hk4 := keyI (x := b) (by omega) (by omega)
  refine start_ (n := 12) (S := fun w' => w'.cell? ⟨p, 0, none⟩ = some (.map (some bn)) ∧ w'.cell? ⟨w.heap.size, 3, none⟩ = some (.int .i64 (a))) (ds := []) (bz 12 0) (by kernel_rfl) rfl rfl ⟨cn0, cb3⟩ (fun hHeld => ?_)
  refine pure_ (i := 0) (N := (some 31)) (v := ?_) (a' := ?_) (bz 12 1) rfl rfl (by kernel_rfl) (fun _ _ _ h => h) (Or.inl ⟨by rfl, ?_⟩) ?_ ?_
  rotate_left
  · intro w'
    go_simp
    with_reducible rfl
  rotate_left
  · simp only [Act.put, sa_, sb_, sc_]
    rfl
  refine pure_ (i := 1) (N := (some 32)) (v := ?_) (a' := ?_) (bz 12 3) rfl rfl (by kernel_rfl) (fun _ _ _ h => h) (Or.inl ⟨by rfl, ?_⟩) ?_ ?_
  rotate_left
  · intro w'
    go_simp
    with_reducible rfl
  rotate_left
  · simp only [Act.put, sa_, sb_, sc_]
    rfl
  refine pure_ (i := 2) (N := (some 33)) (v := ?_) (a' := ?_) (bz 12 7) rfl rfl (by kernel_rfl) (fun _ _ _ h => h) (Or.inl ⟨by rfl, ?_⟩) ?_ ?_
  rotate_left
  · intro w'
    go_simp
    with_reducible rfl
  rotate_left
  · simp only [Act.put, sa_, sb_, sc_]
    rfl
  refine pure_ (i := 4) (N := (some 35)) (v := ?_) (a' := ?_) (bz 12 23) rfl rfl (by kernel_rfl) (fun _ _ _ h => h) (Or.inl ⟨by rfl, ?_⟩) ?_ ?_
  rotate_left
  · intro w'
    go_simp
    with_reducible rfl
  rotate_left
  · simp only [Act.put, sa_, sb_, sc_]
    rfl
  refine take_ (i := 3) (N := (some 34)) (v := ?_) (a' := ?_) (bz 12 31) rfl rfl (by kernel_rfl) (fun _ _ _ h => h) (Or.inl ⟨by rfl, ?_⟩) hHeld ?_ ?_
  rotate_left
  · rintro w' ⟨s0, s1⟩
    go_simp
    with_reducible rfl
  rotate_left
  · simp only [Act.put, sa_, sb_, sc_]
    rfl
  refine take_ (i := 5) (N := (some 36)) (v := ?_) (a' := ?_) (bz 12 63) rfl rfl (by kernel_rfl) (fun _ _ _ h => h) (Or.inl ⟨by rfl, ?_⟩) hHeld ?_ ?_
  rotate_left
  · rintro w' ⟨s0, s1⟩
    go_simp
    with_reducible rfl
  rotate_left
  · simp only [Act.put, sa_, sb_, sc_]
    rfl
  refine one_ (i := 6) (N := (some 37)) (bz 12 127) rfl rfl (by kernel_rfl) (by decide) (fun K hK => ?_)
  refine look_ (by rfl) rfl _ _ 104 rfl 3 46 kInt_law Tryz.underlying104 Tryz.underlying46 (Tryz.zeroValue46 _) bn _ DN rfl (World.ownsMap.drew hown) _ hRN (a) rfl hk3 ?_
  refine hK.out _ _ ⟨cn0, cb3⟩ (fun hHeld => ?_)
  clear hK K
  refine norm_ (a' := ?_) ?_ ?_
  rotate_left
  · show Act.put _ (some 37) _ = _
    simp only [Act.put, sa_, sb_, sc_]
    rfl
  refine pure_ (i := 7) (N := (some 30)) (v := ?_) (a' := ?_) (bz 12 255) rfl rfl (by kernel_rfl) (fun _ _ _ h => h) (Or.inl ⟨by rfl, ?_⟩) ?_ ?_
  rotate_left
  · intro w'
    go_simp
    with_reducible rfl
  rotate_left
  · simp only [Act.put, sa_, sb_, sc_]
    rfl
  refine pure_ (i := 8) (N := (some 38)) (v := ?_) (a' := ?_) (bz 12 511) rfl rfl (by kernel_rfl) (fun _ _ _ h => h) (Or.inl ⟨by rfl, ?_⟩) ?_ ?_
  rotate_left
  · intro w'
    go_simp
    with_reducible rfl
  rotate_left
  · simp only [Act.put, sa_, sb_, sc_]
    rfl
  refine pure_ (i := 9) (N := (some 39)) (v := ?_) (a' := ?_) (bz 12 1023) rfl rfl (by kernel_rfl) (fun _ _ _ h => h) (Or.inl ⟨by rfl, ?_⟩) ?_ ?_
  rotate_left
  · intro w'
    go_simp
    with_reducible rfl
  rotate_left
  · simp only [Act.put, sa_, sb_, sc_]
    rfl
  refine pure_ (i := 10) (N := (some 6)) (v := ?_) (a' := ?_) (bz 12 2047) rfl rfl (by kernel_rfl) (fun _ _ _ h => h) (Or.inl ⟨by rfl, ?_⟩) ?_ ?_
  rotate_left
  · intro w'
    go_simp
    with_reducible rfl
  rotate_left
  · simp only [Act.put, sa_, sb_, sc_]
    rfl
  refine pure_ (i := 11) (N := (some 7)) (v := ?_) (a' := ?_) (bz 12 4095) rfl rfl (by kernel_rfl) (fun _ _ _ h => h) (Or.inl ⟨by rfl, ?_⟩) ?_ ?_
  rotate_left
  · intro w'
    go_simp
    with_reducible rfl
  rotate_left
  · simp only [Act.put, sa_, sb_, sc_]
    rfl
  refine done_ (by kernel_rfl) ?_
  go_upto_region 7 with (fail)
  refine start_ (n := 12) (S := fun w' => w'.cell? ⟨p, 0, none⟩ = some (.map (some bn)) ∧ w'.cell? ⟨w.heap.size, 4, none⟩ = some (.int .i64 (b))) (ds := []) (bz 12 0) (by kernel_rfl) rfl rfl ⟨cn0, cb4⟩ (fun hHeld => ?_)
  refine pure_ (i := 0) (N := (some 41)) (v := ?_) (a' := ?_) (bz 12 1) rfl rfl (by kernel_rfl) (fun _ _ _ h => h) (Or.inl ⟨by rfl, ?_⟩) ?_ ?_
  rotate_left
  · intro w'
    go_simp
    with_reducible rfl
  rotate_left
  · simp only [Act.put, sa_, sb_, sc_]
    rfl
  refine pure_ (i := 1) (N := (some 42)) (v := ?_) (a' := ?_) (bz 12 3) rfl rfl (by kernel_rfl) (fun _ _ _ h => h) (Or.inl ⟨by rfl, ?_⟩) ?_ ?_
  rotate_left
  · intro w'
    go_simp
    with_reducible rfl
  rotate_left
  · simp only [Act.put, sa_, sb_, sc_]
    rfl
  refine pure_ (i := 2) (N := (some 43)) (v := ?_) (a' := ?_) (bz 12 7) rfl rfl (by kernel_rfl) (fun _ _ _ h => h) (Or.inl ⟨by rfl, ?_⟩) ?_ ?_
  rotate_left
  · intro w'
    go_simp
    with_reducible rfl
  rotate_left
  · simp only [Act.put, sa_, sb_, sc_]
    rfl
  refine pure_ (i := 4) (N := (some 45)) (v := ?_) (a' := ?_) (bz 12 23) rfl rfl (by kernel_rfl) (fun _ _ _ h => h) (Or.inl ⟨by rfl, ?_⟩) ?_ ?_
  rotate_left
  · intro w'
    go_simp
    with_reducible rfl
  rotate_left
  · simp only [Act.put, sa_, sb_, sc_]
    rfl
  refine take_ (i := 3) (N := (some 44)) (v := ?_) (a' := ?_) (bz 12 31) rfl rfl (by kernel_rfl) (fun _ _ _ h => h) (Or.inl ⟨by rfl, ?_⟩) hHeld ?_ ?_
  rotate_left
  · rintro w' ⟨s0, s1⟩
    go_simp
    with_reducible rfl
  rotate_left
  · simp only [Act.put, sa_, sb_, sc_]
    rfl
  refine take_ (i := 5) (N := (some 46)) (v := ?_) (a' := ?_) (bz 12 63) rfl rfl (by kernel_rfl) (fun _ _ _ h => h) (Or.inl ⟨by rfl, ?_⟩) hHeld ?_ ?_
  rotate_left
  · rintro w' ⟨s0, s1⟩
    go_simp
    with_reducible rfl
  rotate_left
  · simp only [Act.put, sa_, sb_, sc_]
    rfl
  refine one_ (i := 6) (N := (some 47)) (bz 12 127) rfl rfl (by kernel_rfl) (by decide) (fun K hK => ?_)
  refine look_ (by rfl) rfl _ _ 104 rfl 3 46 kInt_law Tryz.underlying104 Tryz.underlying46 (Tryz.zeroValue46 _) bn _ DN rfl (World.ownsMap.drew (World.ownsMap.drew hown)) _ hRN (b) rfl hk4 ?_
  refine hK.out _ _ ⟨cn0, cb4⟩ (fun hHeld => ?_)
  clear hK K
  refine norm_ (a' := ?_) ?_ ?_
  rotate_left
  · show Act.put _ (some 47) _ = _
    simp only [Act.put, sa_, sb_, sc_]
    rfl
  refine pure_ (i := 7) (N := (some 40)) (v := ?_) (a' := ?_) (bz 12 255) rfl rfl (by kernel_rfl) (fun _ _ _ h => h) (Or.inl ⟨by rfl, ?_⟩) ?_ ?_
  rotate_left
  · intro w'
    go_simp
    with_reducible rfl
  rotate_left
  · simp only [Act.put, sa_, sb_, sc_]
    rfl
  refine pure_ (i := 8) (N := (some 48)) (v := ?_) (a' := ?_) (bz 12 511) rfl rfl (by kernel_rfl) (fun _ _ _ h => h) (Or.inl ⟨by rfl, ?_⟩) ?_ ?_
  rotate_left
  · intro w'
    go_simp
    with_reducible rfl
  rotate_left
  · simp only [Act.put, sa_, sb_, sc_]
    rfl
  refine pure_ (i := 9) (N := (some 49)) (v := ?_) (a' := ?_) (bz 12 1023) rfl rfl (by kernel_rfl) (fun _ _ _ h => h) (Or.inl ⟨by rfl, ?_⟩) ?_ ?_
  rotate_left
  · intro w'
    go_simp
    with_reducible rfl
  rotate_left
  · simp only [Act.put, sa_, sb_, sc_]
    rfl
  refine pure_ (i := 10) (N := (some 8)) (v := ?_) (a' := ?_) (bz 12 2047) rfl rfl (by kernel_rfl) (fun _ _ _ h => h) (Or.inl ⟨by rfl, ?_⟩) ?_ ?_
  rotate_left
  · intro w'
    go_simp
    with_reducible rfl
  rotate_left
  · simp only [Act.put, sa_, sb_, sc_]
    rfl
  refine pure_ (i := 11) (N := (some 9)) (v := ?_) (a' := ?_) (bz 12 4095) rfl rfl (by kernel_rfl) (fun _ _ _ h => h) (Or.inl ⟨by rfl, ?_⟩) ?_ ?_
  rotate_left
  · intro w'
    go_simp
    with_reducible rfl
  rotate_left
  · simp only [Act.put, sa_, sb_, sc_]
    rfl
  refine done_ (by kernel_rfl) ?_
  have hF8 := hF7.drew.drew
  clear hF7 cn0 cb3 cb4 hown
  generalize w7.drew.drew = w8 at hF8 ⊢
  have C8 := hF8.B.cell
  go_wp2_with (go_at_call 76; go_must (refine (HS.out _ _ _ _ _ _).mono ?_); rintro e w9 ⟨rfl, hb9⟩; rw [hset]; have hF9 := hF8.below hb9; have C9 := hF9.B.cell; have Z9 := hF9.Z.cell; have fz := hF9.Z.free)
  obtain ⟨e1, e2, e3⟩ := hF9.post (.int .u8 13) (.int .u8 fn) (.int .i64 d) (.int .i64 a) (.int .i64 b) (.int .u64 imm)
  exact fold_end rfl e1 rfl ⟨rfl, e2, e3⟩
set_option maxRecDepth 100000 in
set_option maxHeartbeats 4000000 in
theorem fold_s1 {w : World} {p bn bs n : Nat} {f : Fx} (h : Fcts w p bn bs n f) (k : Int) (fn d a b imm : Int) (hk : k = 4 ∨ k = 9 ∨ k = 12) (hn : n ≤ 100000) (ho : OpW n ⟨k, fn, d, a, b, imm⟩) :
    Calls Tryz.prog 55 #[.pointer (some ⟨p, 0, none⟩), .agg (opC k fn d a b imm)] w (FoldPost w p bn bs n f ⟨k, fn, d, a, b, imm⟩) := by
  have hlen : (asksL ⟨k, fn, d, a, b, imm⟩).length = 1 := by rcases hk with rfl | rfl | rfl <;> rfl
  have hask : askN k = 1 := by rcases hk with rfl | rfl | rfl <;> rfl
  have hset : setsB k = true := by rcases hk with rfl | rfl | rfl <;> rfl
  have h1 : (k == 1) = false := by rcases hk with rfl | rfl | rfl <;> rfl
  have h2 : (k == 2) = false := by rcases hk with rfl | rfl | rfl <;> rfl
  have h3 : (k == 3) = false := by rcases hk with rfl | rfl | rfl <;> rfl
  have hk13 : (k : Int) = 1 ∨ (k : Int) = 2 ∨ (k : Int) = 3 ∨ (k : Int) = 4 ∨ (k : Int) = 5 ∨ (k : Int) = 6 ∨ (k : Int) = 7 ∨ (k : Int) = 8 ∨ (k : Int) = 9 ∨ (k : Int) = 10 ∨ (k : Int) = 11 ∨ (k : Int) = 12 ∨ (k : Int) = 13 := by omega
  have ha : 0 ≤ a ∧ a < (n : Int) := ho.hi.a (show 0 < askN k by omega)
  have ra := h.st.of ha
  have hb : -1 < b ∧ b < 1 := by have : b = 0 := ho.bz (show askN k ≤ 1 by omega); omega
  have hd : 0 ≤ d ∧ d < (n : Int) := ho.hi.d (show setsB k = true by rcases hk with rfl | rfl | rfl <;> rfl)
  have hfo : foldO f ⟨k, fn, d, a, b, imm⟩ = ⟨k, fn, d, f.of a, b, imm⟩ := by rcases hk with rfl | rfl | rfl <;> rfl
  have hff : foldF f (⟨k, fn, d, f.of a, b, imm⟩) = f.set d := by rcases hk with rfl | rfl | rfl <;> rfl
  unfold FoldPost
  rw [hfo, hff]
  obtain ⟨w1, hw1, hF1⟩ := fw_begin h (opC k fn d a b imm)
  have HA := Lib.hid (fun w => asks_lit k hk13 fn d a b imm w)
  have HO := Lib.hid (fun w (h : Fcts w p bn bs n f) v h0 h1 => of_c h v h0 h1)
  have HS := Lib.hid (fun k fn a b imm w => sets_c k fn d a b imm w)
  clear hfo hff
  go_enter Tryz.func55, Tryz.ntmps55
  go_upto_region 1 with (fail)
  rw [← hw1]
  clear hw1
  have C1 := hF1.B.cell
  go_upto_region 2 with (go_at_call 74; go_must (refine (HA.out _).mono ?_); rintro e w3 ⟨A, c, rfl, hb3, -⟩; rw [hlen])
  have hF3 := hF1.below hb3
  clear hF1 hb3 C1
  have C3 := hF3.B.cell
  go_upto_region 6 with (go_at_call 56; go_must (refine (HO.out _ hF3.F a (by omega) (by omega)).mono ?_); rintro e w4 ⟨rfl, hb4⟩; have C4 := (hF3.below hb4).B.cell; have f4 := (hF3.below hb4).B.free 3)
  have hF5 : FW w (w4.setCell ⟨w.heap.size, 3, none⟩ (.int .i64 (f.of a))) p bn bs n f (opC k fn d (f.of a) b imm) := (hF3.below hb4).setB 3 _
  clear hF3 hb4 C3 C4 f4
  generalize w4.setCell ⟨w.heap.size, 3, none⟩ (.int .i64 (f.of a)) = w5 at hF5 ⊢
  generalize w5 = w7 at hF5 ⊢
  have hF7 := hF5
  clear hF5
  obtain ⟨DN, hown, hRN⟩ := hF7.F.nm
  have cn0 : w7.cell? ⟨p, 0, none⟩ = some (.map (some bn)) := hF7.F.pc.cell 0
  have cb3 : w7.cell? ⟨w.heap.size, 3, none⟩ = some (.int .i64 (f.of a)) := hF7.B.cell 3
  have cb4 : w7.cell? ⟨w.heap.size, 4, none⟩ = some (.int .i64 (b)) := hF7.B.cell 4
  have hk3 := keyI (x := f.of a) (by omega) (by omega)
  have hk4 := keyI (x := b) (by omega) (by omega)
  refine start_ (n := 12) (S := fun w' => w'.cell? ⟨p, 0, none⟩ = some (.map (some bn)) ∧ w'.cell? ⟨w.heap.size, 3, none⟩ = some (.int .i64 (f.of a))) (ds := []) (bz 12 0) (by kernel_rfl) rfl rfl ⟨cn0, cb3⟩ (fun hHeld => ?_)
  refine pure_ (i := 0) (N := (some 31)) (v := ?_) (a' := ?_) (bz 12 1) rfl rfl (by kernel_rfl) (fun _ _ _ h => h) (Or.inl ⟨by rfl, ?_⟩) ?_ ?_
  rotate_left
  · intro w'
    go_simp
    with_reducible rfl
  rotate_left
  · simp only [Act.put, sa_, sb_, sc_]
    rfl
  refine pure_ (i := 1) (N := (some 32)) (v := ?_) (a' := ?_) (bz 12 3) rfl rfl (by kernel_rfl) (fun _ _ _ h => h) (Or.inl ⟨by rfl, ?_⟩) ?_ ?_
  rotate_left
  · intro w'
    go_simp
    with_reducible rfl
  rotate_left
  · simp only [Act.put, sa_, sb_, sc_]
    rfl
  refine pure_ (i := 2) (N := (some 33)) (v := ?_) (a' := ?_) (bz 12 7) rfl rfl (by kernel_rfl) (fun _ _ _ h => h) (Or.inl ⟨by rfl, ?_⟩) ?_ ?_
  rotate_left
  · intro w'
    go_simp
    with_reducible rfl
  rotate_left
  · simp only [Act.put, sa_, sb_, sc_]
    rfl
  refine pure_ (i := 4) (N := (some 35)) (v := ?_) (a' := ?_) (bz 12 23) rfl rfl (by kernel_rfl) (fun _ _ _ h => h) (Or.inl ⟨by rfl, ?_⟩) ?_ ?_
  rotate_left
  · intro w'
    go_simp
    with_reducible rfl
  rotate_left
  · simp only [Act.put, sa_, sb_, sc_]
    rfl
  refine take_ (i := 3) (N := (some 34)) (v := ?_) (a' := ?_) (bz 12 31) rfl rfl (by kernel_rfl) (fun _ _ _ h => h) (Or.inl ⟨by rfl, ?_⟩) hHeld ?_ ?_
  rotate_left
  · rintro w' ⟨s0, s1⟩
    go_simp
    with_reducible rfl
  rotate_left
  · simp only [Act.put, sa_, sb_, sc_]
    rfl
  refine take_ (i := 5) (N := (some 36)) (v := ?_) (a' := ?_) (bz 12 63) rfl rfl (by kernel_rfl) (fun _ _ _ h => h) (Or.inl ⟨by rfl, ?_⟩) hHeld ?_ ?_
  rotate_left
  · rintro w' ⟨s0, s1⟩
    go_simp
    with_reducible rfl
  rotate_left
  · simp only [Act.put, sa_, sb_, sc_]
    rfl
  refine one_ (i := 6) (N := (some 37)) (bz 12 127) rfl rfl (by kernel_rfl) (by decide) (fun K hK => ?_)
  refine look_ (by rfl) rfl _ _ 104 rfl 3 46 kInt_law Tryz.underlying104 Tryz.underlying46 (Tryz.zeroValue46 _) bn _ DN rfl (World.ownsMap.drew hown) _ hRN (f.of a) rfl hk3 ?_
  refine hK.out _ _ ⟨cn0, cb3⟩ (fun hHeld => ?_)
  clear hK K
  refine norm_ (a' := ?_) ?_ ?_
  rotate_left
  · show Act.put _ (some 37) _ = _
    simp only [Act.put, sa_, sb_, sc_]
    rfl
  refine pure_ (i := 7) (N := (some 30)) (v := ?_) (a' := ?_) (bz 12 255) rfl rfl (by kernel_rfl) (fun _ _ _ h => h) (Or.inl ⟨by rfl, ?_⟩) ?_ ?_
  rotate_left
  · intro w'
    go_simp
    with_reducible rfl
  rotate_left
  · simp only [Act.put, sa_, sb_, sc_]
    rfl
  refine pure_ (i := 8) (N := (some 38)) (v := ?_) (a' := ?_) (bz 12 511) rfl rfl (by kernel_rfl) (fun _ _ _ h => h) (Or.inl ⟨by rfl, ?_⟩) ?_ ?_
  rotate_left
  · intro w'
    go_simp
    with_reducible rfl
  rotate_left
  · simp only [Act.put, sa_, sb_, sc_]
    rfl
  refine pure_ (i := 9) (N := (some 39)) (v := ?_) (a' := ?_) (bz 12 1023) rfl rfl (by kernel_rfl) (fun _ _ _ h => h) (Or.inl ⟨by rfl, ?_⟩) ?_ ?_
  rotate_left
  · intro w'
    go_simp
    with_reducible rfl
  rotate_left
  · simp only [Act.put, sa_, sb_, sc_]
    rfl
  refine pure_ (i := 10) (N := (some 6)) (v := ?_) (a' := ?_) (bz 12 2047) rfl rfl (by kernel_rfl) (fun _ _ _ h => h) (Or.inl ⟨by rfl, ?_⟩) ?_ ?_
  rotate_left
  · intro w'
    go_simp
    with_reducible rfl
  rotate_left
  · simp only [Act.put, sa_, sb_, sc_]
    rfl
  refine pure_ (i := 11) (N := (some 7)) (v := ?_) (a' := ?_) (bz 12 4095) rfl rfl (by kernel_rfl) (fun _ _ _ h => h) (Or.inl ⟨by rfl, ?_⟩) ?_ ?_
  rotate_left
  · intro w'
    go_simp
    with_reducible rfl
  rotate_left
  · simp only [Act.put, sa_, sb_, sc_]
    rfl
  refine done_ (by kernel_rfl) ?_
  go_upto_region 7 with (fail)
  refine start_ (n := 12) (S := fun w' => w'.cell? ⟨p, 0, none⟩ = some (.map (some bn)) ∧ w'.cell? ⟨w.heap.size, 4, none⟩ = some (.int .i64 (b))) (ds := []) (bz 12 0) (by kernel_rfl) rfl rfl ⟨cn0, cb4⟩ (fun hHeld => ?_)
  refine pure_ (i := 0) (N := (some 41)) (v := ?_) (a' := ?_) (bz 12 1) rfl rfl (by kernel_rfl) (fun _ _ _ h => h) (Or.inl ⟨by rfl, ?_⟩) ?_ ?_
  rotate_left
  · intro w'
    go_simp
    with_reducible rfl
  rotate_left
  · simp only [Act.put, sa_, sb_, sc_]
    rfl
  refine pure_ (i := 1) (N := (some 42)) (v := ?_) (a' := ?_) (bz 12 3) rfl rfl (by kernel_rfl) (fun _ _ _ h => h) (Or.inl ⟨by rfl, ?_⟩) ?_ ?_
  rotate_left
  · intro w'
    go_simp
    with_reducible rfl
  rotate_left
  · simp only [Act.put, sa_, sb_, sc_]
    rfl
  refine pure_ (i := 2) (N := (some 43)) (v := ?_) (a' := ?_) (bz 12 7) rfl rfl (by kernel_rfl) (fun _ _ _ h => h) (Or.inl ⟨by rfl, ?_⟩) ?_ ?_
  rotate_left
  · intro w'
    go_simp
    with_reducible rfl
  rotate_left
  · simp only [Act.put, sa_, sb_, sc_]
    rfl
  refine pure_ (i := 4) (N := (some 45)) (v := ?_) (a' := ?_) (bz 12 23) rfl rfl (by kernel_rfl) (fun _ _ _ h => h) (Or.inl ⟨by rfl, ?_⟩) ?_ ?_
  rotate_left
  · intro w'
    go_simp
    with_reducible rfl
  rotate_left
  · simp only [Act.put, sa_, sb_, sc_]
    rfl
  refine take_ (i := 3) (N := (some 44)) (v := ?_) (a' := ?_) (bz 12 31) rfl rfl (by kernel_rfl) (fun _ _ _ h => h) (Or.inl ⟨by rfl, ?_⟩) hHeld ?_ ?_
  rotate_left
  · rintro w' ⟨s0, s1⟩
    go_simp
    with_reducible rfl
  rotate_left
  · simp only [Act.put, sa_, sb_, sc_]
    rfl
  refine take_ (i := 5) (N := (some 46)) (v := ?_) (a' := ?_) (bz 12 63) rfl rfl (by kernel_rfl) (fun _ _ _ h => h) (Or.inl ⟨by rfl, ?_⟩) hHeld ?_ ?_
  rotate_left
  · rintro w' ⟨s0, s1⟩
    go_simp
    with_reducible rfl
  rotate_left
  · simp only [Act.put, sa_, sb_, sc_]
    rfl
  refine one_ (i := 6) (N := (some 47)) (bz 12 127) rfl rfl (by kernel_rfl) (by decide) (fun K hK => ?_)
  refine look_ (by rfl) rfl _ _ 104 rfl 3 46 kInt_law Tryz.underlying104 Tryz.underlying46 (Tryz.zeroValue46 _) bn _ DN rfl (World.ownsMap.drew (World.ownsMap.drew hown)) _ hRN (b) rfl hk4 ?_
  refine hK.out _ _ ⟨cn0, cb4⟩ (fun hHeld => ?_)
  clear hK K
  refine norm_ (a' := ?_) ?_ ?_
  rotate_left
  · show Act.put _ (some 47) _ = _
    simp only [Act.put, sa_, sb_, sc_]
    rfl
  refine pure_ (i := 7) (N := (some 40)) (v := ?_) (a' := ?_) (bz 12 255) rfl rfl (by kernel_rfl) (fun _ _ _ h => h) (Or.inl ⟨by rfl, ?_⟩) ?_ ?_
  rotate_left
  · intro w'
    go_simp
    with_reducible rfl
  rotate_left
  · simp only [Act.put, sa_, sb_, sc_]
    rfl
  refine pure_ (i := 8) (N := (some 48)) (v := ?_) (a' := ?_) (bz 12 511) rfl rfl (by kernel_rfl) (fun _ _ _ h => h) (Or.inl ⟨by rfl, ?_⟩) ?_ ?_
  rotate_left
  · intro w'
    go_simp
    with_reducible rfl
  rotate_left
  · simp only [Act.put, sa_, sb_, sc_]
    rfl
  refine pure_ (i := 9) (N := (some 49)) (v := ?_) (a' := ?_) (bz 12 1023) rfl rfl (by kernel_rfl) (fun _ _ _ h => h) (Or.inl ⟨by rfl, ?_⟩) ?_ ?_
  rotate_left
  · intro w'
    go_simp
    with_reducible rfl
  rotate_left
  · simp only [Act.put, sa_, sb_, sc_]
    rfl
  refine pure_ (i := 10) (N := (some 8)) (v := ?_) (a' := ?_) (bz 12 2047) rfl rfl (by kernel_rfl) (fun _ _ _ h => h) (Or.inl ⟨by rfl, ?_⟩) ?_ ?_
  rotate_left
  · intro w'
    go_simp
    with_reducible rfl
  rotate_left
  · simp only [Act.put, sa_, sb_, sc_]
    rfl
  refine pure_ (i := 11) (N := (some 9)) (v := ?_) (a' := ?_) (bz 12 4095) rfl rfl (by kernel_rfl) (fun _ _ _ h => h) (Or.inl ⟨by rfl, ?_⟩) ?_ ?_
  rotate_left
  · intro w'
    go_simp
    with_reducible rfl
  rotate_left
  · simp only [Act.put, sa_, sb_, sc_]
    rfl
  refine done_ (by kernel_rfl) ?_
  have hF8 := hF7.drew.drew
  clear hF7 cn0 cb3 cb4 hown
  generalize w7.drew.drew = w8 at hF8 ⊢
  have C8 := hF8.B.cell
  go_wp2_with (first | (go_at_call 76; go_must (refine (HS.out _ _ _ _ _ _).mono ?_); rintro e w9 ⟨rfl, hb9⟩; rw [hset]; have hF9 := hF8.below hb9; have C9 := hF9.B.cell; have Z9 := hF9.Z.cell; have fz := hF9.Z.free) | (go_at_call 77; go_must (refine (set_c hF9.F d (by omega) (by omega)).mono ?_); rintro e w10 ⟨rfl, hG10, hT10⟩; have hF10 := hF9.turn hG10 hT10; have C10 := hF10.B.cell; have Z10 := hF10.Z.cell; have fz10 := hF10.Z.free))
  obtain ⟨e1, e2, e3⟩ := hF10.post (.int .u8 k) (.int .u8 fn) (.int .i64 d) (.int .i64 (f.of a)) (.int .i64 b) (.int .u64 imm)
  exact fold_end rfl e1 rfl ⟨rfl, e2, e3⟩
set_option maxRecDepth 100000 in
set_option maxHeartbeats 4000000 in
theorem fold_c1 {w : World} {p bn bs n : Nat} {f : Fx} (h : Fcts w p bn bs n f) (fn d a b imm : Int) (hn : n ≤ 100000) (ho : OpW n ⟨1, fn, d, a, b, imm⟩) :
    Calls Tryz.prog 55 #[.pointer (some ⟨p, 0, none⟩), .agg (opC 1 fn d a b imm)] w (FoldPost w p bn bs n f ⟨1, fn, d, a, b, imm⟩) := by
  have hlen : (asksL ⟨1, fn, d, a, b, imm⟩).length = 0 := by rfl
  have hask : askN 1 = 0 := by rfl
  have hset : setsB 1 = true := by rfl
  have hk13 : (1 : Int) = 1 ∨ (1 : Int) = 2 ∨ (1 : Int) = 3 ∨ (1 : Int) = 4 ∨ (1 : Int) = 5 ∨ (1 : Int) = 6 ∨ (1 : Int) = 7 ∨ (1 : Int) = 8 ∨ (1 : Int) = 9 ∨ (1 : Int) = 10 ∨ (1 : Int) = 11 ∨ (1 : Int) = 12 ∨ (1 : Int) = 13 := by decide
  have ha : -1 < a ∧ a < 1 := by have : a = 0 := ho.az hask; omega
  have hb : -1 < b ∧ b < 1 := by have : b = 0 := ho.bz (show askN 1 ≤ 1 by omega); omega
  have hd : 0 ≤ d ∧ d < (n : Int) := ho.hi.d (show setsB 1 = true by rfl)
  have himm := ho.imm
  simp only at himm
  have hfo : foldO f ⟨1, fn, d, a, b, imm⟩ = ⟨1, fn, d, a, b, imm⟩ := by rfl
  have hff : foldF f (⟨1, fn, d, a, b, imm⟩) = (f.set d).num d imm := by rfl
  unfold FoldPost
  rw [hfo, hff]
  obtain ⟨w1, hw1, hF1⟩ := fw_begin h (opC 1 fn d a b imm)
  have HA := Lib.hid (fun w => asks_lit 1 hk13 fn d a b imm w)
  have HO := Lib.hid (fun w (h : Fcts w p bn bs n f) v h0 h1 => of_c h v h0 h1)
  have HS := Lib.hid (fun k fn a b imm w => sets_c k fn d a b imm w)
  clear hfo hff
  go_enter Tryz.func55, Tryz.ntmps55
  go_upto_region 1 with (fail)
  rw [← hw1]
  clear hw1
  have C1 := hF1.B.cell
  go_upto_region 6 with (go_at_call 74; go_must (refine (HA.out _).mono ?_); rintro e w3 ⟨A, c, rfl, hb3, -⟩; rw [hlen])
  have hF3 := hF1.below hb3
  clear hF1 hb3 C1
  generalize w3 = w7 at hF3 ⊢
  have hF7 := hF3
  clear hF3
  obtain ⟨DN, hown, hRN⟩ := hF7.F.nm
  have cn0 : w7.cell? ⟨p, 0, none⟩ = some (.map (some bn)) := hF7.F.pc.cell 0
  have cb3 : w7.cell? ⟨w.heap.size, 3, none⟩ = some (.int .i64 (a)) := hF7.B.cell 3
  have cb4 : w7.cell? ⟨w.heap.size, 4, none⟩ = some (.int .i64 (b)) := hF7.B.cell 4
  have hk3 := keyI (x := a) (by omega) (by omega)
  have hk4 := keyI (x := b) (by omega) (by omega)
  refine start_ (n := 12) (S := fun w' => w'.cell? ⟨p, 0, none⟩ = some (.map (some bn)) ∧ w'.cell? ⟨w.heap.size, 3, none⟩ = some (.int .i64 (a))) (ds := []) (bz 12 0) (by kernel_rfl) rfl rfl ⟨cn0, cb3⟩ (fun hHeld => ?_)
  refine pure_ (i := 0) (N := (some 31)) (v := ?_) (a' := ?_) (bz 12 1) rfl rfl (by kernel_rfl) (fun _ _ _ h => h) (Or.inl ⟨by rfl, ?_⟩) ?_ ?_
  rotate_left
  · intro w'
    go_simp
    with_reducible rfl
  rotate_left
  · simp only [Act.put, sa_, sb_, sc_]
    rfl
  refine pure_ (i := 1) (N := (some 32)) (v := ?_) (a' := ?_) (bz 12 3) rfl rfl (by kernel_rfl) (fun _ _ _ h => h) (Or.inl ⟨by rfl, ?_⟩) ?_ ?_
  rotate_left
  · intro w'
    go_simp
    with_reducible rfl
  rotate_left
  · simp only [Act.put, sa_, sb_, sc_]
    rfl
  refine pure_ (i := 2) (N := (some 33)) (v := ?_) (a' := ?_) (bz 12 7) rfl rfl (by kernel_rfl) (fun _ _ _ h => h) (Or.inl ⟨by rfl, ?_⟩) ?_ ?_
  rotate_left
  · intro w'
    go_simp
    with_reducible rfl
  rotate_left
  · simp only [Act.put, sa_, sb_, sc_]
    rfl
  refine pure_ (i := 4) (N := (some 35)) (v := ?_) (a' := ?_) (bz 12 23) rfl rfl (by kernel_rfl) (fun _ _ _ h => h) (Or.inl ⟨by rfl, ?_⟩) ?_ ?_
  rotate_left
  · intro w'
    go_simp
    with_reducible rfl
  rotate_left
  · simp only [Act.put, sa_, sb_, sc_]
    rfl
  refine take_ (i := 3) (N := (some 34)) (v := ?_) (a' := ?_) (bz 12 31) rfl rfl (by kernel_rfl) (fun _ _ _ h => h) (Or.inl ⟨by rfl, ?_⟩) hHeld ?_ ?_
  rotate_left
  · rintro w' ⟨s0, s1⟩
    go_simp
    with_reducible rfl
  rotate_left
  · simp only [Act.put, sa_, sb_, sc_]
    rfl
  refine take_ (i := 5) (N := (some 36)) (v := ?_) (a' := ?_) (bz 12 63) rfl rfl (by kernel_rfl) (fun _ _ _ h => h) (Or.inl ⟨by rfl, ?_⟩) hHeld ?_ ?_
  rotate_left
  · rintro w' ⟨s0, s1⟩
    go_simp
    with_reducible rfl
  rotate_left
  · simp only [Act.put, sa_, sb_, sc_]
    rfl
  refine one_ (i := 6) (N := (some 37)) (bz 12 127) rfl rfl (by kernel_rfl) (by decide) (fun K hK => ?_)
  refine look_ (by rfl) rfl _ _ 104 rfl 3 46 kInt_law Tryz.underlying104 Tryz.underlying46 (Tryz.zeroValue46 _) bn _ DN rfl (World.ownsMap.drew hown) _ hRN (a) rfl hk3 ?_
  refine hK.out _ _ ⟨cn0, cb3⟩ (fun hHeld => ?_)
  clear hK K
  refine norm_ (a' := ?_) ?_ ?_
  rotate_left
  · show Act.put _ (some 37) _ = _
    simp only [Act.put, sa_, sb_, sc_]
    rfl
  refine pure_ (i := 7) (N := (some 30)) (v := ?_) (a' := ?_) (bz 12 255) rfl rfl (by kernel_rfl) (fun _ _ _ h => h) (Or.inl ⟨by rfl, ?_⟩) ?_ ?_
  rotate_left
  · intro w'
    go_simp
    with_reducible rfl
  rotate_left
  · simp only [Act.put, sa_, sb_, sc_]
    rfl
  refine pure_ (i := 8) (N := (some 38)) (v := ?_) (a' := ?_) (bz 12 511) rfl rfl (by kernel_rfl) (fun _ _ _ h => h) (Or.inl ⟨by rfl, ?_⟩) ?_ ?_
  rotate_left
  · intro w'
    go_simp
    with_reducible rfl
  rotate_left
  · simp only [Act.put, sa_, sb_, sc_]
    rfl
  refine pure_ (i := 9) (N := (some 39)) (v := ?_) (a' := ?_) (bz 12 1023) rfl rfl (by kernel_rfl) (fun _ _ _ h => h) (Or.inl ⟨by rfl, ?_⟩) ?_ ?_
  rotate_left
  · intro w'
    go_simp
    with_reducible rfl
  rotate_left
  · simp only [Act.put, sa_, sb_, sc_]
    rfl
  refine pure_ (i := 10) (N := (some 6)) (v := ?_) (a' := ?_) (bz 12 2047) rfl rfl (by kernel_rfl) (fun _ _ _ h => h) (Or.inl ⟨by rfl, ?_⟩) ?_ ?_
  rotate_left
  · intro w'
    go_simp
    with_reducible rfl
  rotate_left
  · simp only [Act.put, sa_, sb_, sc_]
    rfl
  refine pure_ (i := 11) (N := (some 7)) (v := ?_) (a' := ?_) (bz 12 4095) rfl rfl (by kernel_rfl) (fun _ _ _ h => h) (Or.inl ⟨by rfl, ?_⟩) ?_ ?_
  rotate_left
  · intro w'
    go_simp
    with_reducible rfl
  rotate_left
  · simp only [Act.put, sa_, sb_, sc_]
    rfl
  refine done_ (by kernel_rfl) ?_
  go_upto_region 7 with (fail)
  refine start_ (n := 12) (S := fun w' => w'.cell? ⟨p, 0, none⟩ = some (.map (some bn)) ∧ w'.cell? ⟨w.heap.size, 4, none⟩ = some (.int .i64 (b))) (ds := []) (bz 12 0) (by kernel_rfl) rfl rfl ⟨cn0, cb4⟩ (fun hHeld => ?_)
  refine pure_ (i := 0) (N := (some 41)) (v := ?_) (a' := ?_) (bz 12 1) rfl rfl (by kernel_rfl) (fun _ _ _ h => h) (Or.inl ⟨by rfl, ?_⟩) ?_ ?_
  rotate_left
  · intro w'
    go_simp
    with_reducible rfl
  rotate_left
  · simp only [Act.put, sa_, sb_, sc_]
    rfl
  refine pure_ (i := 1) (N := (some 42)) (v := ?_) (a' := ?_) (bz 12 3) rfl rfl (by kernel_rfl) (fun _ _ _ h => h) (Or.inl ⟨by rfl, ?_⟩) ?_ ?_
  rotate_left
  · intro w'
    go_simp
    with_reducible rfl
  rotate_left
  · simp only [Act.put, sa_, sb_, sc_]
    rfl
  refine pure_ (i := 2) (N := (some 43)) (v := ?_) (a' := ?_) (bz 12 7) rfl rfl (by kernel_rfl) (fun _ _ _ h => h) (Or.inl ⟨by rfl, ?_⟩) ?_ ?_
  rotate_left
  · intro w'
    go_simp
    with_reducible rfl
  rotate_left
  · simp only [Act.put, sa_, sb_, sc_]
    rfl
  refine pure_ (i := 4) (N := (some 45)) (v := ?_) (a' := ?_) (bz 12 23) rfl rfl (by kernel_rfl) (fun _ _ _ h => h) (Or.inl ⟨by rfl, ?_⟩) ?_ ?_
  rotate_left
  · intro w'
    go_simp
    with_reducible rfl
  rotate_left
  · simp only [Act.put, sa_, sb_, sc_]
    rfl
  refine take_ (i := 3) (N := (some 44)) (v := ?_) (a' := ?_) (bz 12 31) rfl rfl (by kernel_rfl) (fun _ _ _ h => h) (Or.inl ⟨by rfl, ?_⟩) hHeld ?_ ?_
  rotate_left
  · rintro w' ⟨s0, s1⟩
    go_simp
    with_reducible rfl
  rotate_left
  · simp only [Act.put, sa_, sb_, sc_]
    rfl
  refine take_ (i := 5) (N := (some 46)) (v := ?_) (a' := ?_) (bz 12 63) rfl rfl (by kernel_rfl) (fun _ _ _ h => h) (Or.inl ⟨by rfl, ?_⟩) hHeld ?_ ?_
  rotate_left
  · rintro w' ⟨s0, s1⟩
    go_simp
    with_reducible rfl
  rotate_left
  · simp only [Act.put, sa_, sb_, sc_]
    rfl
  refine one_ (i := 6) (N := (some 47)) (bz 12 127) rfl rfl (by kernel_rfl) (by decide) (fun K hK => ?_)
  refine look_ (by rfl) rfl _ _ 104 rfl 3 46 kInt_law Tryz.underlying104 Tryz.underlying46 (Tryz.zeroValue46 _) bn _ DN rfl (World.ownsMap.drew (World.ownsMap.drew hown)) _ hRN (b) rfl hk4 ?_
  refine hK.out _ _ ⟨cn0, cb4⟩ (fun hHeld => ?_)
  clear hK K
  refine norm_ (a' := ?_) ?_ ?_
  rotate_left
  · show Act.put _ (some 47) _ = _
    simp only [Act.put, sa_, sb_, sc_]
    rfl
  refine pure_ (i := 7) (N := (some 40)) (v := ?_) (a' := ?_) (bz 12 255) rfl rfl (by kernel_rfl) (fun _ _ _ h => h) (Or.inl ⟨by rfl, ?_⟩) ?_ ?_
  rotate_left
  · intro w'
    go_simp
    with_reducible rfl
  rotate_left
  · simp only [Act.put, sa_, sb_, sc_]
    rfl
  refine pure_ (i := 8) (N := (some 48)) (v := ?_) (a' := ?_) (bz 12 511) rfl rfl (by kernel_rfl) (fun _ _ _ h => h) (Or.inl ⟨by rfl, ?_⟩) ?_ ?_
  rotate_left
  · intro w'
    go_simp
    with_reducible rfl
  rotate_left
  · simp only [Act.put, sa_, sb_, sc_]
    rfl
  refine pure_ (i := 9) (N := (some 49)) (v := ?_) (a' := ?_) (bz 12 1023) rfl rfl (by kernel_rfl) (fun _ _ _ h => h) (Or.inl ⟨by rfl, ?_⟩) ?_ ?_
  rotate_left
  · intro w'
    go_simp
    with_reducible rfl
  rotate_left
  · simp only [Act.put, sa_, sb_, sc_]
    rfl
  refine pure_ (i := 10) (N := (some 8)) (v := ?_) (a' := ?_) (bz 12 2047) rfl rfl (by kernel_rfl) (fun _ _ _ h => h) (Or.inl ⟨by rfl, ?_⟩) ?_ ?_
  rotate_left
  · intro w'
    go_simp
    with_reducible rfl
  rotate_left
  · simp only [Act.put, sa_, sb_, sc_]
    rfl
  refine pure_ (i := 11) (N := (some 9)) (v := ?_) (a' := ?_) (bz 12 4095) rfl rfl (by kernel_rfl) (fun _ _ _ h => h) (Or.inl ⟨by rfl, ?_⟩) ?_ ?_
  rotate_left
  · intro w'
    go_simp
    with_reducible rfl
  rotate_left
  · simp only [Act.put, sa_, sb_, sc_]
    rfl
  refine done_ (by kernel_rfl) ?_
  have hF8 := hF7.drew.drew
  clear hF7 cn0 cb3 cb4 hown
  generalize w7.drew.drew = w8 at hF8 ⊢
  have C8 := hF8.B.cell
  go_upto_region 18 with (first | (go_at_call 76; go_must (refine (HS.out _ _ _ _ _ _).mono ?_); rintro e w9 ⟨rfl, hb9⟩; rw [hset]; have hF9 := hF8.below hb9; have C9 := hF9.B.cell; have Z9 := hF9.Z.cell; have fz := hF9.Z.free) | (go_at_call 77; go_must (refine (set_c hF9.F d (by omega) (by omega)).mono ?_); rintro e w10 ⟨rfl, hG10, hT10⟩; have hF10 := hF9.turn hG10 hT10; have C10 := hF10.B.cell; have Z10 := hF10.Z.cell; have fz10 := hF10.Z.free))
  obtain ⟨D2, hown2, hR2⟩ := hF10.F.nm
  have sz2 := (hF10.F.sizes).1 D2 hR2
  have cn1 : w10.cell? ⟨p, 0, none⟩ = some (.map (some bn)) := hF10.F.pc.cell 0
  have cd2 : w10.cell? ⟨w.heap.size, 2, none⟩ = some (.int .i64 d) := hF10.B.cell 2
  have cx2 : w10.cell? ⟨w.heap.size, 5, none⟩ = some (.int .u64 (imm)) := hF10.B.cell 5
  have hkd := keyI (x := d) (by omega) (by omega)
  refine start_ (n := 9) (S := fun w' => w'.cell? ⟨p, 0, none⟩ = some (.map (some bn)) ∧ w'.cell? ⟨w.heap.size, 2, none⟩ = some (.int .i64 d) ∧ w'.cell? ⟨w.heap.size, 5, none⟩ = some (.int .u64 (imm))) (ds := [8]) (bz 9 0) (by kernel_rfl) rfl rfl ⟨cn1, cd2, cx2⟩ (fun hHeld => ?_)
  refine pure_ (i := 0) (N := (some 95)) (v := ?_) (a' := ?_) (bz 9 1) rfl rfl (by kernel_rfl) (fun _ _ _ h => h) (Or.inl ⟨by rfl, ?_⟩) ?_ ?_
  rotate_left
  · intro w'
    go_simp
    with_reducible rfl
  rotate_left
  · simp only [Act.put, sa_, sb_, sc_]
    rfl
  refine pure_ (i := 1) (N := (some 96)) (v := ?_) (a' := ?_) (bz 9 3) rfl rfl (by kernel_rfl) (fun _ _ _ h => h) (Or.inl ⟨by rfl, ?_⟩) ?_ ?_
  rotate_left
  · intro w'
    go_simp
    with_reducible rfl
  rotate_left
  · simp only [Act.put, sa_, sb_, sc_]
    rfl
  refine pure_ (i := 2) (N := (some 97)) (v := ?_) (a' := ?_) (bz 9 7) rfl rfl (by kernel_rfl) (fun _ _ _ h => h) (Or.inl ⟨by rfl, ?_⟩) ?_ ?_
  rotate_left
  · intro w'
    go_simp
    with_reducible rfl
  rotate_left
  · simp only [Act.put, sa_, sb_, sc_]
    rfl
  refine pure_ (i := 4) (N := (some 99)) (v := ?_) (a' := ?_) (bz 9 23) rfl rfl (by kernel_rfl) (fun _ _ _ h => h) (Or.inl ⟨by rfl, ?_⟩) ?_ ?_
  rotate_left
  · intro w'
    go_simp
    with_reducible rfl
  rotate_left
  · simp only [Act.put, sa_, sb_, sc_]
    rfl
  refine pure_ (i := 6) (N := (some 101)) (v := ?_) (a' := ?_) (bz 9 87) rfl rfl (by kernel_rfl) (fun _ _ _ h => h) (Or.inl ⟨by rfl, ?_⟩) ?_ ?_
  rotate_left
  · intro w'
    go_simp
    with_reducible rfl
  rotate_left
  · simp only [Act.put, sa_, sb_, sc_]
    rfl
  refine take_ (i := 3) (N := (some 98)) (v := ?_) (a' := ?_) (bz 9 95) rfl rfl (by kernel_rfl) (fun _ _ _ h => h) (Or.inl ⟨by rfl, ?_⟩) hHeld ?_ ?_
  rotate_left
  · rintro w' ⟨s0, s1, s2⟩
    go_simp
    with_reducible rfl
  rotate_left
  · simp only [Act.put, sa_, sb_, sc_]
    rfl
  refine take_ (i := 5) (N := (some 100)) (v := ?_) (a' := ?_) (bz 9 127) rfl rfl (by kernel_rfl) (fun _ _ _ h => h) (Or.inl ⟨by rfl, ?_⟩) hHeld ?_ ?_
  rotate_left
  · rintro w' ⟨s0, s1, s2⟩
    go_simp
    with_reducible rfl
  rotate_left
  · simp only [Act.put, sa_, sb_, sc_]
    rfl
  refine take_ (i := 7) (N := (some 102)) (v := ?_) (a' := ?_) (bz 9 255) rfl rfl (by kernel_rfl) (fun _ _ _ h => h) (Or.inl ⟨by rfl, ?_⟩) hHeld ?_ ?_
  rotate_left
  · rintro w' ⟨s0, s1, s2⟩
    go_simp
    with_reducible rfl
  rotate_left
  · simp only [Act.put, sa_, sb_, sc_]
    rfl
  refine last_ (i := 8) (N := none) (bz 9 511) rfl rfl (by kernel_rfl) (by decide) (fun K hK => ?_)
  refine update_ (by rfl) rfl _ _ _ 104 rfl 3 46 kInt_law Tryz.underlying104 _ bn _ D2 rfl (World.ownsMap.drew hown2) (by unfold maxLen; omega) _ (.int .u64 (imm)) _ rfl rfl hkd _ [] (plainElem_int Tryz.underlying46 (WalkArith.wf_u64 ⟨by omega, by omega⟩)) (fun w11 o11 t11 => ?_)
  refine hK.out _ _ ?_
  clear hK K
  refine done_ (by kernel_rfl) ?_
  have hF11 := hF10.drew.putN hR2 (imm) hd ⟨by omega, by omega⟩ o11 t11
  have C11 := hF11.B.cell
  have Z11 := hF11.Z.cell
  have fz11 := hF11.Z.free
  go_wp2_with fail
  obtain ⟨e1, e2, e3⟩ := hF11.post (.int .u8 1) (.int .u8 fn) (.int .i64 d) (.int .i64 a) (.int .i64 b) (.int .u64 imm)
  exact fold_end rfl e1 rfl ⟨rfl, e2, e3⟩
set_option maxRecDepth 100000 in
set_option maxHeartbeats 4000000 in
theorem fold_cm {w : World} {p bn bs n : Nat} {f : Fx} (h : Fcts w p bn bs n f) (fn d a b imm : Int) (x : Int) (hna : f.nums (f.of a) = some x) (hn : n ≤ 100000) (ho : OpW n ⟨2, fn, d, a, b, imm⟩) :
    Calls Tryz.prog 55 #[.pointer (some ⟨p, 0, none⟩), .agg (opC 2 fn d a b imm)] w (FoldPost w p bn bs n f ⟨2, fn, d, a, b, imm⟩) := by
  have hlen : (asksL ⟨2, fn, d, a, b, imm⟩).length = 1 := by rfl
  have hask : askN 2 = 1 := by rfl
  have hset : setsB 1 = true := by rfl
  have hk13 : (2 : Int) = 1 ∨ (2 : Int) = 2 ∨ (2 : Int) = 3 ∨ (2 : Int) = 4 ∨ (2 : Int) = 5 ∨ (2 : Int) = 6 ∨ (2 : Int) = 7 ∨ (2 : Int) = 8 ∨ (2 : Int) = 9 ∨ (2 : Int) = 10 ∨ (2 : Int) = 11 ∨ (2 : Int) = 12 ∨ (2 : Int) = 13 := by decide
  have ha : 0 ≤ a ∧ a < (n : Int) := ho.hi.a (show 0 < askN 2 by omega)
  have ra := h.st.of ha
  have hb : -1 < b ∧ b < 1 := by have : b = 0 := ho.bz (show askN 2 ≤ 1 by omega); omega
  have hd : 0 ≤ d ∧ d < (n : Int) := ho.hi.d (show setsB 2 = true by rfl)
  have hx := (h.st.nums _ _ hna).2
  have hfo : foldO f ⟨2, fn, d, a, b, imm⟩ = constOp d x := by simp [foldO, fold2, fold1, askN, hna]
  have hff : foldF f (constOp d x) = (f.set d).num d x := by simp [foldF, constOp, setsB]
  unfold FoldPost
  rw [hfo, hff]
  obtain ⟨w1, hw1, hF1⟩ := fw_begin h (opC 2 fn d a b imm)
  have HA := Lib.hid (fun w => asks_lit 2 hk13 fn d a b imm w)
  have HO := Lib.hid (fun w (h : Fcts w p bn bs n f) v h0 h1 => of_c h v h0 h1)
  have HS := Lib.hid (fun k fn a b imm w => sets_c k fn d a b imm w)
  clear hfo hff
  go_enter Tryz.func55, Tryz.ntmps55
  go_upto_region 1 with (fail)
  rw [← hw1]
  clear hw1
  have C1 := hF1.B.cell
  go_upto_region 2 with (go_at_call 74; go_must (refine (HA.out _).mono ?_); rintro e w3 ⟨A, c, rfl, hb3, -⟩; rw [hlen])
  have hF3 := hF1.below hb3
  clear hF1 hb3 C1
  have C3 := hF3.B.cell
  go_upto_region 6 with (go_at_call 56; go_must (refine (HO.out _ hF3.F a (by omega) (by omega)).mono ?_); rintro e w4 ⟨rfl, hb4⟩; have C4 := (hF3.below hb4).B.cell; have f4 := (hF3.below hb4).B.free 3)
  have hF5 : FW w (w4.setCell ⟨w.heap.size, 3, none⟩ (.int .i64 (f.of a))) p bn bs n f (opC 2 fn d (f.of a) b imm) := (hF3.below hb4).setB 3 _
  clear hF3 hb4 C3 C4 f4
  generalize w4.setCell ⟨w.heap.size, 3, none⟩ (.int .i64 (f.of a)) = w5 at hF5 ⊢
  generalize w5 = w7 at hF5 ⊢
  have hF7 := hF5
  clear hF5
  obtain ⟨DN, hown, hRN⟩ := hF7.F.nm
  have cn0 : w7.cell? ⟨p, 0, none⟩ = some (.map (some bn)) := hF7.F.pc.cell 0
  have cb3 : w7.cell? ⟨w.heap.size, 3, none⟩ = some (.int .i64 (f.of a)) := hF7.B.cell 3
  have cb4 : w7.cell? ⟨w.heap.size, 4, none⟩ = some (.int .i64 (b)) := hF7.B.cell 4
  have hk3 := keyI (x := f.of a) (by omega) (by omega)
  have hk4 := keyI (x := b) (by omega) (by omega)
  refine start_ (n := 12) (S := fun w' => w'.cell? ⟨p, 0, none⟩ = some (.map (some bn)) ∧ w'.cell? ⟨w.heap.size, 3, none⟩ = some (.int .i64 (f.of a))) (ds := []) (bz 12 0) (by kernel_rfl) rfl rfl ⟨cn0, cb3⟩ (fun hHeld => ?_)
  refine pure_ (i := 0) (N := (some 31)) (v := ?_) (a' := ?_) (bz 12 1) rfl rfl (by kernel_rfl) (fun _ _ _ h => h) (Or.inl ⟨by rfl, ?_⟩) ?_ ?_
  rotate_left
  · intro w'
    go_simp
    with_reducible rfl
  rotate_left
  · simp only [Act.put, sa_, sb_, sc_]
    rfl
  refine pure_ (i := 1) (N := (some 32)) (v := ?_) (a' := ?_) (bz 12 3) rfl rfl (by kernel_rfl) (fun _ _ _ h => h) (Or.inl ⟨by rfl, ?_⟩) ?_ ?_
  rotate_left
  · intro w'
    go_simp
    with_reducible rfl
  rotate_left
  · simp only [Act.put, sa_, sb_, sc_]
    rfl
  refine pure_ (i := 2) (N := (some 33)) (v := ?_) (a' := ?_) (bz 12 7) rfl rfl (by kernel_rfl) (fun _ _ _ h => h) (Or.inl ⟨by rfl, ?_⟩) ?_ ?_
  rotate_left
  · intro w'
    go_simp
    with_reducible rfl
  rotate_left
  · simp only [Act.put, sa_, sb_, sc_]
    rfl
  refine pure_ (i := 4) (N := (some 35)) (v := ?_) (a' := ?_) (bz 12 23) rfl rfl (by kernel_rfl) (fun _ _ _ h => h) (Or.inl ⟨by rfl, ?_⟩) ?_ ?_
  rotate_left
  · intro w'
    go_simp
    with_reducible rfl
  rotate_left
  · simp only [Act.put, sa_, sb_, sc_]
    rfl
  refine take_ (i := 3) (N := (some 34)) (v := ?_) (a' := ?_) (bz 12 31) rfl rfl (by kernel_rfl) (fun _ _ _ h => h) (Or.inl ⟨by rfl, ?_⟩) hHeld ?_ ?_
  rotate_left
  · rintro w' ⟨s0, s1⟩
    go_simp
    with_reducible rfl
  rotate_left
  · simp only [Act.put, sa_, sb_, sc_]
    rfl
  refine take_ (i := 5) (N := (some 36)) (v := ?_) (a' := ?_) (bz 12 63) rfl rfl (by kernel_rfl) (fun _ _ _ h => h) (Or.inl ⟨by rfl, ?_⟩) hHeld ?_ ?_
  rotate_left
  · rintro w' ⟨s0, s1⟩
    go_simp
    with_reducible rfl
  rotate_left
  · simp only [Act.put, sa_, sb_, sc_]
    rfl
  refine one_ (i := 6) (N := (some 37)) (bz 12 127) rfl rfl (by kernel_rfl) (by decide) (fun K hK => ?_)
  refine look_ (by rfl) rfl _ _ 104 rfl 3 46 kInt_law Tryz.underlying104 Tryz.underlying46 (Tryz.zeroValue46 _) bn _ DN rfl (World.ownsMap.drew hown) _ hRN (f.of a) rfl hk3 ?_
  rw [hna]
  simp only [Option.getD_some, Option.isSome_some]
  refine hK.out _ _ ⟨cn0, cb3⟩ (fun hHeld => ?_)
  clear hK K
  refine norm_ (a' := ?_) ?_ ?_
  rotate_left
  · show Act.put _ (some 37) _ = _
    simp only [Act.put, sa_, sb_, sc_]
    rfl
  refine pure_ (i := 7) (N := (some 30)) (v := ?_) (a' := ?_) (bz 12 255) rfl rfl (by kernel_rfl) (fun _ _ _ h => h) (Or.inl ⟨by rfl, ?_⟩) ?_ ?_
  rotate_left
  · intro w'
    go_simp
    with_reducible rfl
  rotate_left
  · simp only [Act.put, sa_, sb_, sc_]
    rfl
  refine pure_ (i := 8) (N := (some 38)) (v := ?_) (a' := ?_) (bz 12 511) rfl rfl (by kernel_rfl) (fun _ _ _ h => h) (Or.inl ⟨by rfl, ?_⟩) ?_ ?_
  rotate_left
  · intro w'
    go_simp
    with_reducible rfl
  rotate_left
  · simp only [Act.put, sa_, sb_, sc_]
    rfl
  refine pure_ (i := 9) (N := (some 39)) (v := ?_) (a' := ?_) (bz 12 1023) rfl rfl (by kernel_rfl) (fun _ _ _ h => h) (Or.inl ⟨by rfl, ?_⟩) ?_ ?_
  rotate_left
  · intro w'
    go_simp
    with_reducible rfl
  rotate_left
  · simp only [Act.put, sa_, sb_, sc_]
    rfl
  refine pure_ (i := 10) (N := (some 6)) (v := ?_) (a' := ?_) (bz 12 2047) rfl rfl (by kernel_rfl) (fun _ _ _ h => h) (Or.inl ⟨by rfl, ?_⟩) ?_ ?_
  rotate_left
  · intro w'
    go_simp
    with_reducible rfl
  rotate_left
  · simp only [Act.put, sa_, sb_, sc_]
    rfl
  refine pure_ (i := 11) (N := (some 7)) (v := ?_) (a' := ?_) (bz 12 4095) rfl rfl (by kernel_rfl) (fun _ _ _ h => h) (Or.inl ⟨by rfl, ?_⟩) ?_ ?_
  rotate_left
  · intro w'
    go_simp
    with_reducible rfl
  rotate_left
  · simp only [Act.put, sa_, sb_, sc_]
    rfl
  refine done_ (by kernel_rfl) ?_
  go_upto_region 7 with (fail)
  refine start_ (n := 12) (S := fun w' => w'.cell? ⟨p, 0, none⟩ = some (.map (some bn)) ∧ w'.cell? ⟨w.heap.size, 4, none⟩ = some (.int .i64 (b))) (ds := []) (bz 12 0) (by kernel_rfl) rfl rfl ⟨cn0, cb4⟩ (fun hHeld => ?_)
  refine pure_ (i := 0) (N := (some 41)) (v := ?_) (a' := ?_) (bz 12 1) rfl rfl (by kernel_rfl) (fun _ _ _ h => h) (Or.inl ⟨by rfl, ?_⟩) ?_ ?_
  rotate_left
  · intro w'
    go_simp
    with_reducible rfl
  rotate_left
  · simp only [Act.put, sa_, sb_, sc_]
    rfl
  refine pure_ (i := 1) (N := (some 42)) (v := ?_) (a' := ?_) (bz 12 3) rfl rfl (by kernel_rfl) (fun _ _ _ h => h) (Or.inl ⟨by rfl, ?_⟩) ?_ ?_
  rotate_left
  · intro w'
    go_simp
    with_reducible rfl
  rotate_left
  · simp only [Act.put, sa_, sb_, sc_]
    rfl
  refine pure_ (i := 2) (N := (some 43)) (v := ?_) (a' := ?_) (bz 12 7) rfl rfl (by kernel_rfl) (fun _ _ _ h => h) (Or.inl ⟨by rfl, ?_⟩) ?_ ?_
  rotate_left
  · intro w'
    go_simp
    with_reducible rfl
  rotate_left
  · simp only [Act.put, sa_, sb_, sc_]
    rfl
  refine pure_ (i := 4) (N := (some 45)) (v := ?_) (a' := ?_) (bz 12 23) rfl rfl (by kernel_rfl) (fun _ _ _ h => h) (Or.inl ⟨by rfl, ?_⟩) ?_ ?_
  rotate_left
  · intro w'
    go_simp
    with_reducible rfl
  rotate_left
  · simp only [Act.put, sa_, sb_, sc_]
    rfl
  refine take_ (i := 3) (N := (some 44)) (v := ?_) (a' := ?_) (bz 12 31) rfl rfl (by kernel_rfl) (fun _ _ _ h => h) (Or.inl ⟨by rfl, ?_⟩) hHeld ?_ ?_
  rotate_left
  · rintro w' ⟨s0, s1⟩
    go_simp
    with_reducible rfl
  rotate_left
  · simp only [Act.put, sa_, sb_, sc_]
    rfl
  refine take_ (i := 5) (N := (some 46)) (v := ?_) (a' := ?_) (bz 12 63) rfl rfl (by kernel_rfl) (fun _ _ _ h => h) (Or.inl ⟨by rfl, ?_⟩) hHeld ?_ ?_
  rotate_left
  · rintro w' ⟨s0, s1⟩
    go_simp
    with_reducible rfl
  rotate_left
  · simp only [Act.put, sa_, sb_, sc_]
    rfl
  refine one_ (i := 6) (N := (some 47)) (bz 12 127) rfl rfl (by kernel_rfl) (by decide) (fun K hK => ?_)
  refine look_ (by rfl) rfl _ _ 104 rfl 3 46 kInt_law Tryz.underlying104 Tryz.underlying46 (Tryz.zeroValue46 _) bn _ DN rfl (World.ownsMap.drew (World.ownsMap.drew hown)) _ hRN (b) rfl hk4 ?_
  refine hK.out _ _ ⟨cn0, cb4⟩ (fun hHeld => ?_)
  clear hK K
  refine norm_ (a' := ?_) ?_ ?_
  rotate_left
  · show Act.put _ (some 47) _ = _
    simp only [Act.put, sa_, sb_, sc_]
    rfl
  refine pure_ (i := 7) (N := (some 40)) (v := ?_) (a' := ?_) (bz 12 255) rfl rfl (by kernel_rfl) (fun _ _ _ h => h) (Or.inl ⟨by rfl, ?_⟩) ?_ ?_
  rotate_left
  · intro w'
    go_simp
    with_reducible rfl
  rotate_left
  · simp only [Act.put, sa_, sb_, sc_]
    rfl
  refine pure_ (i := 8) (N := (some 48)) (v := ?_) (a' := ?_) (bz 12 511) rfl rfl (by kernel_rfl) (fun _ _ _ h => h) (Or.inl ⟨by rfl, ?_⟩) ?_ ?_
  rotate_left
  · intro w'
    go_simp
    with_reducible rfl
  rotate_left
  · simp only [Act.put, sa_, sb_, sc_]
    rfl
  refine pure_ (i := 9) (N := (some 49)) (v := ?_) (a' := ?_) (bz 12 1023) rfl rfl (by kernel_rfl) (fun _ _ _ h => h) (Or.inl ⟨by rfl, ?_⟩) ?_ ?_
  rotate_left
  · intro w'
    go_simp
    with_reducible rfl
  rotate_left
  · simp only [Act.put, sa_, sb_, sc_]
    rfl
  refine pure_ (i := 10) (N := (some 8)) (v := ?_) (a' := ?_) (bz 12 2047) rfl rfl (by kernel_rfl) (fun _ _ _ h => h) (Or.inl ⟨by rfl, ?_⟩) ?_ ?_
  rotate_left
  · intro w'
    go_simp
    with_reducible rfl
  rotate_left
  · simp only [Act.put, sa_, sb_, sc_]
    rfl
  refine pure_ (i := 11) (N := (some 9)) (v := ?_) (a' := ?_) (bz 12 4095) rfl rfl (by kernel_rfl) (fun _ _ _ h => h) (Or.inl ⟨by rfl, ?_⟩) ?_ ?_
  rotate_left
  · intro w'
    go_simp
    with_reducible rfl
  rotate_left
  · simp only [Act.put, sa_, sb_, sc_]
    rfl
  refine done_ (by kernel_rfl) ?_
  have hF8 := hF7.drew.drew
  clear hF7 cn0 cb3 cb4 hown
  generalize w7.drew.drew = w8 at hF8 ⊢
  have C8 := hF8.B.cell
  have fz8 := hF8.B.free
  go_upto_region 13 with (fail)
  have hFb := hF8.store6 rfl (.int .u8 1) (.int .u8 0) (.int .i64 d) (.int .i64 0) (.int .i64 0) (.int .u64 x)
  clear hF8 C8 fz8
  generalize ((((((w8.setCell ⟨w.heap.size, 0, none⟩ (.int .u8 1)).setCell ⟨w.heap.size, 1, none⟩ (.int .u8 0)).setCell ⟨w.heap.size, 2, none⟩ (.int .i64 d)).setCell ⟨w.heap.size, 3, none⟩ (.int .i64 0)).setCell ⟨w.heap.size, 4, none⟩ (.int .i64 0)).setCell ⟨w.heap.size, 5, none⟩ (.int .u64 x)) = wb at hFb ⊢
  have Cb := hFb.B.cell
  go_upto_region 18 with (first | (go_at_call 76; go_must (refine (HS.out _ _ _ _ _ _).mono ?_); rintro e w9 ⟨rfl, hb9⟩; rw [hset]; have hF9 := hFb.below hb9; have C9 := hF9.B.cell; have Z9 := hF9.Z.cell; have fz := hF9.Z.free) | (go_at_call 77; go_must (refine (set_c hF9.F d (by omega) (by omega)).mono ?_); rintro e w10 ⟨rfl, hG10, hT10⟩; have hF10 := hF9.turn hG10 hT10; have C10 := hF10.B.cell; have Z10 := hF10.Z.cell; have fz10 := hF10.Z.free))
  obtain ⟨D2, hown2, hR2⟩ := hF10.F.nm
  have sz2 := (hF10.F.sizes).1 D2 hR2
  have cn1 : w10.cell? ⟨p, 0, none⟩ = some (.map (some bn)) := hF10.F.pc.cell 0
  have cd2 : w10.cell? ⟨w.heap.size, 2, none⟩ = some (.int .i64 d) := hF10.B.cell 2
  have cx2 : w10.cell? ⟨w.heap.size, 5, none⟩ = some (.int .u64 (x)) := hF10.B.cell 5
  have hkd := keyI (x := d) (by omega) (by omega)
  refine start_ (n := 9) (S := fun w' => w'.cell? ⟨p, 0, none⟩ = some (.map (some bn)) ∧ w'.cell? ⟨w.heap.size, 2, none⟩ = some (.int .i64 d) ∧ w'.cell? ⟨w.heap.size, 5, none⟩ = some (.int .u64 (x))) (ds := [8]) (bz 9 0) (by kernel_rfl) rfl rfl ⟨cn1, cd2, cx2⟩ (fun hHeld => ?_)
  refine pure_ (i := 0) (N := (some 95)) (v := ?_) (a' := ?_) (bz 9 1) rfl rfl (by kernel_rfl) (fun _ _ _ h => h) (Or.inl ⟨by rfl, ?_⟩) ?_ ?_
  rotate_left
  · intro w'
    go_simp
    with_reducible rfl
  rotate_left
  · simp only [Act.put, sa_, sb_, sc_]
    rfl
  refine pure_ (i := 1) (N := (some 96)) (v := ?_) (a' := ?_) (bz 9 3) rfl rfl (by kernel_rfl) (fun _ _ _ h => h) (Or.inl ⟨by rfl, ?_⟩) ?_ ?_
  rotate_left
  · intro w'
    go_simp
    with_reducible rfl
  rotate_left
  · simp only [Act.put, sa_, sb_, sc_]
    rfl
  refine pure_ (i := 2) (N := (some 97)) (v := ?_) (a' := ?_) (bz 9 7) rfl rfl (by kernel_rfl) (fun _ _ _ h => h) (Or.inl ⟨by rfl, ?_⟩) ?_ ?_
  rotate_left
  · intro w'
    go_simp
    with_reducible rfl
  rotate_left
  · simp only [Act.put, sa_, sb_, sc_]
    rfl
  refine pure_ (i := 4) (N := (some 99)) (v := ?_) (a' := ?_) (bz 9 23) rfl rfl (by kernel_rfl) (fun _ _ _ h => h) (Or.inl ⟨by rfl, ?_⟩) ?_ ?_
  rotate_left
  · intro w'
    go_simp
    with_reducible rfl
  rotate_left
  · simp only [Act.put, sa_, sb_, sc_]
    rfl
  refine pure_ (i := 6) (N := (some 101)) (v := ?_) (a' := ?_) (bz 9 87) rfl rfl (by kernel_rfl) (fun _ _ _ h => h) (Or.inl ⟨by rfl, ?_⟩) ?_ ?_
  rotate_left
  · intro w'
    go_simp
    with_reducible rfl
  rotate_left
  · simp only [Act.put, sa_, sb_, sc_]
    rfl
  refine take_ (i := 3) (N := (some 98)) (v := ?_) (a' := ?_) (bz 9 95) rfl rfl (by kernel_rfl) (fun _ _ _ h => h) (Or.inl ⟨by rfl, ?_⟩) hHeld ?_ ?_
  rotate_left
  · rintro w' ⟨s0, s1, s2⟩
    go_simp
    with_reducible rfl
  rotate_left
  · simp only [Act.put, sa_, sb_, sc_]
    rfl
  refine take_ (i := 5) (N := (some 100)) (v := ?_) (a' := ?_) (bz 9 127) rfl rfl (by kernel_rfl) (fun _ _ _ h => h) (Or.inl ⟨by rfl, ?_⟩) hHeld ?_ ?_
  rotate_left
  · rintro w' ⟨s0, s1, s2⟩
    go_simp
    with_reducible rfl
  rotate_left
  · simp only [Act.put, sa_, sb_, sc_]
    rfl
  refine take_ (i := 7) (N := (some 102)) (v := ?_) (a' := ?_) (bz 9 255) rfl rfl (by kernel_rfl) (fun _ _ _ h => h) (Or.inl ⟨by rfl, ?_⟩) hHeld ?_ ?_
  rotate_left
  · rintro w' ⟨s0, s1, s2⟩
    go_simp
    with_reducible rfl
  rotate_left
  · simp only [Act.put, sa_, sb_, sc_]
    rfl
  refine last_ (i := 8) (N := none) (bz 9 511) rfl rfl (by kernel_rfl) (by decide) (fun K hK => ?_)
  refine update_ (by rfl) rfl _ _ _ 104 rfl 3 46 kInt_law Tryz.underlying104 _ bn _ D2 rfl (World.ownsMap.drew hown2) (by unfold maxLen; omega) _ (.int .u64 (x)) _ rfl rfl hkd _ [] (plainElem_int Tryz.underlying46 (WalkArith.wf_u64 ⟨by omega, by omega⟩)) (fun w11 o11 t11 => ?_)
  refine hK.out _ _ ?_
  clear hK K
  refine done_ (by kernel_rfl) ?_
  have hF11 := hF10.drew.putN hR2 (x) hd ⟨by omega, by omega⟩ o11 t11
  have C11 := hF11.B.cell
  have Z11 := hF11.Z.cell
  have fz11 := hF11.Z.free
  go_wp2_with fail
  obtain ⟨e1, e2, e3⟩ := hF11.post (.int .u8 1) (.int .u8 0) (.int .i64 d) (.int .i64 0) (.int .i64 0) (.int .u64 x)
  exact fold_end rfl e1 rfl ⟨rfl, e2, e3⟩
set_option maxRecDepth 100000 in
set_option maxHeartbeats 4000000 in
theorem fold_s2d {w : World} {p bn bs n : Nat} {f : Fx} (h : Fcts w p bn bs n f) (fn d a b imm : Int) (hna : f.nums (f.of a) = none) (hadb : (f.of a != d) = false) (hn : n ≤ 100000) (ho : OpW n ⟨2, fn, d, a, b, imm⟩) :
    Calls Tryz.prog 55 #[.pointer (some ⟨p, 0, none⟩), .agg (opC 2 fn d a b imm)] w (FoldPost w p bn bs n f ⟨2, fn, d, a, b, imm⟩) := by
  have hlen : (asksL ⟨2, fn, d, a, b, imm⟩).length = 1 := by rfl
  have hask : askN 2 = 1 := by rfl
  have hset : setsB 2 = true := by rfl
  have hk13 : (2 : Int) = 1 ∨ (2 : Int) = 2 ∨ (2 : Int) = 3 ∨ (2 : Int) = 4 ∨ (2 : Int) = 5 ∨ (2 : Int) = 6 ∨ (2 : Int) = 7 ∨ (2 : Int) = 8 ∨ (2 : Int) = 9 ∨ (2 : Int) = 10 ∨ (2 : Int) = 11 ∨ (2 : Int) = 12 ∨ (2 : Int) = 13 := by decide
  have ha : 0 ≤ a ∧ a < (n : Int) := ho.hi.a (show 0 < askN 2 by omega)
  have ra := h.st.of ha
  have hb : -1 < b ∧ b < 1 := by have : b = 0 := ho.bz (show askN 2 ≤ 1 by omega); omega
  have hd : 0 ≤ d ∧ d < (n : Int) := ho.hi.d (show setsB 2 = true by rfl)
  have hfo : foldO f ⟨2, fn, d, a, b, imm⟩ = ⟨2, fn, d, f.of a, b, imm⟩ := by simp [foldO, fold2, fold1, askN, hna]
  have hff : foldF f (⟨2, fn, d, f.of a, b, imm⟩) = f.set d := by (have had : f.of a = d := by simpa using hadb); simp [foldF, setsB, had]
  unfold FoldPost
  rw [hfo, hff]
  obtain ⟨w1, hw1, hF1⟩ := fw_begin h (opC 2 fn d a b imm)
  have HA := Lib.hid (fun w => asks_lit 2 hk13 fn d a b imm w)
  have HO := Lib.hid (fun w (h : Fcts w p bn bs n f) v h0 h1 => of_c h v h0 h1)
  have HS := Lib.hid (fun k fn a b imm w => sets_c k fn d a b imm w)
  clear hfo hff
  go_enter Tryz.func55, Tryz.ntmps55
  go_upto_region 1 with (fail)
  rw [← hw1]
  clear hw1
  have C1 := hF1.B.cell
  go_upto_region 2 with (go_at_call 74; go_must (refine (HA.out _).mono ?_); rintro e w3 ⟨A, c, rfl, hb3, -⟩; rw [hlen])
  have hF3 := hF1.below hb3
  clear hF1 hb3 C1
  have C3 := hF3.B.cell
  go_upto_region 6 with (go_at_call 56; go_must (refine (HO.out _ hF3.F a (by omega) (by omega)).mono ?_); rintro e w4 ⟨rfl, hb4⟩; have C4 := (hF3.below hb4).B.cell; have f4 := (hF3.below hb4).B.free 3)
  have hF5 : FW w (w4.setCell ⟨w.heap.size, 3, none⟩ (.int .i64 (f.of a))) p bn bs n f (opC 2 fn d (f.of a) b imm) := (hF3.below hb4).setB 3 _
  clear hF3 hb4 C3 C4 f4
  generalize w4.setCell ⟨w.heap.size, 3, none⟩ (.int .i64 (f.of a)) = w5 at hF5 ⊢
  generalize w5 = w7 at hF5 ⊢
  have hF7 := hF5
  clear hF5
  obtain ⟨DN, hown, hRN⟩ := hF7.F.nm
  have cn0 : w7.cell? ⟨p, 0, none⟩ = some (.map (some bn)) := hF7.F.pc.cell 0
  have cb3 : w7.cell? ⟨w.heap.size, 3, none⟩ = some (.int .i64 (f.of a)) := hF7.B.cell 3
  have cb4 : w7.cell? ⟨w.heap.size, 4, none⟩ = some (.int .i64 (b)) := hF7.B.cell 4
  have hk3 := keyI (x := f.of a) (by omega) (by omega)
  have hk4 := keyI (x := b) (by omega) (by omega)
  refine start_ (n := 12) (S := fun w' => w'.cell? ⟨p, 0, none⟩ = some (.map (some bn)) ∧ w'.cell? ⟨w.heap.size, 3, none⟩ = some (.int .i64 (f.of a))) (ds := []) (bz 12 0) (by kernel_rfl) rfl rfl ⟨cn0, cb3⟩ (fun hHeld => ?_)
  refine pure_ (i := 0) (N := (some 31)) (v := ?_) (a' := ?_) (bz 12 1) rfl rfl (by kernel_rfl) (fun _ _ _ h => h) (Or.inl ⟨by rfl, ?_⟩) ?_ ?_
  rotate_left
  · intro w'
    go_simp
    with_reducible rfl
  rotate_left
  · simp only [Act.put, sa_, sb_, sc_]
    rfl
  refine pure_ (i := 1) (N := (some 32)) (v := ?_) (a' := ?_) (bz 12 3) rfl rfl (by kernel_rfl) (fun _ _ _ h => h) (Or.inl ⟨by rfl, ?_⟩) ?_ ?_
  rotate_left
  · intro w'
    go_simp
    with_reducible rfl
  rotate_left
  · simp only [Act.put, sa_, sb_, sc_]
    rfl
  refine pure_ (i := 2) (N := (some 33)) (v := ?_) (a' := ?_) (bz 12 7) rfl rfl (by kernel_rfl) (fun _ _ _ h => h) (Or.inl ⟨by rfl, ?_⟩) ?_ ?_
  rotate_left
  · intro w'
    go_simp
    with_reducible rfl
  rotate_left
  · simp only [Act.put, sa_, sb_, sc_]
    rfl
  refine pure_ (i := 4) (N := (some 35)) (v := ?_) (a' := ?_) (bz 12 23) rfl rfl (by kernel_rfl) (fun _ _ _ h => h) (Or.inl ⟨by rfl, ?_⟩) ?_ ?_
  rotate_left
  · intro w'
    go_simp
    with_reducible rfl
  rotate_left
  · simp only [Act.put, sa_, sb_, sc_]
    rfl
  refine take_ (i := 3) (N := (some 34)) (v := ?_) (a' := ?_) (bz 12 31) rfl rfl (by kernel_rfl) (fun _ _ _ h => h) (Or.inl ⟨by rfl, ?_⟩) hHeld ?_ ?_
  rotate_left
  · rintro w' ⟨s0, s1⟩
    go_simp
    with_reducible rfl
  rotate_left
  · simp only [Act.put, sa_, sb_, sc_]
    rfl
  refine take_ (i := 5) (N := (some 36)) (v := ?_) (a' := ?_) (bz 12 63) rfl rfl (by kernel_rfl) (fun _ _ _ h => h) (Or.inl ⟨by rfl, ?_⟩) hHeld ?_ ?_
  rotate_left
  · rintro w' ⟨s0, s1⟩
    go_simp
    with_reducible rfl
  rotate_left
  · simp only [Act.put, sa_, sb_, sc_]
    rfl
  refine one_ (i := 6) (N := (some 37)) (bz 12 127) rfl rfl (by kernel_rfl) (by decide) (fun K hK => ?_)
  refine look_ (by rfl) rfl _ _ 104 rfl 3 46 kInt_law Tryz.underlying104 Tryz.underlying46 (Tryz.zeroValue46 _) bn _ DN rfl (World.ownsMap.drew hown) _ hRN (f.of a) rfl hk3 ?_
  rw [hna]
  simp only [Option.getD_none, Option.isSome_none]
  refine hK.out _ _ ⟨cn0, cb3⟩ (fun hHeld => ?_)
  clear hK K
  refine norm_ (a' := ?_) ?_ ?_
  rotate_left
  · show Act.put _ (some 37) _ = _
    simp only [Act.put, sa_, sb_, sc_]
    rfl
  refine pure_ (i := 7) (N := (some 30)) (v := ?_) (a' := ?_) (bz 12 255) rfl rfl (by kernel_rfl) (fun _ _ _ h => h) (Or.inl ⟨by rfl, ?_⟩) ?_ ?_
  rotate_left
  · intro w'
    go_simp
    with_reducible rfl
  rotate_left
  · simp only [Act.put, sa_, sb_, sc_]
    rfl
  refine pure_ (i := 8) (N := (some 38)) (v := ?_) (a' := ?_) (bz 12 511) rfl rfl (by kernel_rfl) (fun _ _ _ h => h) (Or.inl ⟨by rfl, ?_⟩) ?_ ?_
  rotate_left
  · intro w'
    go_simp
    with_reducible rfl
  rotate_left
  · simp only [Act.put, sa_, sb_, sc_]
    rfl
  refine pure_ (i := 9) (N := (some 39)) (v := ?_) (a' := ?_) (bz 12 1023) rfl rfl (by kernel_rfl) (fun _ _ _ h => h) (Or.inl ⟨by rfl, ?_⟩) ?_ ?_
  rotate_left
  · intro w'
    go_simp
    with_reducible rfl
  rotate_left
  · simp only [Act.put, sa_, sb_, sc_]
    rfl
  refine pure_ (i := 10) (N := (some 6)) (v := ?_) (a' := ?_) (bz 12 2047) rfl rfl (by kernel_rfl) (fun _ _ _ h => h) (Or.inl ⟨by rfl, ?_⟩) ?_ ?_
  rotate_left
  · intro w'
    go_simp
    with_reducible rfl
  rotate_left
  · simp only [Act.put, sa_, sb_, sc_]
    rfl
  refine pure_ (i := 11) (N := (some 7)) (v := ?_) (a' := ?_) (bz 12 4095) rfl rfl (by kernel_rfl) (fun _ _ _ h => h) (Or.inl ⟨by rfl, ?_⟩) ?_ ?_
  rotate_left
  · intro w'
    go_simp
    with_reducible rfl
  rotate_left
  · simp only [Act.put, sa_, sb_, sc_]
    rfl
  refine done_ (by kernel_rfl) ?_
  go_upto_region 7 with (fail)
  refine start_ (n := 12) (S := fun w' => w'.cell? ⟨p, 0, none⟩ = some (.map (some bn)) ∧ w'.cell? ⟨w.heap.size, 4, none⟩ = some (.int .i64 (b))) (ds := []) (bz 12 0) (by kernel_rfl) rfl rfl ⟨cn0, cb4⟩ (fun hHeld => ?_)
  refine pure_ (i := 0) (N := (some 41)) (v := ?_) (a' := ?_) (bz 12 1) rfl rfl (by kernel_rfl) (fun _ _ _ h => h) (Or.inl ⟨by rfl, ?_⟩) ?_ ?_
  rotate_left
  · intro w'
    go_simp
    with_reducible rfl
  rotate_left
  · simp only [Act.put, sa_, sb_, sc_]
    rfl
  refine pure_ (i := 1) (N := (some 42)) (v := ?_) (a' := ?_) (bz 12 3) rfl rfl (by kernel_rfl) (fun _ _ _ h => h) (Or.inl ⟨by rfl, ?_⟩) ?_ ?_
  rotate_left
  · intro w'
    go_simp
    with_reducible rfl
  rotate_left
  · simp only [Act.put, sa_, sb_, sc_]
    rfl
  refine pure_ (i := 2) (N := (some 43)) (v := ?_) (a' := ?_) (bz 12 7) rfl rfl (by kernel_rfl) (fun _ _ _ h => h) (Or.inl ⟨by rfl, ?_⟩) ?_ ?_
  rotate_left
  · intro w'
    go_simp
    with_reducible rfl
  rotate_left
  · simp only [Act.put, sa_, sb_, sc_]
    rfl
  refine pure_ (i := 4) (N := (some 45)) (v := ?_) (a' := ?_) (bz 12 23) rfl rfl (by kernel_rfl) (fun _ _ _ h => h) (Or.inl ⟨by rfl, ?_⟩) ?_ ?_
  rotate_left
  · intro w'
    go_simp
    with_reducible rfl
  rotate_left
  · simp only [Act.put, sa_, sb_, sc_]
    rfl
  refine take_ (i := 3) (N := (some 44)) (v := ?_) (a' := ?_) (bz 12 31) rfl rfl (by kernel_rfl) (fun _ _ _ h => h) (Or.inl ⟨by rfl, ?_⟩) hHeld ?_ ?_
  rotate_left
  · rintro w' ⟨s0, s1⟩
    go_simp
    with_reducible rfl
  rotate_left
  · simp only [Act.put, sa_, sb_, sc_]
    rfl
  refine take_ (i := 5) (N := (some 46)) (v := ?_) (a' := ?_) (bz 12 63) rfl rfl (by kernel_rfl) (fun _ _ _ h => h) (Or.inl ⟨by rfl, ?_⟩) hHeld ?_ ?_
  rotate_left
  · rintro w' ⟨s0, s1⟩
    go_simp
    with_reducible rfl
  rotate_left
  · simp only [Act.put, sa_, sb_, sc_]
    rfl
  refine one_ (i := 6) (N := (some 47)) (bz 12 127) rfl rfl (by kernel_rfl) (by decide) (fun K hK => ?_)
  refine look_ (by rfl) rfl _ _ 104 rfl 3 46 kInt_law Tryz.underlying104 Tryz.underlying46 (Tryz.zeroValue46 _) bn _ DN rfl (World.ownsMap.drew (World.ownsMap.drew hown)) _ hRN (b) rfl hk4 ?_
  refine hK.out _ _ ⟨cn0, cb4⟩ (fun hHeld => ?_)
  clear hK K
  refine norm_ (a' := ?_) ?_ ?_
  rotate_left
  · show Act.put _ (some 47) _ = _
    simp only [Act.put, sa_, sb_, sc_]
    rfl
  refine pure_ (i := 7) (N := (some 40)) (v := ?_) (a' := ?_) (bz 12 255) rfl rfl (by kernel_rfl) (fun _ _ _ h => h) (Or.inl ⟨by rfl, ?_⟩) ?_ ?_
  rotate_left
  · intro w'
    go_simp
    with_reducible rfl
  rotate_left
  · simp only [Act.put, sa_, sb_, sc_]
    rfl
  refine pure_ (i := 8) (N := (some 48)) (v := ?_) (a' := ?_) (bz 12 511) rfl rfl (by kernel_rfl) (fun _ _ _ h => h) (Or.inl ⟨by rfl, ?_⟩) ?_ ?_
  rotate_left
  · intro w'
    go_simp
    with_reducible rfl
  rotate_left
  · simp only [Act.put, sa_, sb_, sc_]
    rfl
  refine pure_ (i := 9) (N := (some 49)) (v := ?_) (a' := ?_) (bz 12 1023) rfl rfl (by kernel_rfl) (fun _ _ _ h => h) (Or.inl ⟨by rfl, ?_⟩) ?_ ?_
  rotate_left
  · intro w'
    go_simp
    with_reducible rfl
  rotate_left
  · simp only [Act.put, sa_, sb_, sc_]
    rfl
  refine pure_ (i := 10) (N := (some 8)) (v := ?_) (a' := ?_) (bz 12 2047) rfl rfl (by kernel_rfl) (fun _ _ _ h => h) (Or.inl ⟨by rfl, ?_⟩) ?_ ?_
  rotate_left
  · intro w'
    go_simp
    with_reducible rfl
  rotate_left
  · simp only [Act.put, sa_, sb_, sc_]
    rfl
  refine pure_ (i := 11) (N := (some 9)) (v := ?_) (a' := ?_) (bz 12 4095) rfl rfl (by kernel_rfl) (fun _ _ _ h => h) (Or.inl ⟨by rfl, ?_⟩) ?_ ?_
  rotate_left
  · intro w'
    go_simp
    with_reducible rfl
  rotate_left
  · simp only [Act.put, sa_, sb_, sc_]
    rfl
  refine done_ (by kernel_rfl) ?_
  have hF8 := hF7.drew.drew
  clear hF7 cn0 cb3 cb4 hown
  generalize w7.drew.drew = w8 at hF8 ⊢
  have C8 := hF8.B.cell
  go_wp2_with (first | (go_at_call 76; go_must (refine (HS.out _ _ _ _ _ _).mono ?_); rintro e w9 ⟨rfl, hb9⟩; rw [hset]; have hF9 := hF8.below hb9; have C9 := hF9.B.cell; have Z9 := hF9.Z.cell; have fz := hF9.Z.free) | (go_at_call 77; go_must (refine (set_c hF9.F d (by omega) (by omega)).mono ?_); rintro e w10 ⟨rfl, hG10, hT10⟩; have hF10 := hF9.turn hG10 hT10; have C10 := hF10.B.cell; have Z10 := hF10.Z.cell; have fz10 := hF10.Z.free))
  obtain ⟨e1, e2, e3⟩ := hF10.post (.int .u8 2) (.int .u8 fn) (.int .i64 d) (.int .i64 (f.of a)) (.int .i64 b) (.int .u64 imm)
  exact fold_end rfl e1 rfl ⟨rfl, e2, e3⟩
set_option maxRecDepth 100000 in
set_option maxHeartbeats 4000000 in
theorem fold_s2n {w : World} {p bn bs n : Nat} {f : Fx} (h : Fcts w p bn bs n f) (fn d a b imm : Int) (hna : f.nums (f.of a) = none) (hadb : (f.of a != d) = true) (hn : n ≤ 100000) (ho : OpW n ⟨2, fn, d, a, b, imm⟩) :
    Calls Tryz.prog 55 #[.pointer (some ⟨p, 0, none⟩), .agg (opC 2 fn d a b imm)] w (FoldPost w p bn bs n f ⟨2, fn, d, a, b, imm⟩) := by
  have hlen : (asksL ⟨2, fn, d, a, b, imm⟩).length = 1 := by rfl
  have hask : askN 2 = 1 := by rfl
  have hset : setsB 2 = true := by rfl
  have hk13 : (2 : Int) = 1 ∨ (2 : Int) = 2 ∨ (2 : Int) = 3 ∨ (2 : Int) = 4 ∨ (2 : Int) = 5 ∨ (2 : Int) = 6 ∨ (2 : Int) = 7 ∨ (2 : Int) = 8 ∨ (2 : Int) = 9 ∨ (2 : Int) = 10 ∨ (2 : Int) = 11 ∨ (2 : Int) = 12 ∨ (2 : Int) = 13 := by decide
  have ha : 0 ≤ a ∧ a < (n : Int) := ho.hi.a (show 0 < askN 2 by omega)
  have ra := h.st.of ha
  have hb : -1 < b ∧ b < 1 := by have : b = 0 := ho.bz (show askN 2 ≤ 1 by omega); omega
  have hd : 0 ≤ d ∧ d < (n : Int) := ho.hi.d (show setsB 2 = true by rfl)
  have hfo : foldO f ⟨2, fn, d, a, b, imm⟩ = ⟨2, fn, d, f.of a, b, imm⟩ := by simp [foldO, fold2, fold1, askN, hna]
  have hff : foldF f (⟨2, fn, d, f.of a, b, imm⟩) = (f.set d).sam d (f.of a) := by (have had : f.of a ≠ d := by simpa using hadb); simp [foldF, setsB, had]
  unfold FoldPost
  rw [hfo, hff]
  obtain ⟨w1, hw1, hF1⟩ := fw_begin h (opC 2 fn d a b imm)
  have HA := Lib.hid (fun w => asks_lit 2 hk13 fn d a b imm w)
  have HO := Lib.hid (fun w (h : Fcts w p bn bs n f) v h0 h1 => of_c h v h0 h1)
  have HS := Lib.hid (fun k fn a b imm w => sets_c k fn d a b imm w)
  clear hfo hff
  go_enter Tryz.func55, Tryz.ntmps55
  go_upto_region 1 with (fail)
  rw [← hw1]
  clear hw1
  have C1 := hF1.B.cell
  go_upto_region 2 with (go_at_call 74; go_must (refine (HA.out _).mono ?_); rintro e w3 ⟨A, c, rfl, hb3, -⟩; rw [hlen])
  have hF3 := hF1.below hb3
  clear hF1 hb3 C1
  have C3 := hF3.B.cell
  go_upto_region 6 with (go_at_call 56; go_must (refine (HO.out _ hF3.F a (by omega) (by omega)).mono ?_); rintro e w4 ⟨rfl, hb4⟩; have C4 := (hF3.below hb4).B.cell; have f4 := (hF3.below hb4).B.free 3)
  have hF5 : FW w (w4.setCell ⟨w.heap.size, 3, none⟩ (.int .i64 (f.of a))) p bn bs n f (opC 2 fn d (f.of a) b imm) := (hF3.below hb4).setB 3 _
  clear hF3 hb4 C3 C4 f4
  generalize w4.setCell ⟨w.heap.size, 3, none⟩ (.int .i64 (f.of a)) = w5 at hF5 ⊢
  generalize w5 = w7 at hF5 ⊢
  have hF7 := hF5
  clear hF5
  obtain ⟨DN, hown, hRN⟩ := hF7.F.nm
  have cn0 : w7.cell? ⟨p, 0, none⟩ = some (.map (some bn)) := hF7.F.pc.cell 0
  have cb3 : w7.cell? ⟨w.heap.size, 3, none⟩ = some (.int .i64 (f.of a)) := hF7.B.cell 3
  have cb4 : w7.cell? ⟨w.heap.size, 4, none⟩ = some (.int .i64 (b)) := hF7.B.cell 4
  have hk3 := keyI (x := f.of a) (by omega) (by omega)
  have hk4 := keyI (x := b) (by omega) (by omega)
  refine start_ (n := 12) (S := fun w' => w'.cell? ⟨p, 0, none⟩ = some (.map (some bn)) ∧ w'.cell? ⟨w.heap.size, 3, none⟩ = some (.int .i64 (f.of a))) (ds := []) (bz 12 0) (by kernel_rfl) rfl rfl ⟨cn0, cb3⟩ (fun hHeld => ?_)
  refine pure_ (i := 0) (N := (some 31)) (v := ?_) (a' := ?_) (bz 12 1) rfl rfl (by kernel_rfl) (fun _ _ _ h => h) (Or.inl ⟨by rfl, ?_⟩) ?_ ?_
  rotate_left
  · intro w'
    go_simp
    with_reducible rfl
  rotate_left
  · simp only [Act.put, sa_, sb_, sc_]
    rfl
  refine pure_ (i := 1) (N := (some 32)) (v := ?_) (a' := ?_) (bz 12 3) rfl rfl (by kernel_rfl) (fun _ _ _ h => h) (Or.inl ⟨by rfl, ?_⟩) ?_ ?_
  rotate_left
  · intro w'
    go_simp
    with_reducible rfl
  rotate_left
  · simp only [Act.put, sa_, sb_, sc_]
    rfl
  refine pure_ (i := 2) (N := (some 33)) (v := ?_) (a' := ?_) (bz 12 7) rfl rfl (by kernel_rfl) (fun _ _ _ h => h) (Or.inl ⟨by rfl, ?_⟩) ?_ ?_
  rotate_left
  · intro w'
    go_simp
    with_reducible rfl
  rotate_left
  · simp only [Act.put, sa_, sb_, sc_]
    rfl
  refine pure_ (i := 4) (N := (some 35)) (v := ?_) (a' := ?_) (bz 12 23) rfl rfl (by kernel_rfl) (fun _ _ _ h => h) (Or.inl ⟨by rfl, ?_⟩) ?_ ?_
  rotate_left
  · intro w'
    go_simp
    with_reducible rfl
  rotate_left
  · simp only [Act.put, sa_, sb_, sc_]
    rfl
  refine take_ (i := 3) (N := (some 34)) (v := ?_) (a' := ?_) (bz 12 31) rfl rfl (by kernel_rfl) (fun _ _ _ h => h) (Or.inl ⟨by rfl, ?_⟩) hHeld ?_ ?_
  rotate_left
  · rintro w' ⟨s0, s1⟩
    go_simp
    with_reducible rfl
  rotate_left
  · simp only [Act.put, sa_, sb_, sc_]
    rfl
  refine take_ (i := 5) (N := (some 36)) (v := ?_) (a' := ?_) (bz 12 63) rfl rfl (by kernel_rfl) (fun _ _ _ h => h) (Or.inl ⟨by rfl, ?_⟩) hHeld ?_ ?_
  rotate_left
  · rintro w' ⟨s0, s1⟩
    go_simp
    with_reducible rfl
  rotate_left
  · simp only [Act.put, sa_, sb_, sc_]
    rfl
  refine one_ (i := 6) (N := (some 37)) (bz 12 127) rfl rfl (by kernel_rfl) (by decide) (fun K hK => ?_)
  refine look_ (by rfl) rfl _ _ 104 rfl 3 46 kInt_law Tryz.underlying104 Tryz.underlying46 (Tryz.zeroValue46 _) bn _ DN rfl (World.ownsMap.drew hown) _ hRN (f.of a) rfl hk3 ?_
  rw [hna]
  simp only [Option.getD_none, Option.isSome_none]
  refine hK.out _ _ ⟨cn0, cb3⟩ (fun hHeld => ?_)
  clear hK K
  refine norm_ (a' := ?_) ?_ ?_
  rotate_left
  · show Act.put _ (some 37) _ = _
    simp only [Act.put, sa_, sb_, sc_]
    rfl
  refine pure_ (i := 7) (N := (some 30)) (v := ?_) (a' := ?_) (bz 12 255) rfl rfl (by kernel_rfl) (fun _ _ _ h => h) (Or.inl ⟨by rfl, ?_⟩) ?_ ?_
  rotate_left
  · intro w'
    go_simp
    with_reducible rfl
  rotate_left
  · simp only [Act.put, sa_, sb_, sc_]
    rfl
  refine pure_ (i := 8) (N := (some 38)) (v := ?_) (a' := ?_) (bz 12 511) rfl rfl (by kernel_rfl) (fun _ _ _ h => h) (Or.inl ⟨by rfl, ?_⟩) ?_ ?_
  rotate_left
  · intro w'
    go_simp
    with_reducible rfl
  rotate_left
  · simp only [Act.put, sa_, sb_, sc_]
    rfl
  refine pure_ (i := 9) (N := (some 39)) (v := ?_) (a' := ?_) (bz 12 1023) rfl rfl (by kernel_rfl) (fun _ _ _ h => h) (Or.inl ⟨by rfl, ?_⟩) ?_ ?_
  rotate_left
  · intro w'
    go_simp
    with_reducible rfl
  rotate_left
  · simp only [Act.put, sa_, sb_, sc_]
    rfl
  refine pure_ (i := 10) (N := (some 6)) (v := ?_) (a' := ?_) (bz 12 2047) rfl rfl (by kernel_rfl) (fun _ _ _ h => h) (Or.inl ⟨by rfl, ?_⟩) ?_ ?_
  rotate_left
  · intro w'
    go_simp
    with_reducible rfl
  rotate_left
  · simp only [Act.put, sa_, sb_, sc_]
    rfl
  refine pure_ (i := 11) (N := (some 7)) (v := ?_) (a' := ?_) (bz 12 4095) rfl rfl (by kernel_rfl) (fun _ _ _ h => h) (Or.inl ⟨by rfl, ?_⟩) ?_ ?_
  rotate_left
  · intro w'
    go_simp
    with_reducible rfl
  rotate_left
  · simp only [Act.put, sa_, sb_, sc_]
    rfl
  refine done_ (by kernel_rfl) ?_
  go_upto_region 7 with (fail)
  refine start_ (n := 12) (S := fun w' => w'.cell? ⟨p, 0, none⟩ = some (.map (some bn)) ∧ w'.cell? ⟨w.heap.size, 4, none⟩ = some (.int .i64 (b))) (ds := []) (bz 12 0) (by kernel_rfl) rfl rfl ⟨cn0, cb4⟩ (fun hHeld => ?_)
  refine pure_ (i := 0) (N := (some 41)) (v := ?_) (a' := ?_) (bz 12 1) rfl rfl (by kernel_rfl) (fun _ _ _ h => h) (Or.inl ⟨by rfl, ?_⟩) ?_ ?_
  rotate_left
  · intro w'
    go_simp
    with_reducible rfl
  rotate_left
  · simp only [Act.put, sa_, sb_, sc_]
    rfl
  refine pure_ (i := 1) (N := (some 42)) (v := ?_) (a' := ?_) (bz 12 3) rfl rfl (by kernel_rfl) (fun _ _ _ h => h) (Or.inl ⟨by rfl, ?_⟩) ?_ ?_
  rotate_left
  · intro w'
    go_simp
    with_reducible rfl
  rotate_left
  · simp only [Act.put, sa_, sb_, sc_]
    rfl
  refine pure_ (i := 2) (N := (some 43)) (v := ?_) (a' := ?_) (bz 12 7) rfl rfl (by kernel_rfl) (fun _ _ _ h => h) (Or.inl ⟨by rfl, ?_⟩) ?_ ?_
  rotate_left
  · intro w'
    go_simp
    with_reducible rfl
  rotate_left
  · simp only [Act.put, sa_, sb_, sc_]
    rfl
  refine pure_ (i := 4) (N := (some 45)) (v := ?_) (a' := ?_) (bz 12 23) rfl rfl (by kernel_rfl) (fun _ _ _ h => h) (Or.inl ⟨by rfl, ?_⟩) ?_ ?_
  rotate_left
  · intro w'
    go_simp
    with_reducible rfl
  rotate_left
  · simp only [Act.put, sa_, sb_, sc_]
    rfl
  refine take_ (i := 3) (N := (some 44)) (v := ?_) (a' := ?_) (bz 12 31) rfl rfl (by kernel_rfl) (fun _ _ _ h => h) (Or.inl ⟨by rfl, ?_⟩) hHeld ?_ ?_
  rotate_left
  · rintro w' ⟨s0, s1⟩
    go_simp
    with_reducible rfl
  rotate_left
  · simp only [Act.put, sa_, sb_, sc_]
    rfl
  refine take_ (i := 5) (N := (some 46)) (v := ?_) (a' := ?_) (bz 12 63) rfl rfl (by kernel_rfl) (fun _ _ _ h => h) (Or.inl ⟨by rfl, ?_⟩) hHeld ?_ ?_
  rotate_left
  · rintro w' ⟨s0, s1⟩
    go_simp
    with_reducible rfl
  rotate_left
  · simp only [Act.put, sa_, sb_, sc_]
    rfl
  refine one_ (i := 6) (N := (some 47)) (bz 12 127) rfl rfl (by kernel_rfl) (by decide) (fun K hK => ?_)
  refine look_ (by rfl) rfl _ _ 104 rfl 3 46 kInt_law Tryz.underlying104 Tryz.underlying46 (Tryz.zeroValue46 _) bn _ DN rfl (World.ownsMap.drew (World.ownsMap.drew hown)) _ hRN (b) rfl hk4 ?_
  refine hK.out _ _ ⟨cn0, cb4⟩ (fun hHeld => ?_)
  clear hK K
  refine norm_ (a' := ?_) ?_ ?_
  rotate_left
  · show Act.put _ (some 47) _ = _
    simp only [Act.put, sa_, sb_, sc_]
    rfl
  refine pure_ (i := 7) (N := (some 40)) (v := ?_) (a' := ?_) (bz 12 255) rfl rfl (by kernel_rfl) (fun _ _ _ h => h) (Or.inl ⟨by rfl, ?_⟩) ?_ ?_
  rotate_left
  · intro w'
    go_simp
    with_reducible rfl
  rotate_left
  · simp only [Act.put, sa_, sb_, sc_]
    rfl
  refine pure_ (i := 8) (N := (some 48)) (v := ?_) (a' := ?_) (bz 12 511) rfl rfl (by kernel_rfl) (fun _ _ _ h => h) (Or.inl ⟨by rfl, ?_⟩) ?_ ?_
  rotate_left
  · intro w'
    go_simp
    with_reducible rfl
  rotate_left
  · simp only [Act.put, sa_, sb_, sc_]
    rfl
  refine pure_ (i := 9) (N := (some 49)) (v := ?_) (a' := ?_) (bz 12 1023) rfl rfl (by kernel_rfl) (fun _ _ _ h => h) (Or.inl ⟨by rfl, ?_⟩) ?_ ?_
  rotate_left
  · intro w'
    go_simp
    with_reducible rfl
  rotate_left
  · simp only [Act.put, sa_, sb_, sc_]
    rfl
  refine pure_ (i := 10) (N := (some 8)) (v := ?_) (a' := ?_) (bz 12 2047) rfl rfl (by kernel_rfl) (fun _ _ _ h => h) (Or.inl ⟨by rfl, ?_⟩) ?_ ?_
  rotate_left
  · intro w'
    go_simp
    with_reducible rfl
  rotate_left
  · simp only [Act.put, sa_, sb_, sc_]
    rfl
  refine pure_ (i := 11) (N := (some 9)) (v := ?_) (a' := ?_) (bz 12 4095) rfl rfl (by kernel_rfl) (fun _ _ _ h => h) (Or.inl ⟨by rfl, ?_⟩) ?_ ?_
  rotate_left
  · intro w'
    go_simp
    with_reducible rfl
  rotate_left
  · simp only [Act.put, sa_, sb_, sc_]
    rfl
  refine done_ (by kernel_rfl) ?_
  have hF8 := hF7.drew.drew
  clear hF7 cn0 cb3 cb4 hown
  generalize w7.drew.drew = w8 at hF8 ⊢
  have C8 := hF8.B.cell
  go_upto_region 21 with (first | (go_at_call 76; go_must (refine (HS.out _ _ _ _ _ _).mono ?_); rintro e w9 ⟨rfl, hb9⟩; rw [hset]; have hF9 := hF8.below hb9; have C9 := hF9.B.cell; have Z9 := hF9.Z.cell; have fz := hF9.Z.free) | (go_at_call 77; go_must (refine (set_c hF9.F d (by omega) (by omega)).mono ?_); rintro e w10 ⟨rfl, hG10, hT10⟩; have hF10 := hF9.turn hG10 hT10; have C10 := hF10.B.cell; have Z10 := hF10.Z.cell; have fz10 := hF10.Z.free))
  obtain ⟨D2, hown2, hR2⟩ := hF10.F.sm
  have sz2 := (hF10.F.sizes).2 D2 hR2
  have cn1 : w10.cell? ⟨p, 1, none⟩ = some (.map (some bs)) := hF10.F.pc.cell 1
  have cd2 : w10.cell? ⟨w.heap.size, 2, none⟩ = some (.int .i64 d) := hF10.B.cell 2
  have cx2 : w10.cell? ⟨w.heap.size, 3, none⟩ = some (.int .i64 (f.of a)) := hF10.B.cell 3
  have hkd := keyI (x := d) (by omega) (by omega)
  refine start_ (n := 9) (S := fun w' => w'.cell? ⟨p, 1, none⟩ = some (.map (some bs)) ∧ w'.cell? ⟨w.heap.size, 2, none⟩ = some (.int .i64 d) ∧ w'.cell? ⟨w.heap.size, 3, none⟩ = some (.int .i64 (f.of a))) (ds := [8]) (bz 9 0) (by kernel_rfl) rfl rfl ⟨cn1, cd2, cx2⟩ (fun hHeld => ?_)
  refine pure_ (i := 0) (N := (some 110)) (v := ?_) (a' := ?_) (bz 9 1) rfl rfl (by kernel_rfl) (fun _ _ _ h => h) (Or.inl ⟨by rfl, ?_⟩) ?_ ?_
  rotate_left
  · intro w'
    go_simp
    with_reducible rfl
  rotate_left
  · simp only [Act.put, sa_, sb_, sc_]
    rfl
  refine pure_ (i := 1) (N := (some 111)) (v := ?_) (a' := ?_) (bz 9 3) rfl rfl (by kernel_rfl) (fun _ _ _ h => h) (Or.inl ⟨by rfl, ?_⟩) ?_ ?_
  rotate_left
  · intro w'
    go_simp
    with_reducible rfl
  rotate_left
  · simp only [Act.put, sa_, sb_, sc_]
    rfl
  refine pure_ (i := 2) (N := (some 112)) (v := ?_) (a' := ?_) (bz 9 7) rfl rfl (by kernel_rfl) (fun _ _ _ h => h) (Or.inl ⟨by rfl, ?_⟩) ?_ ?_
  rotate_left
  · intro w'
    go_simp
    with_reducible rfl
  rotate_left
  · simp only [Act.put, sa_, sb_, sc_]
    rfl
  refine pure_ (i := 4) (N := (some 114)) (v := ?_) (a' := ?_) (bz 9 23) rfl rfl (by kernel_rfl) (fun _ _ _ h => h) (Or.inl ⟨by rfl, ?_⟩) ?_ ?_
  rotate_left
  · intro w'
    go_simp
    with_reducible rfl
  rotate_left
  · simp only [Act.put, sa_, sb_, sc_]
    rfl
  refine pure_ (i := 6) (N := (some 116)) (v := ?_) (a' := ?_) (bz 9 87) rfl rfl (by kernel_rfl) (fun _ _ _ h => h) (Or.inl ⟨by rfl, ?_⟩) ?_ ?_
  rotate_left
  · intro w'
    go_simp
    with_reducible rfl
  rotate_left
  · simp only [Act.put, sa_, sb_, sc_]
    rfl
  refine take_ (i := 3) (N := (some 113)) (v := ?_) (a' := ?_) (bz 9 95) rfl rfl (by kernel_rfl) (fun _ _ _ h => h) (Or.inl ⟨by rfl, ?_⟩) hHeld ?_ ?_
  rotate_left
  · rintro w' ⟨s0, s1, s2⟩
    go_simp
    with_reducible rfl
  rotate_left
  · simp only [Act.put, sa_, sb_, sc_]
    rfl
  refine take_ (i := 5) (N := (some 115)) (v := ?_) (a' := ?_) (bz 9 127) rfl rfl (by kernel_rfl) (fun _ _ _ h => h) (Or.inl ⟨by rfl, ?_⟩) hHeld ?_ ?_
  rotate_left
  · rintro w' ⟨s0, s1, s2⟩
    go_simp
    with_reducible rfl
  rotate_left
  · simp only [Act.put, sa_, sb_, sc_]
    rfl
  refine take_ (i := 7) (N := (some 117)) (v := ?_) (a' := ?_) (bz 9 255) rfl rfl (by kernel_rfl) (fun _ _ _ h => h) (Or.inl ⟨by rfl, ?_⟩) hHeld ?_ ?_
  rotate_left
  · rintro w' ⟨s0, s1, s2⟩
    go_simp
    with_reducible rfl
  rotate_left
  · simp only [Act.put, sa_, sb_, sc_]
    rfl
  refine last_ (i := 8) (N := none) (bz 9 511) rfl rfl (by kernel_rfl) (by decide) (fun K hK => ?_)
  refine update_ (by rfl) rfl _ _ _ 105 rfl 3 3 kInt_law Tryz.underlying105 _ bs _ D2 rfl (World.ownsMap.drew hown2) (by unfold maxLen; omega) _ (.int .i64 (f.of a)) _ rfl rfl hkd _ [] (plainElem_int Tryz.underlying3 (WalkArith.wf_i64 ⟨by omega, by omega⟩)) (fun w11 o11 t11 => ?_)
  refine hK.out _ _ ?_
  clear hK K
  refine done_ (by kernel_rfl) ?_
  have hF11 := hF10.drew.putS hR2 (f.of a) hd ⟨by omega, by omega⟩ o11 t11
  have C11 := hF11.B.cell
  have Z11 := hF11.Z.cell
  have fz11 := hF11.Z.free
  go_wp2_with fail
  obtain ⟨e1, e2, e3⟩ := hF11.post (.int .u8 2) (.int .u8 fn) (.int .i64 d) (.int .i64 (f.of a)) (.int .i64 b) (.int .u64 imm)
  exact fold_end rfl e1 rfl ⟨rfl, e2, e3⟩
set_option maxRecDepth 100000 in
set_option maxHeartbeats 4000000 in
theorem fold_cu {w : World} {p bn bs n : Nat} {f : Fx} (h : Fcts w p bn bs n f) (fn d a b imm : Int) (x y : Int) (hna : f.nums (f.of a) = some x) (hnb : f.nums (f.of b) = some y) (hn : n ≤ 100000) (ho : OpW n ⟨3, fn, d, a, b, imm⟩) :
    Calls Tryz.prog 55 #[.pointer (some ⟨p, 0, none⟩), .agg (opC 3 fn d a b imm)] w (FoldPost w p bn bs n f ⟨3, fn, d, a, b, imm⟩) := by
  have hlen : (asksL ⟨3, fn, d, a, b, imm⟩).length = 2 := by rfl
  have hask : askN 3 = 2 := by rfl
  have hset : setsB 1 = true := by rfl
  have hk13 : (3 : Int) = 1 ∨ (3 : Int) = 2 ∨ (3 : Int) = 3 ∨ (3 : Int) = 4 ∨ (3 : Int) = 5 ∨ (3 : Int) = 6 ∨ (3 : Int) = 7 ∨ (3 : Int) = 8 ∨ (3 : Int) = 9 ∨ (3 : Int) = 10 ∨ (3 : Int) = 11 ∨ (3 : Int) = 12 ∨ (3 : Int) = 13 := by decide
  have ha : 0 ≤ a ∧ a < (n : Int) := ho.hi.a (show 0 < askN 3 by omega)
  have ra := h.st.of ha
  have hb : 0 ≤ b ∧ b < (n : Int) := ho.hi.b (show 1 < askN 3 by omega)
  have rb := h.st.of hb
  have hd : 0 ≤ d ∧ d < (n : Int) := ho.hi.d (show setsB 3 = true by rfl)
  have hx := (h.st.nums _ _ hna).2
  have hy := (h.st.nums _ _ hnb).2
  have hz := aluP_range fn x y hx.1 hx.2 hy.1 hy.2
  have HW := Lib.hid (fun w => wordOp_c fn x y (ho.fn3 rfl).1 (ho.fn3 rfl).2 hx.1 hx.2 hy.1 hy.2 w)
  have hfo : foldO f ⟨3, fn, d, a, b, imm⟩ = constOp d (aluP fn x y) := by simp [foldO, fold2, fold1, askN, hna, hnb]
  have hff : foldF f (constOp d (aluP fn x y)) = (f.set d).num d (aluP fn x y) := by simp [foldF, constOp, setsB]
  unfold FoldPost
  rw [hfo, hff]
  obtain ⟨w1, hw1, hF1⟩ := fw_begin h (opC 3 fn d a b imm)
  have HA := Lib.hid (fun w => asks_lit 3 hk13 fn d a b imm w)
  have HO := Lib.hid (fun w (h : Fcts w p bn bs n f) v h0 h1 => of_c h v h0 h1)
  have HS := Lib.hid (fun k fn a b imm w => sets_c k fn d a b imm w)
  clear hfo hff
  go_enter Tryz.func55, Tryz.ntmps55
  go_upto_region 1 with (fail)
  rw [← hw1]
  clear hw1
  have C1 := hF1.B.cell
  go_upto_region 2 with (go_at_call 74; go_must (refine (HA.out _).mono ?_); rintro e w3 ⟨A, c, rfl, hb3, -⟩; rw [hlen])
  have hF3 := hF1.below hb3
  clear hF1 hb3 C1
  have C3 := hF3.B.cell
  go_upto_region 4 with (go_at_call 56; go_must (refine (HO.out _ hF3.F a (by omega) (by omega)).mono ?_); rintro e w4 ⟨rfl, hb4⟩; have C4 := (hF3.below hb4).B.cell; have f4 := (hF3.below hb4).B.free 3)
  have hF5 : FW w (w4.setCell ⟨w.heap.size, 3, none⟩ (.int .i64 (f.of a))) p bn bs n f (opC 3 fn d (f.of a) b imm) := (hF3.below hb4).setB 3 _
  clear hF3 hb4 C3 C4 f4
  generalize w4.setCell ⟨w.heap.size, 3, none⟩ (.int .i64 (f.of a)) = w5 at hF5 ⊢
  have C5 := hF5.B.cell
  go_upto_region 6 with (go_at_call 56; go_must (refine (HO.out _ hF5.F b (by omega) (by omega)).mono ?_); rintro e w6 ⟨rfl, hb6⟩; have C6 := (hF5.below hb6).B.cell; have f6 := (hF5.below hb6).B.free 4)
  have hF7 : FW w (w6.setCell ⟨w.heap.size, 4, none⟩ (.int .i64 (f.of b))) p bn bs n f (opC 3 fn d (f.of a) (f.of b) imm) := (hF5.below hb6).setB 4 _
  clear hF5 hb6 C5 C6 f6
  generalize w6.setCell ⟨w.heap.size, 4, none⟩ (.int .i64 (f.of b)) = w7 at hF7 ⊢
  obtain ⟨DN, hown, hRN⟩ := hF7.F.nm
  have cn0 : w7.cell? ⟨p, 0, none⟩ = some (.map (some bn)) := hF7.F.pc.cell 0
  have cb3 : w7.cell? ⟨w.heap.size, 3, none⟩ = some (.int .i64 (f.of a)) := hF7.B.cell 3
  have cb4 : w7.cell? ⟨w.heap.size, 4, none⟩ = some (.int .i64 (f.of b)) := hF7.B.cell 4
  have hk3 := keyI (x := f.of a) (by omega) (by omega)
  have hk4 := keyI (x := f.of b) (by omega) (by omega)
  refine start_ (n := 12) (S := fun w' => w'.cell? ⟨p, 0, none⟩ = some (.map (some bn)) ∧ w'.cell? ⟨w.heap.size, 3, none⟩ = some (.int .i64 (f.of a))) (ds := []) (bz 12 0) (by kernel_rfl) rfl rfl ⟨cn0, cb3⟩ (fun hHeld => ?_)
  refine pure_ (i := 0) (N := (some 31)) (v := ?_) (a' := ?_) (bz 12 1) rfl rfl (by kernel_rfl) (fun _ _ _ h => h) (Or.inl ⟨by rfl, ?_⟩) ?_ ?_
  rotate_left
  · intro w'
    go_simp
    with_reducible rfl
  rotate_left
  · simp only [Act.put, sa_, sb_, sc_]
    rfl
  refine pure_ (i := 1) (N := (some 32)) (v := ?_) (a' := ?_) (bz 12 3) rfl rfl (by kernel_rfl) (fun _ _ _ h => h) (Or.inl ⟨by rfl, ?_⟩) ?_ ?_
  rotate_left
  · intro w'
    go_simp
    with_reducible rfl
  rotate_left
  · simp only [Act.put, sa_, sb_, sc_]
    rfl
  refine pure_ (i := 2) (N := (some 33)) (v := ?_) (a' := ?_) (bz 12 7) rfl rfl (by kernel_rfl) (fun _ _ _ h => h) (Or.inl ⟨by rfl, ?_⟩) ?_ ?_
  rotate_left
  · intro w'
    go_simp
    with_reducible rfl
  rotate_left
  · simp only [Act.put, sa_, sb_, sc_]
    rfl
  refine pure_ (i := 4) (N := (some 35)) (v := ?_) (a' := ?_) (bz 12 23) rfl rfl (by kernel_rfl) (fun _ _ _ h => h) (Or.inl ⟨by rfl, ?_⟩) ?_ ?_
  rotate_left
  · intro w'
    go_simp
    with_reducible rfl
  rotate_left
  · simp only [Act.put, sa_, sb_, sc_]
    rfl
  refine take_ (i := 3) (N := (some 34)) (v := ?_) (a' := ?_) (bz 12 31) rfl rfl (by kernel_rfl) (fun _ _ _ h => h) (Or.inl ⟨by rfl, ?_⟩) hHeld ?_ ?_
  rotate_left
  · rintro w' ⟨s0, s1⟩
    go_simp
    with_reducible rfl
  rotate_left
  · simp only [Act.put, sa_, sb_, sc_]
    rfl
  refine take_ (i := 5) (N := (some 36)) (v := ?_) (a' := ?_) (bz 12 63) rfl rfl (by kernel_rfl) (fun _ _ _ h => h) (Or.inl ⟨by rfl, ?_⟩) hHeld ?_ ?_
  rotate_left
  · rintro w' ⟨s0, s1⟩
    go_simp
    with_reducible rfl
  rotate_left
  · simp only [Act.put, sa_, sb_, sc_]
    rfl
  refine one_ (i := 6) (N := (some 37)) (bz 12 127) rfl rfl (by kernel_rfl) (by decide) (fun K hK => ?_)
  refine look_ (by rfl) rfl _ _ 104 rfl 3 46 kInt_law Tryz.underlying104 Tryz.underlying46 (Tryz.zeroValue46 _) bn _ DN rfl (World.ownsMap.drew hown) _ hRN (f.of a) rfl hk3 ?_
  rw [hna]
  simp only [Option.getD_some, Option.isSome_some]
  refine hK.out _ _ ⟨cn0, cb3⟩ (fun hHeld => ?_)
  clear hK K
  refine norm_ (a' := ?_) ?_ ?_
  rotate_left
  · show Act.put _ (some 37) _ = _
    simp only [Act.put, sa_, sb_, sc_]
    rfl
  refine pure_ (i := 7) (N := (some 30)) (v := ?_) (a' := ?_) (bz 12 255) rfl rfl (by kernel_rfl) (fun _ _ _ h => h) (Or.inl ⟨by rfl, ?_⟩) ?_ ?_
  rotate_left
  · intro w'
    go_simp
    with_reducible rfl
  rotate_left
  · simp only [Act.put, sa_, sb_, sc_]
    rfl
  refine pure_ (i := 8) (N := (some 38)) (v := ?_) (a' := ?_) (bz 12 511) rfl rfl (by kernel_rfl) (fun _ _ _ h => h) (Or.inl ⟨by rfl, ?_⟩) ?_ ?_
  rotate_left
  · intro w'
    go_simp
    with_reducible rfl
  rotate_left
  · simp only [Act.put, sa_, sb_, sc_]
    rfl
  refine pure_ (i := 9) (N := (some 39)) (v := ?_) (a' := ?_) (bz 12 1023) rfl rfl (by kernel_rfl) (fun _ _ _ h => h) (Or.inl ⟨by rfl, ?_⟩) ?_ ?_
  rotate_left
  · intro w'
    go_simp
    with_reducible rfl
  rotate_left
  · simp only [Act.put, sa_, sb_, sc_]
    rfl
  refine pure_ (i := 10) (N := (some 6)) (v := ?_) (a' := ?_) (bz 12 2047) rfl rfl (by kernel_rfl) (fun _ _ _ h => h) (Or.inl ⟨by rfl, ?_⟩) ?_ ?_
  rotate_left
  · intro w'
    go_simp
    with_reducible rfl
  rotate_left
  · simp only [Act.put, sa_, sb_, sc_]
    rfl
  refine pure_ (i := 11) (N := (some 7)) (v := ?_) (a' := ?_) (bz 12 4095) rfl rfl (by kernel_rfl) (fun _ _ _ h => h) (Or.inl ⟨by rfl, ?_⟩) ?_ ?_
  rotate_left
  · intro w'
    go_simp
    with_reducible rfl
  rotate_left
  · simp only [Act.put, sa_, sb_, sc_]
    rfl
  refine done_ (by kernel_rfl) ?_
  go_upto_region 7 with (fail)
  refine start_ (n := 12) (S := fun w' => w'.cell? ⟨p, 0, none⟩ = some (.map (some bn)) ∧ w'.cell? ⟨w.heap.size, 4, none⟩ = some (.int .i64 (f.of b))) (ds := []) (bz 12 0) (by kernel_rfl) rfl rfl ⟨cn0, cb4⟩ (fun hHeld => ?_)
  refine pure_ (i := 0) (N := (some 41)) (v := ?_) (a' := ?_) (bz 12 1) rfl rfl (by kernel_rfl) (fun _ _ _ h => h) (Or.inl ⟨by rfl, ?_⟩) ?_ ?_
  rotate_left
  · intro w'
    go_simp
    with_reducible rfl
  rotate_left
  · simp only [Act.put, sa_, sb_, sc_]
    rfl
  refine pure_ (i := 1) (N := (some 42)) (v := ?_) (a' := ?_) (bz 12 3) rfl rfl (by kernel_rfl) (fun _ _ _ h => h) (Or.inl ⟨by rfl, ?_⟩) ?_ ?_
  rotate_left
  · intro w'
    go_simp
    with_reducible rfl
  rotate_left
  · simp only [Act.put, sa_, sb_, sc_]
    rfl
  refine pure_ (i := 2) (N := (some 43)) (v := ?_) (a' := ?_) (bz 12 7) rfl rfl (by kernel_rfl) (fun _ _ _ h => h) (Or.inl ⟨by rfl, ?_⟩) ?_ ?_
  rotate_left
  · intro w'
    go_simp
    with_reducible rfl
  rotate_left
  · simp only [Act.put, sa_, sb_, sc_]
    rfl
  refine pure_ (i := 4) (N := (some 45)) (v := ?_) (a' := ?_) (bz 12 23) rfl rfl (by kernel_rfl) (fun _ _ _ h => h) (Or.inl ⟨by rfl, ?_⟩) ?_ ?_
  rotate_left
  · intro w'
    go_simp
    with_reducible rfl
  rotate_left
  · simp only [Act.put, sa_, sb_, sc_]
    rfl
  refine take_ (i := 3) (N := (some 44)) (v := ?_) (a' := ?_) (bz 12 31) rfl rfl (by kernel_rfl) (fun _ _ _ h => h) (Or.inl ⟨by rfl, ?_⟩) hHeld ?_ ?_
  rotate_left
  · rintro w' ⟨s0, s1⟩
    go_simp
    with_reducible rfl
  rotate_left
  · simp only [Act.put, sa_, sb_, sc_]
    rfl
  refine take_ (i := 5) (N := (some 46)) (v := ?_) (a' := ?_) (bz 12 63) rfl rfl (by kernel_rfl) (fun _ _ _ h => h) (Or.inl ⟨by rfl, ?_⟩) hHeld ?_ ?_
  rotate_left
  · rintro w' ⟨s0, s1⟩
    go_simp
    with_reducible rfl
  rotate_left
  · simp only [Act.put, sa_, sb_, sc_]
    rfl
  refine one_ (i := 6) (N := (some 47)) (bz 12 127) rfl rfl (by kernel_rfl) (by decide) (fun K hK => ?_)
  refine look_ (by rfl) rfl _ _ 104 rfl 3 46 kInt_law Tryz.underlying104 Tryz.underlying46 (Tryz.zeroValue46 _) bn _ DN rfl (World.ownsMap.drew (World.ownsMap.drew hown)) _ hRN (f.of b) rfl hk4 ?_
  rw [hnb]
  simp only [Option.getD_some, Option.isSome_some]
  refine hK.out _ _ ⟨cn0, cb4⟩ (fun hHeld => ?_)
  clear hK K
  refine norm_ (a' := ?_) ?_ ?_
  rotate_left
  · show Act.put _ (some 47) _ = _
    simp only [Act.put, sa_, sb_, sc_]
    rfl
  refine pure_ (i := 7) (N := (some 40)) (v := ?_) (a' := ?_) (bz 12 255) rfl rfl (by kernel_rfl) (fun _ _ _ h => h) (Or.inl ⟨by rfl, ?_⟩) ?_ ?_
  rotate_left
  · intro w'
    go_simp
    with_reducible rfl
  rotate_left
  · simp only [Act.put, sa_, sb_, sc_]
    rfl
  refine pure_ (i := 8) (N := (some 48)) (v := ?_) (a' := ?_) (bz 12 511) rfl rfl (by kernel_rfl) (fun _ _ _ h => h) (Or.inl ⟨by rfl, ?_⟩) ?_ ?_
  rotate_left
  · intro w'
    go_simp
    with_reducible rfl
  rotate_left
  · simp only [Act.put, sa_, sb_, sc_]
    rfl
  refine pure_ (i := 9) (N := (some 49)) (v := ?_) (a' := ?_) (bz 12 1023) rfl rfl (by kernel_rfl) (fun _ _ _ h => h) (Or.inl ⟨by rfl, ?_⟩) ?_ ?_
  rotate_left
  · intro w'
    go_simp
    with_reducible rfl
  rotate_left
  · simp only [Act.put, sa_, sb_, sc_]
    rfl
  refine pure_ (i := 10) (N := (some 8)) (v := ?_) (a' := ?_) (bz 12 2047) rfl rfl (by kernel_rfl) (fun _ _ _ h => h) (Or.inl ⟨by rfl, ?_⟩) ?_ ?_
  rotate_left
  · intro w'
    go_simp
    with_reducible rfl
  rotate_left
  · simp only [Act.put, sa_, sb_, sc_]
    rfl
  refine pure_ (i := 11) (N := (some 9)) (v := ?_) (a' := ?_) (bz 12 4095) rfl rfl (by kernel_rfl) (fun _ _ _ h => h) (Or.inl ⟨by rfl, ?_⟩) ?_ ?_
  rotate_left
  · intro w'
    go_simp
    with_reducible rfl
  rotate_left
  · simp only [Act.put, sa_, sb_, sc_]
    rfl
  refine done_ (by kernel_rfl) ?_
  have hF8 := hF7.drew.drew
  clear hF7 cn0 cb3 cb4 hown
  generalize w7.drew.drew = w8 at hF8 ⊢
  have C8 := hF8.B.cell
  have fz8 := hF8.B.free
  go_upto_region 13 with (go_at_call 75; go_must (refine (HW.out _).mono ?_); rintro e w8b ⟨rfl, hb8⟩; have hF8b := hF8.below hb8; have C8b := hF8b.B.cell; have f8b := hF8b.B.free)
  have hFb := hF8b.store6 rfl (.int .u8 1) (.int .u8 0) (.int .i64 d) (.int .i64 0) (.int .i64 0) (.int .u64 (aluP fn x y))
  clear hF8 hF8b C8 C8b f8b fz8
  generalize ((((((w8b.setCell ⟨w.heap.size, 0, none⟩ (.int .u8 1)).setCell ⟨w.heap.size, 1, none⟩ (.int .u8 0)).setCell ⟨w.heap.size, 2, none⟩ (.int .i64 d)).setCell ⟨w.heap.size, 3, none⟩ (.int .i64 0)).setCell ⟨w.heap.size, 4, none⟩ (.int .i64 0)).setCell ⟨w.heap.size, 5, none⟩ (.int .u64 (aluP fn x y))) = wb at hFb ⊢
  have Cb := hFb.B.cell
  go_upto_region 18 with (first | (go_at_call 76; go_must (refine (HS.out _ _ _ _ _ _).mono ?_); rintro e w9 ⟨rfl, hb9⟩; rw [hset]; have hF9 := hFb.below hb9; have C9 := hF9.B.cell; have Z9 := hF9.Z.cell; have fz := hF9.Z.free) | (go_at_call 77; go_must (refine (set_c hF9.F d (by omega) (by omega)).mono ?_); rintro e w10 ⟨rfl, hG10, hT10⟩; have hF10 := hF9.turn hG10 hT10; have C10 := hF10.B.cell; have Z10 := hF10.Z.cell; have fz10 := hF10.Z.free))
  obtain ⟨D2, hown2, hR2⟩ := hF10.F.nm
  have sz2 := (hF10.F.sizes).1 D2 hR2
  have cn1 : w10.cell? ⟨p, 0, none⟩ = some (.map (some bn)) := hF10.F.pc.cell 0
  have cd2 : w10.cell? ⟨w.heap.size, 2, none⟩ = some (.int .i64 d) := hF10.B.cell 2
  have cx2 : w10.cell? ⟨w.heap.size, 5, none⟩ = some (.int .u64 (aluP fn x y)) := hF10.B.cell 5
  have hkd := keyI (x := d) (by omega) (by omega)
  refine start_ (n := 9) (S := fun w' => w'.cell? ⟨p, 0, none⟩ = some (.map (some bn)) ∧ w'.cell? ⟨w.heap.size, 2, none⟩ = some (.int .i64 d) ∧ w'.cell? ⟨w.heap.size, 5, none⟩ = some (.int .u64 (aluP fn x y))) (ds := [8]) (bz 9 0) (by kernel_rfl) rfl rfl ⟨cn1, cd2, cx2⟩ (fun hHeld => ?_)
  refine pure_ (i := 0) (N := (some 95)) (v := ?_) (a' := ?_) (bz 9 1) rfl rfl (by kernel_rfl) (fun _ _ _ h => h) (Or.inl ⟨by rfl, ?_⟩) ?_ ?_
  rotate_left
  · intro w'
    go_simp
    with_reducible rfl
  rotate_left
  · simp only [Act.put, sa_, sb_, sc_]
    rfl
  refine pure_ (i := 1) (N := (some 96)) (v := ?_) (a' := ?_) (bz 9 3) rfl rfl (by kernel_rfl) (fun _ _ _ h => h) (Or.inl ⟨by rfl, ?_⟩) ?_ ?_
  rotate_left
  · intro w'
    go_simp
    with_reducible rfl
  rotate_left
  · simp only [Act.put, sa_, sb_, sc_]
    rfl
  refine pure_ (i := 2) (N := (some 97)) (v := ?_) (a' := ?_) (bz 9 7) rfl rfl (by kernel_rfl) (fun _ _ _ h => h) (Or.inl ⟨by rfl, ?_⟩) ?_ ?_
  rotate_left
  · intro w'
    go_simp
    with_reducible rfl
  rotate_left
  · simp only [Act.put, sa_, sb_, sc_]
    rfl
  refine pure_ (i := 4) (N := (some 99)) (v := ?_) (a' := ?_) (bz 9 23) rfl rfl (by kernel_rfl) (fun _ _ _ h => h) (Or.inl ⟨by rfl, ?_⟩) ?_ ?_
  rotate_left
  · intro w'
    go_simp
    with_reducible rfl
  rotate_left
  · simp only [Act.put, sa_, sb_, sc_]
    rfl
  refine pure_ (i := 6) (N := (some 101)) (v := ?_) (a' := ?_) (bz 9 87) rfl rfl (by kernel_rfl) (fun _ _ _ h => h) (Or.inl ⟨by rfl, ?_⟩) ?_ ?_
  rotate_left
  · intro w'
    go_simp
    with_reducible rfl
  rotate_left
  · simp only [Act.put, sa_, sb_, sc_]
    rfl
  refine take_ (i := 3) (N := (some 98)) (v := ?_) (a' := ?_) (bz 9 95) rfl rfl (by kernel_rfl) (fun _ _ _ h => h) (Or.inl ⟨by rfl, ?_⟩) hHeld ?_ ?_
  rotate_left
  · rintro w' ⟨s0, s1, s2⟩
    go_simp
    with_reducible rfl
  rotate_left
  · simp only [Act.put, sa_, sb_, sc_]
    rfl
  refine take_ (i := 5) (N := (some 100)) (v := ?_) (a' := ?_) (bz 9 127) rfl rfl (by kernel_rfl) (fun _ _ _ h => h) (Or.inl ⟨by rfl, ?_⟩) hHeld ?_ ?_
  rotate_left
  · rintro w' ⟨s0, s1, s2⟩
    go_simp
    with_reducible rfl
  rotate_left
  · simp only [Act.put, sa_, sb_, sc_]
    rfl
  refine take_ (i := 7) (N := (some 102)) (v := ?_) (a' := ?_) (bz 9 255) rfl rfl (by kernel_rfl) (fun _ _ _ h => h) (Or.inl ⟨by rfl, ?_⟩) hHeld ?_ ?_
  rotate_left
  · rintro w' ⟨s0, s1, s2⟩
    go_simp
    with_reducible rfl
  rotate_left
  · simp only [Act.put, sa_, sb_, sc_]
    rfl
  refine last_ (i := 8) (N := none) (bz 9 511) rfl rfl (by kernel_rfl) (by decide) (fun K hK => ?_)
  refine update_ (by rfl) rfl _ _ _ 104 rfl 3 46 kInt_law Tryz.underlying104 _ bn _ D2 rfl (World.ownsMap.drew hown2) (by unfold maxLen; omega) _ (.int .u64 (aluP fn x y)) _ rfl rfl hkd _ [] (plainElem_int Tryz.underlying46 (WalkArith.wf_u64 ⟨by omega, by omega⟩)) (fun w11 o11 t11 => ?_)
  refine hK.out _ _ ?_
  clear hK K
  refine done_ (by kernel_rfl) ?_
  have hF11 := hF10.drew.putN hR2 (aluP fn x y) hd ⟨by omega, by omega⟩ o11 t11
  have C11 := hF11.B.cell
  have Z11 := hF11.Z.cell
  have fz11 := hF11.Z.free
  go_wp2_with fail
  obtain ⟨e1, e2, e3⟩ := hF11.post (.int .u8 1) (.int .u8 0) (.int .i64 d) (.int .i64 0) (.int .i64 0) (.int .u64 (aluP fn x y))
  exact fold_end rfl e1 rfl ⟨rfl, e2, e3⟩
set_option maxRecDepth 100000 in
set_option maxHeartbeats 4000000 in
theorem fold_s3a {w : World} {p bn bs n : Nat} {f : Fx} (h : Fcts w p bn bs n f) (fn d a b imm : Int) (hna : f.nums (f.of a) = none) (hn : n ≤ 100000) (ho : OpW n ⟨3, fn, d, a, b, imm⟩) :
    Calls Tryz.prog 55 #[.pointer (some ⟨p, 0, none⟩), .agg (opC 3 fn d a b imm)] w (FoldPost w p bn bs n f ⟨3, fn, d, a, b, imm⟩) := by
  have hlen : (asksL ⟨3, fn, d, a, b, imm⟩).length = 2 := by rfl
  have hask : askN 3 = 2 := by rfl
  have hset : setsB 3 = true := by rfl
  have hk13 : (3 : Int) = 1 ∨ (3 : Int) = 2 ∨ (3 : Int) = 3 ∨ (3 : Int) = 4 ∨ (3 : Int) = 5 ∨ (3 : Int) = 6 ∨ (3 : Int) = 7 ∨ (3 : Int) = 8 ∨ (3 : Int) = 9 ∨ (3 : Int) = 10 ∨ (3 : Int) = 11 ∨ (3 : Int) = 12 ∨ (3 : Int) = 13 := by decide
  have ha : 0 ≤ a ∧ a < (n : Int) := ho.hi.a (show 0 < askN 3 by omega)
  have ra := h.st.of ha
  have hb : 0 ≤ b ∧ b < (n : Int) := ho.hi.b (show 1 < askN 3 by omega)
  have rb := h.st.of hb
  have hd : 0 ≤ d ∧ d < (n : Int) := ho.hi.d (show setsB 3 = true by rfl)
  have hfo : foldO f ⟨3, fn, d, a, b, imm⟩ = ⟨3, fn, d, f.of a, f.of b, imm⟩ := by simp [foldO, fold2, fold1, askN, hna]
  have hff : foldF f (⟨3, fn, d, f.of a, f.of b, imm⟩) = f.set d := by rfl
  unfold FoldPost
  rw [hfo, hff]
  obtain ⟨w1, hw1, hF1⟩ := fw_begin h (opC 3 fn d a b imm)
  have HA := Lib.hid (fun w => asks_lit 3 hk13 fn d a b imm w)
  have HO := Lib.hid (fun w (h : Fcts w p bn bs n f) v h0 h1 => of_c h v h0 h1)
  have HS := Lib.hid (fun k fn a b imm w => sets_c k fn d a b imm w)
  clear hfo hff
  go_enter Tryz.func55, Tryz.ntmps55
  go_upto_region 1 with (fail)
  rw [← hw1]
  clear hw1
  have C1 := hF1.B.cell
  go_upto_region 2 with (go_at_call 74; go_must (refine (HA.out _).mono ?_); rintro e w3 ⟨A, c, rfl, hb3, -⟩; rw [hlen])
  have hF3 := hF1.below hb3
  clear hF1 hb3 C1
  have C3 := hF3.B.cell
  go_upto_region 4 with (go_at_call 56; go_must (refine (HO.out _ hF3.F a (by omega) (by omega)).mono ?_); rintro e w4 ⟨rfl, hb4⟩; have C4 := (hF3.below hb4).B.cell; have f4 := (hF3.below hb4).B.free 3)
  have hF5 : FW w (w4.setCell ⟨w.heap.size, 3, none⟩ (.int .i64 (f.of a))) p bn bs n f (opC 3 fn d (f.of a) b imm) := (hF3.below hb4).setB 3 _
  clear hF3 hb4 C3 C4 f4
  generalize w4.setCell ⟨w.heap.size, 3, none⟩ (.int .i64 (f.of a)) = w5 at hF5 ⊢
  have C5 := hF5.B.cell
  go_upto_region 6 with (go_at_call 56; go_must (refine (HO.out _ hF5.F b (by omega) (by omega)).mono ?_); rintro e w6 ⟨rfl, hb6⟩; have C6 := (hF5.below hb6).B.cell; have f6 := (hF5.below hb6).B.free 4)
  have hF7 : FW w (w6.setCell ⟨w.heap.size, 4, none⟩ (.int .i64 (f.of b))) p bn bs n f (opC 3 fn d (f.of a) (f.of b) imm) := (hF5.below hb6).setB 4 _
  clear hF5 hb6 C5 C6 f6
  generalize w6.setCell ⟨w.heap.size, 4, none⟩ (.int .i64 (f.of b)) = w7 at hF7 ⊢
  obtain ⟨DN, hown, hRN⟩ := hF7.F.nm
  have cn0 : w7.cell? ⟨p, 0, none⟩ = some (.map (some bn)) := hF7.F.pc.cell 0
  have cb3 : w7.cell? ⟨w.heap.size, 3, none⟩ = some (.int .i64 (f.of a)) := hF7.B.cell 3
  have cb4 : w7.cell? ⟨w.heap.size, 4, none⟩ = some (.int .i64 (f.of b)) := hF7.B.cell 4
  have hk3 := keyI (x := f.of a) (by omega) (by omega)
  have hk4 := keyI (x := f.of b) (by omega) (by omega)
  refine start_ (n := 12) (S := fun w' => w'.cell? ⟨p, 0, none⟩ = some (.map (some bn)) ∧ w'.cell? ⟨w.heap.size, 3, none⟩ = some (.int .i64 (f.of a))) (ds := []) (bz 12 0) (by kernel_rfl) rfl rfl ⟨cn0, cb3⟩ (fun hHeld => ?_)
  refine pure_ (i := 0) (N := (some 31)) (v := ?_) (a' := ?_) (bz 12 1) rfl rfl (by kernel_rfl) (fun _ _ _ h => h) (Or.inl ⟨by rfl, ?_⟩) ?_ ?_
  rotate_left
  · intro w'
    go_simp
    with_reducible rfl
  rotate_left
  · simp only [Act.put, sa_, sb_, sc_]
    rfl
  refine pure_ (i := 1) (N := (some 32)) (v := ?_) (a' := ?_) (bz 12 3) rfl rfl (by kernel_rfl) (fun _ _ _ h => h) (Or.inl ⟨by rfl, ?_⟩) ?_ ?_
  rotate_left
  · intro w'
    go_simp
    with_reducible rfl
  rotate_left
  · simp only [Act.put, sa_, sb_, sc_]
    rfl
  refine pure_ (i := 2) (N := (some 33)) (v := ?_) (a' := ?_) (bz 12 7) rfl rfl (by kernel_rfl) (fun _ _ _ h => h) (Or.inl ⟨by rfl, ?_⟩) ?_ ?_
  rotate_left
  · intro w'
    go_simp
    with_reducible rfl
  rotate_left
  · simp only [Act.put, sa_, sb_, sc_]
    rfl
  refine pure_ (i := 4) (N := (some 35)) (v := ?_) (a' := ?_) (bz 12 23) rfl rfl (by kernel_rfl) (fun _ _ _ h => h) (Or.inl ⟨by rfl, ?_⟩) ?_ ?_
  rotate_left
  · intro w'
    go_simp
    with_reducible rfl
  rotate_left
  · simp only [Act.put, sa_, sb_, sc_]
    rfl
  refine take_ (i := 3) (N := (some 34)) (v := ?_) (a' := ?_) (bz 12 31) rfl rfl (by kernel_rfl) (fun _ _ _ h => h) (Or.inl ⟨by rfl, ?_⟩) hHeld ?_ ?_
  rotate_left
  · rintro w' ⟨s0, s1⟩
    go_simp
    with_reducible rfl
  rotate_left
  · simp only [Act.put, sa_, sb_, sc_]
    rfl
  refine take_ (i := 5) (N := (some 36)) (v := ?_) (a' := ?_) (bz 12 63) rfl rfl (by kernel_rfl) (fun _ _ _ h => h) (Or.inl ⟨by rfl, ?_⟩) hHeld ?_ ?_
  rotate_left
  · rintro w' ⟨s0, s1⟩
    go_simp
    with_reducible rfl
  rotate_left
  · simp only [Act.put, sa_, sb_, sc_]
    rfl
  refine one_ (i := 6) (N := (some 37)) (bz 12 127) rfl rfl (by kernel_rfl) (by decide) (fun K hK => ?_)
  refine look_ (by rfl) rfl _ _ 104 rfl 3 46 kInt_law Tryz.underlying104 Tryz.underlying46 (Tryz.zeroValue46 _) bn _ DN rfl (World.ownsMap.drew hown) _ hRN (f.of a) rfl hk3 ?_
  rw [hna]
  simp only [Option.getD_none, Option.isSome_none]
  refine hK.out _ _ ⟨cn0, cb3⟩ (fun hHeld => ?_)
  clear hK K
  refine norm_ (a' := ?_) ?_ ?_
  rotate_left
  · show Act.put _ (some 37) _ = _
    simp only [Act.put, sa_, sb_, sc_]
    rfl
  refine pure_ (i := 7) (N := (some 30)) (v := ?_) (a' := ?_) (bz 12 255) rfl rfl (by kernel_rfl) (fun _ _ _ h => h) (Or.inl ⟨by rfl, ?_⟩) ?_ ?_
  rotate_left
  · intro w'
    go_simp
    with_reducible rfl
  rotate_left
  · simp only [Act.put, sa_, sb_, sc_]
    rfl
  refine pure_ (i := 8) (N := (some 38)) (v := ?_) (a' := ?_) (bz 12 511) rfl rfl (by kernel_rfl) (fun _ _ _ h => h) (Or.inl ⟨by rfl, ?_⟩) ?_ ?_
  rotate_left
  · intro w'
    go_simp
    with_reducible rfl
  rotate_left
  · simp only [Act.put, sa_, sb_, sc_]
    rfl
  refine pure_ (i := 9) (N := (some 39)) (v := ?_) (a' := ?_) (bz 12 1023) rfl rfl (by kernel_rfl) (fun _ _ _ h => h) (Or.inl ⟨by rfl, ?_⟩) ?_ ?_
  rotate_left
  · intro w'
    go_simp
    with_reducible rfl
  rotate_left
  · simp only [Act.put, sa_, sb_, sc_]
    rfl
  refine pure_ (i := 10) (N := (some 6)) (v := ?_) (a' := ?_) (bz 12 2047) rfl rfl (by kernel_rfl) (fun _ _ _ h => h) (Or.inl ⟨by rfl, ?_⟩) ?_ ?_
  rotate_left
  · intro w'
    go_simp
    with_reducible rfl
  rotate_left
  · simp only [Act.put, sa_, sb_, sc_]
    rfl
  refine pure_ (i := 11) (N := (some 7)) (v := ?_) (a' := ?_) (bz 12 4095) rfl rfl (by kernel_rfl) (fun _ _ _ h => h) (Or.inl ⟨by rfl, ?_⟩) ?_ ?_
  rotate_left
  · intro w'
    go_simp
    with_reducible rfl
  rotate_left
  · simp only [Act.put, sa_, sb_, sc_]
    rfl
  refine done_ (by kernel_rfl) ?_
  go_upto_region 7 with (fail)
  refine start_ (n := 12) (S := fun w' => w'.cell? ⟨p, 0, none⟩ = some (.map (some bn)) ∧ w'.cell? ⟨w.heap.size, 4, none⟩ = some (.int .i64 (f.of b))) (ds := []) (bz 12 0) (by kernel_rfl) rfl rfl ⟨cn0, cb4⟩ (fun hHeld => ?_)
  refine pure_ (i := 0) (N := (some 41)) (v := ?_) (a' := ?_) (bz 12 1) rfl rfl (by kernel_rfl) (fun _ _ _ h => h) (Or.inl ⟨by rfl, ?_⟩) ?_ ?_
  rotate_left
  · intro w'
    go_simp
    with_reducible rfl
  rotate_left
  · simp only [Act.put, sa_, sb_, sc_]
    rfl
  refine pure_ (i := 1) (N := (some 42)) (v := ?_) (a' := ?_) (bz 12 3) rfl rfl (by kernel_rfl) (fun _ _ _ h => h) (Or.inl ⟨by rfl, ?_⟩) ?_ ?_
  rotate_left
  · intro w'
    go_simp
    with_reducible rfl
  rotate_left
  · simp only [Act.put, sa_, sb_, sc_]
    rfl
  refine pure_ (i := 2) (N := (some 43)) (v := ?_) (a' := ?_) (bz 12 7) rfl rfl (by kernel_rfl) (fun _ _ _ h => h) (Or.inl ⟨by rfl, ?_⟩) ?_ ?_
  rotate_left
  · intro w'
    go_simp
    with_reducible rfl
  rotate_left
  · simp only [Act.put, sa_, sb_, sc_]
    rfl
  refine pure_ (i := 4) (N := (some 45)) (v := ?_) (a' := ?_) (bz 12 23) rfl rfl (by kernel_rfl) (fun _ _ _ h => h) (Or.inl ⟨by rfl, ?_⟩) ?_ ?_
  rotate_left
  · intro w'
    go_simp
    with_reducible rfl
  rotate_left
  · simp only [Act.put, sa_, sb_, sc_]
    rfl
  refine take_ (i := 3) (N := (some 44)) (v := ?_) (a' := ?_) (bz 12 31) rfl rfl (by kernel_rfl) (fun _ _ _ h => h) (Or.inl ⟨by rfl, ?_⟩) hHeld ?_ ?_
  rotate_left
  · rintro w' ⟨s0, s1⟩
    go_simp
    with_reducible rfl
  rotate_left
  · simp only [Act.put, sa_, sb_, sc_]
    rfl
  refine take_ (i := 5) (N := (some 46)) (v := ?_) (a' := ?_) (bz 12 63) rfl rfl (by kernel_rfl) (fun _ _ _ h => h) (Or.inl ⟨by rfl, ?_⟩) hHeld ?_ ?_
  rotate_left
  · rintro w' ⟨s0, s1⟩
    go_simp
    with_reducible rfl
  rotate_left
  · simp only [Act.put, sa_, sb_, sc_]
    rfl
  refine one_ (i := 6) (N := (some 47)) (bz 12 127) rfl rfl (by kernel_rfl) (by decide) (fun K hK => ?_)
  refine look_ (by rfl) rfl _ _ 104 rfl 3 46 kInt_law Tryz.underlying104 Tryz.underlying46 (Tryz.zeroValue46 _) bn _ DN rfl (World.ownsMap.drew (World.ownsMap.drew hown)) _ hRN (f.of b) rfl hk4 ?_
  refine hK.out _ _ ⟨cn0, cb4⟩ (fun hHeld => ?_)
  clear hK K
  refine norm_ (a' := ?_) ?_ ?_
  rotate_left
  · show Act.put _ (some 47) _ = _
    simp only [Act.put, sa_, sb_, sc_]
    rfl
  refine pure_ (i := 7) (N := (some 40)) (v := ?_) (a' := ?_) (bz 12 255) rfl rfl (by kernel_rfl) (fun _ _ _ h => h) (Or.inl ⟨by rfl, ?_⟩) ?_ ?_
  rotate_left
  · intro w'
    go_simp
    with_reducible rfl
  rotate_left
  · simp only [Act.put, sa_, sb_, sc_]
    rfl
  refine pure_ (i := 8) (N := (some 48)) (v := ?_) (a' := ?_) (bz 12 511) rfl rfl (by kernel_rfl) (fun _ _ _ h => h) (Or.inl ⟨by rfl, ?_⟩) ?_ ?_
  rotate_left
  · intro w'
    go_simp
    with_reducible rfl
  rotate_left
  · simp only [Act.put, sa_, sb_, sc_]
    rfl
  refine pure_ (i := 9) (N := (some 49)) (v := ?_) (a' := ?_) (bz 12 1023) rfl rfl (by kernel_rfl) (fun _ _ _ h => h) (Or.inl ⟨by rfl, ?_⟩) ?_ ?_
  rotate_left
  · intro w'
    go_simp
    with_reducible rfl
  rotate_left
  · simp only [Act.put, sa_, sb_, sc_]
    rfl
  refine pure_ (i := 10) (N := (some 8)) (v := ?_) (a' := ?_) (bz 12 2047) rfl rfl (by kernel_rfl) (fun _ _ _ h => h) (Or.inl ⟨by rfl, ?_⟩) ?_ ?_
  rotate_left
  · intro w'
    go_simp
    with_reducible rfl
  rotate_left
  · simp only [Act.put, sa_, sb_, sc_]
    rfl
  refine pure_ (i := 11) (N := (some 9)) (v := ?_) (a' := ?_) (bz 12 4095) rfl rfl (by kernel_rfl) (fun _ _ _ h => h) (Or.inl ⟨by rfl, ?_⟩) ?_ ?_
  rotate_left
  · intro w'
    go_simp
    with_reducible rfl
  rotate_left
  · simp only [Act.put, sa_, sb_, sc_]
    rfl
  refine done_ (by kernel_rfl) ?_
  have hF8 := hF7.drew.drew
  clear hF7 cn0 cb3 cb4 hown
  generalize w7.drew.drew = w8 at hF8 ⊢
  have C8 := hF8.B.cell
  go_wp2_with (first | (go_at_call 76; go_must (refine (HS.out _ _ _ _ _ _).mono ?_); rintro e w9 ⟨rfl, hb9⟩; rw [hset]; have hF9 := hF8.below hb9; have C9 := hF9.B.cell; have Z9 := hF9.Z.cell; have fz := hF9.Z.free) | (go_at_call 77; go_must (refine (set_c hF9.F d (by omega) (by omega)).mono ?_); rintro e w10 ⟨rfl, hG10, hT10⟩; have hF10 := hF9.turn hG10 hT10; have C10 := hF10.B.cell; have Z10 := hF10.Z.cell; have fz10 := hF10.Z.free))
  obtain ⟨e1, e2, e3⟩ := hF10.post (.int .u8 3) (.int .u8 fn) (.int .i64 d) (.int .i64 (f.of a)) (.int .i64 (f.of b)) (.int .u64 imm)
  exact fold_end rfl e1 rfl ⟨rfl, e2, e3⟩
set_option maxRecDepth 100000 in
set_option maxHeartbeats 4000000 in
theorem fold_s3b {w : World} {p bn bs n : Nat} {f : Fx} (h : Fcts w p bn bs n f) (fn d a b imm : Int) (x : Int) (hna : f.nums (f.of a) = some x) (hnb : f.nums (f.of b) = none) (hn : n ≤ 100000) (ho : OpW n ⟨3, fn, d, a, b, imm⟩) :
    Calls Tryz.prog 55 #[.pointer (some ⟨p, 0, none⟩), .agg (opC 3 fn d a b imm)] w (FoldPost w p bn bs n f ⟨3, fn, d, a, b, imm⟩) := by
  have hlen : (asksL ⟨3, fn, d, a, b, imm⟩).length = 2 := by rfl
  have hask : askN 3 = 2 := by rfl
  have hset : setsB 3 = true := by rfl
  have hk13 : (3 : Int) = 1 ∨ (3 : Int) = 2 ∨ (3 : Int) = 3 ∨ (3 : Int) = 4 ∨ (3 : Int) = 5 ∨ (3 : Int) = 6 ∨ (3 : Int) = 7 ∨ (3 : Int) = 8 ∨ (3 : Int) = 9 ∨ (3 : Int) = 10 ∨ (3 : Int) = 11 ∨ (3 : Int) = 12 ∨ (3 : Int) = 13 := by decide
  have ha : 0 ≤ a ∧ a < (n : Int) := ho.hi.a (show 0 < askN 3 by omega)
  have ra := h.st.of ha
  have hb : 0 ≤ b ∧ b < (n : Int) := ho.hi.b (show 1 < askN 3 by omega)
  have rb := h.st.of hb
  have hd : 0 ≤ d ∧ d < (n : Int) := ho.hi.d (show setsB 3 = true by rfl)
  have hfo : foldO f ⟨3, fn, d, a, b, imm⟩ = ⟨3, fn, d, f.of a, f.of b, imm⟩ := by simp [foldO, fold2, fold1, askN, hna, hnb]
  have hff : foldF f (⟨3, fn, d, f.of a, f.of b, imm⟩) = f.set d := by rfl
  unfold FoldPost
  rw [hfo, hff]
  obtain ⟨w1, hw1, hF1⟩ := fw_begin h (opC 3 fn d a b imm)
  have HA := Lib.hid (fun w => asks_lit 3 hk13 fn d a b imm w)
  have HO := Lib.hid (fun w (h : Fcts w p bn bs n f) v h0 h1 => of_c h v h0 h1)
  have HS := Lib.hid (fun k fn a b imm w => sets_c k fn d a b imm w)
  clear hfo hff
  go_enter Tryz.func55, Tryz.ntmps55
  go_upto_region 1 with (fail)
  rw [← hw1]
  clear hw1
  have C1 := hF1.B.cell
  go_upto_region 2 with (go_at_call 74; go_must (refine (HA.out _).mono ?_); rintro e w3 ⟨A, c, rfl, hb3, -⟩; rw [hlen])
  have hF3 := hF1.below hb3
  clear hF1 hb3 C1
  have C3 := hF3.B.cell
  go_upto_region 4 with (go_at_call 56; go_must (refine (HO.out _ hF3.F a (by omega) (by omega)).mono ?_); rintro e w4 ⟨rfl, hb4⟩; have C4 := (hF3.below hb4).B.cell; have f4 := (hF3.below hb4).B.free 3)
  have hF5 : FW w (w4.setCell ⟨w.heap.size, 3, none⟩ (.int .i64 (f.of a))) p bn bs n f (opC 3 fn d (f.of a) b imm) := (hF3.below hb4).setB 3 _
  clear hF3 hb4 C3 C4 f4
  generalize w4.setCell ⟨w.heap.size, 3, none⟩ (.int .i64 (f.of a)) = w5 at hF5 ⊢
  have C5 := hF5.B.cell
  go_upto_region 6 with (go_at_call 56; go_must (refine (HO.out _ hF5.F b (by omega) (by omega)).mono ?_); rintro e w6 ⟨rfl, hb6⟩; have C6 := (hF5.below hb6).B.cell; have f6 := (hF5.below hb6).B.free 4)
  have hF7 : FW w (w6.setCell ⟨w.heap.size, 4, none⟩ (.int .i64 (f.of b))) p bn bs n f (opC 3 fn d (f.of a) (f.of b) imm) := (hF5.below hb6).setB 4 _
  clear hF5 hb6 C5 C6 f6
  generalize w6.setCell ⟨w.heap.size, 4, none⟩ (.int .i64 (f.of b)) = w7 at hF7 ⊢
  obtain ⟨DN, hown, hRN⟩ := hF7.F.nm
  have cn0 : w7.cell? ⟨p, 0, none⟩ = some (.map (some bn)) := hF7.F.pc.cell 0
  have cb3 : w7.cell? ⟨w.heap.size, 3, none⟩ = some (.int .i64 (f.of a)) := hF7.B.cell 3
  have cb4 : w7.cell? ⟨w.heap.size, 4, none⟩ = some (.int .i64 (f.of b)) := hF7.B.cell 4
  have hk3 := keyI (x := f.of a) (by omega) (by omega)
  have hk4 := keyI (x := f.of b) (by omega) (by omega)
  refine start_ (n := 12) (S := fun w' => w'.cell? ⟨p, 0, none⟩ = some (.map (some bn)) ∧ w'.cell? ⟨w.heap.size, 3, none⟩ = some (.int .i64 (f.of a))) (ds := []) (bz 12 0) (by kernel_rfl) rfl rfl ⟨cn0, cb3⟩ (fun hHeld => ?_)
  refine pure_ (i := 0) (N := (some 31)) (v := ?_) (a' := ?_) (bz 12 1) rfl rfl (by kernel_rfl) (fun _ _ _ h => h) (Or.inl ⟨by rfl, ?_⟩) ?_ ?_
  rotate_left
  · intro w'
    go_simp
    with_reducible rfl
  rotate_left
  · simp only [Act.put, sa_, sb_, sc_]
    rfl
  refine pure_ (i := 1) (N := (some 32)) (v := ?_) (a' := ?_) (bz 12 3) rfl rfl (by kernel_rfl) (fun _ _ _ h => h) (Or.inl ⟨by rfl, ?_⟩) ?_ ?_
  rotate_left
  · intro w'
    go_simp
    with_reducible rfl
  rotate_left
  · simp only [Act.put, sa_, sb_, sc_]
    rfl
  refine pure_ (i := 2) (N := (some 33)) (v := ?_) (a' := ?_) (bz 12 7) rfl rfl (by kernel_rfl) (fun _ _ _ h => h) (Or.inl ⟨by rfl, ?_⟩) ?_ ?_
  rotate_left
  · intro w'
    go_simp
    with_reducible rfl
  rotate_left
  · simp only [Act.put, sa_, sb_, sc_]
    rfl
  refine pure_ (i := 4) (N := (some 35)) (v := ?_) (a' := ?_) (bz 12 23) rfl rfl (by kernel_rfl) (fun _ _ _ h => h) (Or.inl ⟨by rfl, ?_⟩) ?_ ?_
  rotate_left
  · intro w'
    go_simp
    with_reducible rfl
  rotate_left
  · simp only [Act.put, sa_, sb_, sc_]
    rfl
  refine take_ (i := 3) (N := (some 34)) (v := ?_) (a' := ?_) (bz 12 31) rfl rfl (by kernel_rfl) (fun _ _ _ h => h) (Or.inl ⟨by rfl, ?_⟩) hHeld ?_ ?_
  rotate_left
  · rintro w' ⟨s0, s1⟩
    go_simp
    with_reducible rfl
  rotate_left
  · simp only [Act.put, sa_, sb_, sc_]
    rfl
  refine take_ (i := 5) (N := (some 36)) (v := ?_) (a' := ?_) (bz 12 63) rfl rfl (by kernel_rfl) (fun _ _ _ h => h) (Or.inl ⟨by rfl, ?_⟩) hHeld ?_ ?_
  rotate_left
  · rintro w' ⟨s0, s1⟩
    go_simp
    with_reducible rfl
  rotate_left
  · simp only [Act.put, sa_, sb_, sc_]
    rfl
  refine one_ (i := 6) (N := (some 37)) (bz 12 127) rfl rfl (by kernel_rfl) (by decide) (fun K hK => ?_)
  refine look_ (by rfl) rfl _ _ 104 rfl 3 46 kInt_law Tryz.underlying104 Tryz.underlying46 (Tryz.zeroValue46 _) bn _ DN rfl (World.ownsMap.drew hown) _ hRN (f.of a) rfl hk3 ?_
  rw [hna]
  simp only [Option.getD_some, Option.isSome_some]
  refine hK.out _ _ ⟨cn0, cb3⟩ (fun hHeld => ?_)
  clear hK K
  refine norm_ (a' := ?_) ?_ ?_
  rotate_left
  · show Act.put _ (some 37) _ = _
    simp only [Act.put, sa_, sb_, sc_]
    rfl
  refine pure_ (i := 7) (N := (some 30)) (v := ?_) (a' := ?_) (bz 12 255) rfl rfl (by kernel_rfl) (fun _ _ _ h => h) (Or.inl ⟨by rfl, ?_⟩) ?_ ?_
  rotate_left
  · intro w'
    go_simp
    with_reducible rfl
  rotate_left
  · simp only [Act.put, sa_, sb_, sc_]
    rfl
  refine pure_ (i := 8) (N := (some 38)) (v := ?_) (a' := ?_) (bz 12 511) rfl rfl (by kernel_rfl) (fun _ _ _ h => h) (Or.inl ⟨by rfl, ?_⟩) ?_ ?_
  rotate_left
  · intro w'
    go_simp
    with_reducible rfl
  rotate_left
  · simp only [Act.put, sa_, sb_, sc_]
    rfl
  refine pure_ (i := 9) (N := (some 39)) (v := ?_) (a' := ?_) (bz 12 1023) rfl rfl (by kernel_rfl) (fun _ _ _ h => h) (Or.inl ⟨by rfl, ?_⟩) ?_ ?_
  rotate_left
  · intro w'
    go_simp
    with_reducible rfl
  rotate_left
  · simp only [Act.put, sa_, sb_, sc_]
    rfl
  refine pure_ (i := 10) (N := (some 6)) (v := ?_) (a' := ?_) (bz 12 2047) rfl rfl (by kernel_rfl) (fun _ _ _ h => h) (Or.inl ⟨by rfl, ?_⟩) ?_ ?_
  rotate_left
  · intro w'
    go_simp
    with_reducible rfl
  rotate_left
  · simp only [Act.put, sa_, sb_, sc_]
    rfl
  refine pure_ (i := 11) (N := (some 7)) (v := ?_) (a' := ?_) (bz 12 4095) rfl rfl (by kernel_rfl) (fun _ _ _ h => h) (Or.inl ⟨by rfl, ?_⟩) ?_ ?_
  rotate_left
  · intro w'
    go_simp
    with_reducible rfl
  rotate_left
  · simp only [Act.put, sa_, sb_, sc_]
    rfl
  refine done_ (by kernel_rfl) ?_
  go_upto_region 7 with (fail)
  refine start_ (n := 12) (S := fun w' => w'.cell? ⟨p, 0, none⟩ = some (.map (some bn)) ∧ w'.cell? ⟨w.heap.size, 4, none⟩ = some (.int .i64 (f.of b))) (ds := []) (bz 12 0) (by kernel_rfl) rfl rfl ⟨cn0, cb4⟩ (fun hHeld => ?_)
  refine pure_ (i := 0) (N := (some 41)) (v := ?_) (a' := ?_) (bz 12 1) rfl rfl (by kernel_rfl) (fun _ _ _ h => h) (Or.inl ⟨by rfl, ?_⟩) ?_ ?_
  rotate_left
  · intro w'
    go_simp
    with_reducible rfl
  rotate_left
  · simp only [Act.put, sa_, sb_, sc_]
    rfl
  refine pure_ (i := 1) (N := (some 42)) (v := ?_) (a' := ?_) (bz 12 3) rfl rfl (by kernel_rfl) (fun _ _ _ h => h) (Or.inl ⟨by rfl, ?_⟩) ?_ ?_
  rotate_left
  · intro w'
    go_simp
    with_reducible rfl
  rotate_left
  · simp only [Act.put, sa_, sb_, sc_]
    rfl
  refine pure_ (i := 2) (N := (some 43)) (v := ?_) (a' := ?_) (bz 12 7) rfl rfl (by kernel_rfl) (fun _ _ _ h => h) (Or.inl ⟨by rfl, ?_⟩) ?_ ?_
  rotate_left
  · intro w'
    go_simp
    with_reducible rfl
  rotate_left
  · simp only [Act.put, sa_, sb_, sc_]
    rfl
  refine pure_ (i := 4) (N := (some 45)) (v := ?_) (a' := ?_) (bz 12 23) rfl rfl (by kernel_rfl) (fun _ _ _ h => h) (Or.inl ⟨by rfl, ?_⟩) ?_ ?_
  rotate_left
  · intro w'
    go_simp
    with_reducible rfl
  rotate_left
  · simp only [Act.put, sa_, sb_, sc_]
    rfl
  refine take_ (i := 3) (N := (some 44)) (v := ?_) (a' := ?_) (bz 12 31) rfl rfl (by kernel_rfl) (fun _ _ _ h => h) (Or.inl ⟨by rfl, ?_⟩) hHeld ?_ ?_
  rotate_left
  · rintro w' ⟨s0, s1⟩
    go_simp
    with_reducible rfl
  rotate_left
  · simp only [Act.put, sa_, sb_, sc_]
    rfl
  refine take_ (i := 5) (N := (some 46)) (v := ?_) (a' := ?_) (bz 12 63) rfl rfl (by kernel_rfl) (fun _ _ _ h => h) (Or.inl ⟨by rfl, ?_⟩) hHeld ?_ ?_
  rotate_left
  · rintro w' ⟨s0, s1⟩
    go_simp
    with_reducible rfl
  rotate_left
  · simp only [Act.put, sa_, sb_, sc_]
    rfl
  refine one_ (i := 6) (N := (some 47)) (bz 12 127) rfl rfl (by kernel_rfl) (by decide) (fun K hK => ?_)
  refine look_ (by rfl) rfl _ _ 104 rfl 3 46 kInt_law Tryz.underlying104 Tryz.underlying46 (Tryz.zeroValue46 _) bn _ DN rfl (World.ownsMap.drew (World.ownsMap.drew hown)) _ hRN (f.of b) rfl hk4 ?_
  rw [hnb]
  simp only [Option.getD_none, Option.isSome_none]
  refine hK.out _ _ ⟨cn0, cb4⟩ (fun hHeld => ?_)
  clear hK K
  refine norm_ (a' := ?_) ?_ ?_
  rotate_left
  · show Act.put _ (some 47) _ = _
    simp only [Act.put, sa_, sb_, sc_]
    rfl
  refine pure_ (i := 7) (N := (some 40)) (v := ?_) (a' := ?_) (bz 12 255) rfl rfl (by kernel_rfl) (fun _ _ _ h => h) (Or.inl ⟨by rfl, ?_⟩) ?_ ?_
  rotate_left
  · intro w'
    go_simp
    with_reducible rfl
  rotate_left
  · simp only [Act.put, sa_, sb_, sc_]
    rfl
  refine pure_ (i := 8) (N := (some 48)) (v := ?_) (a' := ?_) (bz 12 511) rfl rfl (by kernel_rfl) (fun _ _ _ h => h) (Or.inl ⟨by rfl, ?_⟩) ?_ ?_
  rotate_left
  · intro w'
    go_simp
    with_reducible rfl
  rotate_left
  · simp only [Act.put, sa_, sb_, sc_]
    rfl
  refine pure_ (i := 9) (N := (some 49)) (v := ?_) (a' := ?_) (bz 12 1023) rfl rfl (by kernel_rfl) (fun _ _ _ h => h) (Or.inl ⟨by rfl, ?_⟩) ?_ ?_
  rotate_left
  · intro w'
    go_simp
    with_reducible rfl
  rotate_left
  · simp only [Act.put, sa_, sb_, sc_]
    rfl
  refine pure_ (i := 10) (N := (some 8)) (v := ?_) (a' := ?_) (bz 12 2047) rfl rfl (by kernel_rfl) (fun _ _ _ h => h) (Or.inl ⟨by rfl, ?_⟩) ?_ ?_
  rotate_left
  · intro w'
    go_simp
    with_reducible rfl
  rotate_left
  · simp only [Act.put, sa_, sb_, sc_]
    rfl
  refine pure_ (i := 11) (N := (some 9)) (v := ?_) (a' := ?_) (bz 12 4095) rfl rfl (by kernel_rfl) (fun _ _ _ h => h) (Or.inl ⟨by rfl, ?_⟩) ?_ ?_
  rotate_left
  · intro w'
    go_simp
    with_reducible rfl
  rotate_left
  · simp only [Act.put, sa_, sb_, sc_]
    rfl
  refine done_ (by kernel_rfl) ?_
  have hF8 := hF7.drew.drew
  clear hF7 cn0 cb3 cb4 hown
  generalize w7.drew.drew = w8 at hF8 ⊢
  have C8 := hF8.B.cell
  go_wp2_with (first | (go_at_call 76; go_must (refine (HS.out _ _ _ _ _ _).mono ?_); rintro e w9 ⟨rfl, hb9⟩; rw [hset]; have hF9 := hF8.below hb9; have C9 := hF9.B.cell; have Z9 := hF9.Z.cell; have fz := hF9.Z.free) | (go_at_call 77; go_must (refine (set_c hF9.F d (by omega) (by omega)).mono ?_); rintro e w10 ⟨rfl, hG10, hT10⟩; have hF10 := hF9.turn hG10 hT10; have C10 := hF10.B.cell; have Z10 := hF10.Z.cell; have fz10 := hF10.Z.free))
  obtain ⟨e1, e2, e3⟩ := hF10.post (.int .u8 3) (.int .u8 fn) (.int .i64 d) (.int .i64 (f.of a)) (.int .i64 (f.of b)) (.int .u64 imm)
  exact fold_end rfl e1 rfl ⟨rfl, e2, e3⟩
/-- A step by what is known ahead of it. -/
theorem fold_c {w : World} {p bn bs n : Nat} {f : Fx} (h : Fcts w p bn bs n f) (o : SOp) (hn : n ≤ 100000) (ho : OpW n o) :
    Calls Tryz.prog 55 #[.pointer (some ⟨p, 0, none⟩), o.val] w (FoldPost w p bn bs n f o) := by
  obtain ⟨k, fn, d, a, b, imm⟩ := o
  have k1 : 1 ≤ k := ho.hi.k
  have k2 : k ≤ 13 := ho.hi.k2
  have hk : k = 1 ∨ k = 2 ∨ k = 3 ∨ (k = 4 ∨ k = 9 ∨ k = 12) ∨ (k = 5 ∨ k = 6 ∨ k = 7 ∨ k = 10) ∨ (k = 8 ∨ k = 11) ∨ k = 13 := by omega
  rcases hk with rfl | rfl | rfl | hk | hk | hk | rfl
  · exact fold_c1 h fn d a b imm hn ho
  · cases hna : f.nums (f.of a) with
    | some x => exact fold_cm h fn d a b imm x hna hn ho
    | none =>
      cases hadb : (f.of a != d) with
      | false => exact fold_s2d h fn d a b imm hna hadb hn ho
      | true => exact fold_s2n h fn d a b imm hna hadb hn ho
  · cases hna : f.nums (f.of a) with
    | none => exact fold_s3a h fn d a b imm hna hn ho
    | some x =>
      cases hnb : f.nums (f.of b) with
      | none => exact fold_s3b h fn d a b imm x hna hnb hn ho
      | some y => exact fold_cu h fn d a b imm x y hna hnb hn ho
  · exact fold_s1 h k fn d a b imm hk hn ho
  · exact fold_n2 h k fn d a b imm hk hn ho
  · exact fold_n1 h k fn d a b imm hk hn ho
  · exact fold_n0 h fn d a b imm hn ho
end Go.Proofs.YtoabiignjkcdmaaGreat
