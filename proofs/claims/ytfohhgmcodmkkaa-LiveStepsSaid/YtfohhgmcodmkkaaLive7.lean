/-
  live.at on the chapter's sample.
-/
import Derived.Test.YtfohhgmcodmkkaaLive6
namespace Go.Proofs.Ytfohhgmcodmkkaa
open Go.RowKit Go.Lib Go.Shelf
set_option linter.unusedVariables false
set_option linter.unusedSimpArgs false
attribute [local go_sem] Oper.semAt_some

def op1S : SOp := ⟨2, 0, 1, 0, 0, 0⟩
def op2S : SOp := ⟨3, 1, 2, 1, 0, 0⟩
/-- The set at a place of the sample's block. -/
def entsAt : Nat → Array MapEntry
  | 0 => #[En 0 1]
  | 1 => #[En 0 1, En 1 2]
  | _ => #[En 2 0]
def clkAt : Nat → Nat
  | 0 => 3
  | 1 => 3
  | _ => 1

set_option maxHeartbeats 1000000 in
theorem backwards_c (O : Option Addr) (n c : Nat) (e0 a go els k : Int) (w : World) :
    Calls Try.prog 57 #[.agg #[.slice O n c, .int .u8 e0, .int .i64 a, .int .i64 go, .int .i64 els], .int .i64 k] w
      fun e w' => e = .returned (.func (.func 78) #[] #[.pointer (some ⟨w.heap.size, 0, none⟩), .pointer (some ⟨w.heap.size + 1, 0, none⟩)]) ∧
        w' = (w.alloc (.cells #[.slice O n c, .int .u8 e0, .int .i64 a, .int .i64 go, .int .i64 els] 67)).alloc (.cells #[.int .i64 k] 3) := by
  go_enter Try.func57, Try.ntmps57
  go_wp2
  go_ret
  exact ⟨rfl, rfl⟩

/-- What the loop knows. -/
def AtI (w : World) (lb m : Nat) (pre : List SOp) (W : World) : Prop :=
  Bk W lb #[.map (some m)] 87 ∧ (∃ es clk, Ob W m (.map es clk) ∧ Good es ∧ (pre = [] → es = entsAt 2 ∧ clk = clkAt 2) ∧ (pre = [op2S] → es = entsAt 1 ∧ clk = clkAt 1) ∧ (pre = [op2S, op1S] → es = entsAt 0 ∧ clk = clkAt 0)) ∧ Below w.heap.size w W

theorem atI_own {w : World} {lb m B : Nat} (h1 : lb < B) (h2 : m < B) (h3 : w.heap.size ≤ B) : OwnFrom B (AtI w lb m) := by
  rintro s W W' row ⟨g1, ⟨es, clk, g2, g3⟩, g4⟩ hg hr
  refine ⟨g1.grown hg (fun e => ?_), ⟨es, clk, g2.grown hg (fun e => ?_), g3⟩, g4.grown hg g4.size (fun r e => Nat.le_trans h3 (hr r e).1)⟩
  · have := (hr lb e.symm).1; omega
  · have := (hr m e.symm).1; omega

theorem bk_own {W W' : World} {row : Option Nat} {n : Nat} {cs : Array Value} {t : TypeId} (h : Bk W n cs t) (hg : W.grownBy W' row) (hr : ∀ r, row = some r → ∃ o : Obj, W.heap[r]? = some o ∧ o.isCells = false) : Bk W' n cs t := by
  refine h.grown hg (fun e => ?_)
  obtain ⟨o, h1, h2⟩ := hr n e.symm
  unfold Bk at h
  rw [h] at h1
  cases h1
  cases h2

theorem kpC_alloc {n : Nat} {W : World} (o : Obj) : KpC n W (W.alloc o) := fun a v ha hc => by
  have := Below.heap_alloc W o a.block (World.block_lt_of_cell? W a hc)
  exact (World.cell?_of_block this).trans hc
theorem kpC_put {w : World} {n : Nat} (hn : n ≤ w.heap.size) (W : World) (l : Nat) (o o' : Obj) (hl : w.heap.size ≤ l) (h : W.heap[l]? = some o) (_ : o.isCells = false) (_ : o.isWalk = false) : KpC n W (W.putObj l o') := fun a v ha hc =>
  (World.cell?_of_block (World.putObj_heap_other (by omega))).trans hc
theorem kpC_map {n : Nat} {W W' : World} {m clk : Nat} {es : Array MapEntry} (hg : W.grownBy W' (some m)) (M : Ob W m (.map es clk)) : KpC n W W' := fun a v _ hc => cell_keptM hc hg M

/-- What is said of the set when pre has come. -/
def StepP (pre : List SOp) (es : Array MapEntry) (clk : Nat) : Prop :=
  Good es ∧ (pre = [] → es = entsAt 2 ∧ clk = clkAt 2) ∧ (pre = [op2S] → es = entsAt 1 ∧ clk = clkAt 1) ∧ (pre = [op2S, op1S] → es = entsAt 0 ∧ clk = clkAt 0)

theorem over_step (pre : List SOp) (x : SOp) (m : Nat) (W : World) (es : Array MapEntry) (clk : Nat) (M : Ob W m (.map es clk)) (h : StepP pre es clk) :
    Calls Try.prog 58 #[.map (some m), .agg #[.int .u8 x.k, .int .u8 x.fn, .int .i64 x.d, .int .i64 x.a, .int .i64 x.b, .int .u64 x.imm]] W
      fun e w' => e = .returned (.tuple #[]) ∧ (∃ es' clk', Ob w' m (.map es' clk') ∧ StepP (pre ++ [x]) es' clk') ∧ W.grownBy w' (some m) := by
  obtain ⟨h1, h2, h3, h4⟩ := h
  by_cases c1 : pre = [] ∧ x = op2S
  · obtain ⟨rfl, rfl⟩ := c1
    obtain ⟨rfl, rfl⟩ := h2 rfl
    refine (over2_c m W M).mono fun e w' ⟨g1, g2, g3⟩ => ⟨g1, ⟨_, _, g2, ?_, fun h => by simp at h, fun _ => ⟨rfl, rfl⟩, fun h => by simp at h⟩, g3⟩
    intro y hy
    simp at hy
    rcases hy with rfl | rfl <;> exact ⟨_, rfl⟩
  · by_cases c2 : pre = [op2S] ∧ x = op1S
    · obtain ⟨rfl, rfl⟩ := c2
      obtain ⟨rfl, rfl⟩ := h3 rfl
      refine (over1_c m W M).mono fun e w' ⟨g1, g2, g3⟩ => ⟨g1, ⟨_, _, g2, ?_, fun h => by simp at h, fun h => by simp at h, fun _ => ⟨rfl, rfl⟩⟩, g3⟩
      intro y hy
      simp at hy
      subst hy
      exact ⟨_, rfl⟩
    · refine (over_any x m W es clk M h1).mono fun e w' ⟨g1, ⟨es', clk', g2, g2'⟩, g3⟩ => ⟨g1, ⟨es', clk', g2, g2', fun h => by simp at h, fun h => ?_, fun h => ?_⟩, g3⟩
      · have := List.append_inj' (s₂ := []) (t₂ := [op2S]) h rfl
        exact absurd ⟨this.1, by simpa using this.2⟩ c1
      · have := List.append_inj' (s₂ := [op2S]) (t₂ := [op1S]) h rfl
        exact absurd ⟨this.1, by simpa using this.2⟩ c2

theorem stops_c (n k : Nat) (hk : k ≤ 2) (Bb Bf n₀ : Nat) (O : Option Addr) (oc : Nat) (w : World) (hBb : w.cell? ⟨Bb, 0, none⟩ = some (.slice O 2 oc)) (hBf : w.cell? ⟨Bf, 0, none⟩ = some (.int .i64 k)) (h1 : Bb < n₀) (h2 : Bf < n₀)
    (hO : kOp.Row w O [op1S, op2S]) (hOb : ∀ b o, O = some ⟨b, o, none⟩ → b < n₀) (hn : 1 ≤ n) :
    SeqStopsK Fence.wide n Try.prog 78 #[.pointer (some ⟨Bb, 0, none⟩), .pointer (some ⟨Bf, 0, none⟩)] (fun x : SOp => #[sopV x]) (KpC n₀) (fun ys => ys = ([op1S, op2S].drop k).reverse) (fun pre => pre <+: ([op1S, op2S].drop k).reverse) (2 - k) w :=
  fun l J Jx W hW _ _ hY h0 =>
    back1_in Fence.wide n trivial rfl hn l Bb Bf n₀ [op1S, op2S] k hk (by simp) O oc J Jx hY W (cm hBb hW) (cm hBf hW) h1 h2 (hO.mono hW) hOb h0

set_option maxRecDepth 100000 in
set_option maxHeartbeats 2000000 in
theorem at_c (k : Nat) (hk : k ≤ 2) (O : Option Addr) (oc : Nat) (I : Option Addr) (ni ci : Nat) (w : World) (hO : kOp.Row w O [op1S, op2S]) :
    Calls Try.prog 39 #[.agg #[.slice O 2 oc, .int .u8 3, .int .i64 2, .int .i64 0, .int .i64 0], .int .i64 k, .slice I ni ci] w
      fun e w' => (∃ m, e = .returned (.map (some m)) ∧ w.heap.size ≤ m ∧ Ob w' m (.map (entsAt k) (clkAt k))) ∧ Below w.heap.size w w' := by
  refine (callsIn_wide (n := 9)).1 ?_
  refine callsIn_of_wp_marks Try.func39 rfl trivial ?_ rfl
  simp only [Try.ntmps39, List.size_toArray, List.length_cons, List.length_nil, Nat.reduceAdd, Nat.reduceSub, Array.replicate_succ, Array.replicate_zero, List.push_toArray, List.append_toArray, List.nil_append, List.cons_append]
  have B0 := Bk.new w #[.slice O 2 oc, .int .u8 3, .int .i64 2, .int .i64 0, .int .i64 0] 67
  have hbW : Below w.heap.size w (w.alloc (.cells #[.slice O 2 oc, .int .u8 3, .int .i64 2, .int .i64 0, .int .i64 0] 67)) := (Below.refl _ _).alloc (Nat.le_refl _) _
  gi_wp2_with (first
    | (refine ⟨trivial, ?_⟩; gi_at_call 56; go_must (refine (callsIn_wide.2 (ahead_c O 2 oc I ni ci _)).mono ?_); rintro e w1 ⟨m, rfl, hm, M1, hb1⟩; have B1 := (B0.mono hb1).alloc (.cells #[.map (some m)] 87); have C0 := (B0.mono hb1).cell; have C1 := B1.cell)
    | (refine ⟨trivial, ?_⟩; gi_at_call 57; go_must (refine (callsIn_wide.2 (backwards_c O 2 oc 3 2 0 0 k _)).mono ?_); rintro e w2 ⟨rfl, rfl⟩))
  have hOb : ∀ b o, O = some ⟨b, o, none⟩ → b < w1.heap.size := by
    intro b o e
    obtain ⟨b', o', e', g0, _⟩ := kOp_at hO 0 (by simp)
    rw [e] at e'
    cases e'
    have := World.block_lt_of_cell? w _ g0
    have := hbW.size
    have := hb1.size
    simp at *
    omega
  have hml := M1.lt
  have hm' : w.heap.size ≤ m := by have := hbW.size; omega
  have hB1 : Below w.heap.size w w1 := bt hbW hb1
  have hws : w.heap.size ≤ w1.heap.size := hB1.size
  have BL := ((Bk.new w1 #[.map (some m)] 87).alloc (.cells #[.slice O 2 oc, .int .u8 3, .int .i64 2, .int .i64 0, .int .i64 0] 67)).alloc (.cells #[.int .i64 k] 3)
  have BB := (Bk.newAt (w := w1.alloc (.cells #[.map (some m)] 87)) (n := w1.heap.size + 1) #[.slice O 2 oc, .int .u8 3, .int .i64 2, .int .i64 0, .int .i64 0] 67 (by simp)).alloc (.cells #[.int .i64 k] 3)
  have BF := Bk.newAt (w := (w1.alloc (.cells #[.map (some m)] 87)).alloc (.cells #[.slice O 2 oc, .int .u8 3, .int .i64 2, .int .i64 0, .int .i64 0] 67)) (n := w1.heap.size + 1 + 1) #[.int .i64 k] 3 (by simp)
  have MW := ((M1.alloc (.cells #[.map (some m)] 87)).alloc (.cells #[.slice O 2 oc, .int .u8 3, .int .i64 2, .int .i64 0, .int .i64 0] 67)).alloc (.cells #[.int .i64 k] 3)
  have hB0 : Below w.heap.size w (((w1.alloc (.cells #[.map (some m)] 87)).alloc (.cells #[.slice O 2 oc, .int .u8 3, .int .i64 2, .int .i64 0, .int .i64 0] 67)).alloc (.cells #[.int .i64 k] 3)) := ((hB1.alloc hws _).alloc (by simp; omega) _).alloc (by simp; omega) _
  have hsz : (((w1.alloc (.cells #[.map (some m)] 87)).alloc (.cells #[.slice O 2 oc, .int .u8 3, .int .i64 2, .int .i64 0, .int .i64 0] 67)).alloc (.cells #[.int .i64 k] 3)).heap.size = w1.heap.size + 3 := by simp
  obtain ⟨W0, hW0⟩ : ∃ W0, ((w1.alloc (.cells #[.map (some m)] 87)).alloc (.cells #[.slice O 2 oc, .int .u8 3, .int .i64 2, .int .i64 0, .int .i64 0] 67)).alloc (.cells #[.int .i64 k] 3) = W0 := ⟨_, rfl⟩
  rw [hW0] at BL BB BF MW hB0 hsz ⊢
  clear hW0
  refine wpIn_rangeFunc_ownH rfl (by omega) (gf := 78) (lb := #[.pointer (some ⟨w1.heap.size + 1, 0, none⟩), .pointer (some ⟨w1.heap.size + 1 + 1, 0, none⟩)]) rfl trivial (enters_of Try.func78 (by kernel_rfl) rfl)
    (stops_c 8 k hk (w1.heap.size + 1) (w1.heap.size + 1 + 1) W0.heap.size O oc W0 (BB.cell 0) (BF.cell 0) (by omega) (by omega) (hO.mono hB0) (fun b o e => by have := hOb b o e; omega) (by omega))
    (fun h1 h2 => KpC.trans h1 h2) (kpC_put (Nat.le_refl _)) (Below.refl _ _) (fun _ => rfl)
    (AtI w w1.heap.size m) (fun _ _ _ => False) (atI_own (by omega) (by omega) (by omega)) (fun _ _ _ _ _ h _ _ => h)
    ⟨BL, ⟨_, _, MW, fun y hy => ⟨2, by simp at hy; subst hy; rfl⟩, fun _ => ⟨rfl, rfl⟩, fun h => by simp at h, fun h => by simp at h⟩, hB0⟩
    (fun x a' W => ∃ Bx, Bk W Bx #[.int .u8 x.k, .int .u8 x.fn, .int .i64 x.d, .int .i64 x.a, .int .i64 x.b, .int .u64 x.imm] 24 ∧ a' = { tmps := #[.agg #[.slice O 2 oc, .int .u8 3, .int .i64 2, .int .i64 0, .int .i64 0], .int .i64 k, .slice I ni ci, .pointer (some ⟨w.heap.size, 0, none⟩), undef, undef, .map none, .pointer (some ⟨w1.heap.size, 0, none⟩), .pointer (some ⟨Bx, 0, none⟩), .agg #[.slice O 2 oc, .int .u8 3, .int .i64 2, .int .i64 0, .int .i64 0], .slice I ni ci, .map (some m), .agg #[.slice O 2 oc, .int .u8 3, .int .i64 2, .int .i64 0, .int .i64 0], .int .i64 k, .func (.func 78) #[] #[.pointer (some ⟨w1.heap.size + 1, 0, none⟩), .pointer (some ⟨w1.heap.size + 1 + 1, 0, none⟩)], sopV x, undef, undef, undef, undef], defers := [] })
    (fun x a' _ W W' row ⟨Bx, h1, h2⟩ hg hr => ⟨Bx, bk_own h1 hg (fun r e => (hr r e).2), h2⟩) ?assign ?body ?done ?stop
  case assign =>
    rintro l pre x W K hi hK
    unfold sopV
    gi_wp2
    exact hK _ _ ((KeepsOthers.alloc W _).from _) (kpC_alloc _) (OwnFrom.alloc (B := W0.heap.size) (atI_own (by omega) (by omega) (by omega)) _ hi) ⟨W.heap.size, Bk.new .., rfl⟩
  case body =>
    rintro l pre x a' W hl hr ⟨g1, ⟨es, clk, g2, g3, g4, g5, g6⟩, g7⟩ ⟨Bx, hBx, rfl⟩ hlt
    have c1 := g1.cell
    have c2 := hBx.cell
    gi_wp2_with (refine ⟨trivial, ?_⟩; gi_at_call 58; go_must (refine (CallsIn.inRound l (callsIn_wide.2 (over_step pre x m W es clk g2 ⟨g3, g4, g5, g6⟩))).mono ?_); rintro e W3 ⟨rfl, ⟨es', clk', k1, k2, k3, k4, k5⟩, k6⟩)
    refine ⟨KeepsFrom.of_grownBy k6 (fun j e => by cases e; omega), kpC_map k6 g2, g1.grown k6 (fun e => by cases e; omega), ⟨es', clk', k1, k2, k3, k4, k5⟩, g7.grown k6 g7.size (fun j e => by cases e; omega)⟩
  case done =>
    rintro D ys W hD rfl ⟨g1, ⟨es, clk, g2, g3, g4, g5, g6⟩, g7⟩ hK
    have c1 := g1.cell
    gi_wp2
    refine ⟨by simp, .inl ⟨_, _, rfl, run_takeDeferred hK, ?_⟩⟩
    refine ⟨_, results_tmp rfl _ _ _, ⟨m, rfl, hm', ?_⟩, g7.trans (belowK_b (w := w) (Nat.le_refl _) W D _ _ (by omega) hK rfl rfl)⟩
    have e1 : Ob W m (.map (entsAt k) (clkAt k)) := by
      have hk' : k = 0 ∨ k = 1 ∨ k = 2 := by omega
      rcases hk' with rfl | rfl | rfl
      · obtain ⟨rfl, rfl⟩ := g6 rfl; exact g2
      · obtain ⟨rfl, rfl⟩ := g5 rfl; exact g2
      · obtain ⟨rfl, rfl⟩ := g4 rfl; exact g2
    exact e1.grown (grownBy_putObj' W D _) (fun e => by cases e; omega)
  case stop =>
    rintro D c pre W _ _ h _
    exact h.elim

end Go.Proofs.Ytfohhgmcodmkkaa
