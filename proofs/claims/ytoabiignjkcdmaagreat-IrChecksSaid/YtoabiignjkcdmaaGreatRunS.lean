/-
  steps: the table of the kinds of steps, walked.
-/
import Derived.Test.YtoabiignjkcdmaaGreatRunO9
namespace Go.Proofs.YtoabiignjkcdmaaGreat
open Go.RowKit Go.MapKept
set_option linter.unusedVariables false
set_option linter.unusedSimpArgs false

section
variable {P : Program} {ops : Array Oper} {Q : Exit → Act → World → Prop} {rest : List Oper} {a : Act} {w : World} {o : Oper}
theorem wpl_insert8 (hg : o.guard = none) (m x v : Operand) (t k e : TypeId) (hop : o.op = .insert t m x v) (ht : P.underlying t = some (.map k e)) (hk : P.underlying k = some (.int .u8)) (b clk : Nat) (es : Array MapEntry) (key : Int) (val : Value)
    (hm : a.eval m = .map (some b)) (hx : a.eval x = .int .u8 key) (hv : a.eval v = val) (hb : Ob w b (.map es clk)) (hf : Instr.findNow (.int .u8) (.int .u8 key) es.toList 0 = some none)
    (h : ∀ w', Ob w' b (.map (es.push { key := .int .u8 key, val := val, born := clk }) (clk + 1)) → w.grownBy w' (some b) → wpList P ops Q rest (a.put o.dst undef) w') : wpList P ops Q (o :: rest) a w := by
  refine wpList_run0 hg (setOb w b (.map (es.push { key := .int .u8 key, val := val, born := clk }) (clk + 1))) ?_ (h _ (setOb_ob hb) (setOb_grown _))
  unfold execOp
  simp only [hop, hm, hx, hv, Instr.mapUpdate, Sem.run_bind, run_underlying ht, Result.andThen, run_getObj_ob hb (by simp), run_checkKey hk (k := .int .u8 key) rfl, run_findKey hk hf, run_setObj_ob hb (by simp)]
  rfl
end
abbrev stEn (k : Int) (f n : Nat) : MapEntry := { key := .int .u8 k, val := .func (.func f) #[] #[], born := n }
abbrev stepEs : Array MapEntry := #[stEn 1 82 0, stEn 2 83 1, stEn 3 84 2, stEn 4 85 3, stEn 5 86 4, stEn 6 87 5, stEn 7 88 6, stEn 8 89 7, stEn 9 90 8, stEn 10 91 9, stEn 11 92 10, stEn 12 93 11, stEn 13 94 12]
set_option maxRecDepth 100000 in
set_option maxHeartbeats 2000000 in
theorem steps_c (w : World) : Calls Tryz.prog 68 #[] w fun e w' => e = .returned (.map (some w.heap.size)) ∧ Ob w' w.heap.size (.map stepEs 13) ∧ Below w.heap.size w w' := by
  have hmm := @run_makeMap Tryz.prog
  have hOb := Ob.new w (.map #[] 0)
  have hBl : Below w.heap.size w (w.alloc (.map #[] 0)) := (Below.refl w.heap.size w).alloc (Nat.le_refl _) _
  go_enter Tryz.func68, Tryz.ntmps68
  go_wp2_with (refine wpl_insert8 rfl _ _ _ _ _ _ rfl Tryz.underlying122 Tryz.underlying5 _ _ _ _ _ rfl rfl rfl hOb (by rfl) ?_; clear hOb; intro w' hOb hG; replace hBl := hBl.trans (grown_below hG hBl.size (fun k e => by cases e; exact Nat.le_refl _)); clear hG)
  go_ret
  exact ⟨rfl, hOb, hBl⟩
end Go.Proofs.YtoabiignjkcdmaaGreat
