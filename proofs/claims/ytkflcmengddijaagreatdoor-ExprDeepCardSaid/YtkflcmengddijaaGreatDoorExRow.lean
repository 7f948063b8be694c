/-
  What the rows' list of variables gives the walks of expressions; a world in which it holds.
-/
import Derived.Test.YtkflcmengddijaaGreatDoorLexRow
import Derived.Test.YtkflcmengddijaaGreatDoorExTell
import Derived.Lib.LaidTab
namespace Go.Proofs.YtkflcmengddijaaGreatDoor
open Go.RowKit Go.ChangeShapes Go.WideShapes Go.ChangeAt
set_option linter.unusedVariables false
set_option linter.unusedSimpArgs false

theorem cells_of_strs {H : Type} {enc : TypeId × Value → H} {P : Program} {w : World} {base : Nat} {sp : Nat → Bool} {held : Bool} {fuel : Nat} {t e : TypeId} {n : Nat} {cs : List Value} {zs : List (List UInt8)} {p : List MemPlace}
    (ht : P.underlying t = some (.array n e)) (he : P.underlying e = some .string) (hce : P.cellsOf e = 1) (hct : P.cellsOf t = n)
    (h : DataW.trod enc P w base sp held fuel t cs = some (.agg (zs.map fun z => .lit (.string z)), p)) : cs = zs.map fun z => Value.string ⟨z.toArray⟩ := by
  cases fuel with
  | zero => simp [DataW.trod] at h
  | succ fuel =>
    simp only [DataW.trod, ht, hce, hct, Nat.mul_one] at h
    split at h
    · rename_i hl
      obtain ⟨xs, hm, hx⟩ := Option.map_eq_some_iff.1 h
      have hxs : xs.map (·.1) = zs.map fun z => (DataW.lit (.string z) : DataW H) := by
        have := congrArg Prod.fst hx
        simpa using this
      have hxl : xs.length = n := by simpa using Lib.mapM_length hm
      have hzl : zs.length = n := by
        have := congrArg List.length hxs
        simp at this
        omega
      apply List.ext_getElem?
      intro i
      by_cases hi : i < n
      · obtain ⟨b, hb, hf⟩ := Lib.mapM_at hm i i (by simp [hi])
        obtain ⟨s, hc, rfl, _⟩ := DataW.trod_string he hf
        have h1 : cs[i]? = some (.string s) := by
          have := congrArg (·[0]?) hc
          simpa [List.getElem?_take, List.getElem?_drop] using this
        have h2 : (xs.map (·.1))[i]? = some (DataW.lit (.string s.data.toList) : DataW H) := by simp [hb]
        rw [hxs] at h2
        simp only [List.getElem?_map, Option.map_eq_some_iff, DataW.lit.injEq, Lit.string.injEq] at h2
        obtain ⟨z', hz', rfl⟩ := h2
        simp [h1, hz']
      · rw [List.getElem?_eq_none (by omega), List.getElem?_eq_none (by simp; omega)]
    · cases h
theorem gSgT : (Tryz.prog.globals[1]?).map (·.type) = some 104 := by kernel_rfl
theorem c15 : Tryz.prog.cellsOf 104 = 15 := by kernel_rfl
def laidL9 : List (String × DataW Unit) := laidL ++ [("sacristy/expr.signs", Rows.laid_sacristy_expr_signs)]
def laidD9 : List (String × DataW Unit) := laidD ++ [("sacristy/expr.signs", Rows.laid_sacristy_expr_signs)]
theorem laidL9_none : (laidL9.filter fun x => x.2.handleName?.isNone) = laidD9 := by kernel_rfl
theorem laidL9_some : (laidL9.filter fun x => x.2.handleName?.isSome) = [("errors.errorType", Rows.laid_errors_errorType)] := by kernel_rfl
theorem laidMet_init {P : Program} {W : World} : ∀ (a b : List (String × DataW Unit)), laidMet P (a ++ b) W → laidMet P b W
  | [], b, h => h
  | x :: r, b, h => laidMet_init r b h.tail

set_option maxRecDepth 100000 in
theorem sg_of_met {W : World} (h : laidMet Tryz.prog laidD9 W) : SgTab W := by
  have h1 := laidMet_init laidD _ h
  obtain ⟨ps, ⟨g', t', cs, fuel, p, q, hg', ht', hvar, hd, _, _⟩, _⟩ := h1
  obtain rfl := Option.some.inj (gSg.symm.trans hg')
  obtain rfl := Option.some.inj (gSgT.symm.trans ht')
  have he : (Rows.laid_sacristy_expr_signs : DataW Unit) = .agg (signsL.map fun z => .lit (.string z)) := rfl
  rw [he] at hd
  unfold SgTab
  have e := cells_of_strs Tryz.underlying104 Tryz.underlying9 c6 c15 hd
  rw [hvar, ← e]
set_option maxRecDepth 100000 in
/-- WHAT THE LIST GIVES THE WALKS. -/
theorem env9_of_laid {W : World} (h : laidMetH Tryz.prog laidL9 W) : Env W ∧ SgTab W := by
  unfold laidMetH at h
  rw [laidL9_some, laidL9_none] at h
  have hsg := sg_of_met h.1
  refine ⟨?_, hsg⟩
  obtain ⟨hd, hh⟩ := h
  have t1 := hd.tail.tail
  have hpow := Lib.tabIs_of_head (k := .u64) (zs := Lib.pow10Tab) gPow gPowT Tryz.underlying154 Tryz.underlying37 c2 c4 t1
  have t2 := t1.tail
  obtain ⟨a0, s0, hrng, -, -, -⟩ := laid_sentinel t2 gRng gRngT Tryz.underlying25 rowErr Tryz.underlying170 Tryz.underlying172 rfl rfl Tryz.underlying9 c5 c6
  have t3 := t2.tail
  obtain ⟨a1, s1, hsyn, -, -, -⟩ := laid_sentinel t3 gSyn gSynT Tryz.underlying25 rowErr Tryz.underlying170 Tryz.underlying172 rfl rfl Tryz.underlying9 c5 c6
  have t4 := t3.tail.tail
  have hsp := Lib.tabIs_of_head (k := .u8) (zs := Lib.asciiSpaceTab) gSp gSpT Tryz.underlying149 Tryz.underlying5 c1 c3 t4
  obtain ⟨name, u, ty, e1, e2, e3, e4, e5⟩ := hh _ (List.mem_singleton.2 rfl)
  have en : name = [101, 114, 114, 111, 114] := (Option.some.inj e1).symm
  subst en
  obtain rfl := Option.some.inj (rtRow.symm.trans e2)
  have hm : ty ∈ (List.range 215).filter fun t => Tryz.prog.rowNamed t [101, 114, 114, 111, 114] := List.mem_filter.2 ⟨List.mem_range.2 (by rw [← nTypes]; exact e3), e4⟩
  rw [oneRow] at hm
  obtain rfl := List.mem_singleton.1 hm
  have hth : typeHandle Tryz.prog 25 = .pointer (some ⟨11, 25, none⟩) := by kernel_rfl
  rw [hth] at e5
  exact ⟨hsp, ⟨_, _, hsyn⟩, ⟨_, _, hrng⟩, e5, hpow⟩


noncomputable def laidWorld9 (os : Os) : World :=
  let w0 := World.holding Tryz.prog os ⟨moreBlocks low, #[], []⟩
  { w0 with heap := putB 1 (signsL.map fun l => Value.string ⟨l.toArray⟩).toArray (laidHeap w0.heap) }
theorem laid_met9 (os : Os) (args : Array Value) : laidMetH Tryz.prog laidL9 ((laidWorld9 os).forCall (fun _ _ => 0) ⟨#[], args, []⟩).memory := by
  refine laidMetH_of_parts ?_ ?_
  · rw [laidL9_none]
    exact laidMet_of_run' 8 (by kernel_rfl) (by kernel_rfl)
  · rw [laidL9_some]
    kernel_rfl
end Go.Proofs.YtkflcmengddijaaGreatDoor
