/-
  What the rows' list of variables gives the walks; a world in which it holds.
-/
import Derived.Test.YtkflcmengddijaaGreatDoorLexAlive
import Derived.Test.YtkflcmengddijaaGreatDoorOpenG
import Derived.LaidHandle
import Derived.Stop.LaidErr
import Derived.Stop.Joined
import Derived.LaidLaws
namespace Go.Proofs.YtkflcmengddijaaGreatDoor
open Go.RowKit Go.ChangeShapes Go.WideShapes Go.ChangeAt
set_option linter.unusedVariables false

theorem gPowT : (Tryz.prog.globals[3]?).map (·.type) = some 154 := by kernel_rfl
theorem gSpT : (Tryz.prog.globals[2]?).map (·.type) = some 149 := by kernel_rfl
theorem gSynT : (Tryz.prog.globals[4]?).map (·.type) = some 25 := by kernel_rfl
theorem gRngT : (Tryz.prog.globals[5]?).map (·.type) = some 25 := by kernel_rfl
theorem c1 : Tryz.prog.cellsOf 5 = 1 := by kernel_rfl
theorem c2 : Tryz.prog.cellsOf 37 = 1 := by kernel_rfl
theorem c3 : Tryz.prog.cellsOf 149 = 256 := by kernel_rfl
theorem c4 : Tryz.prog.cellsOf 154 = 20 := by kernel_rfl
theorem c5 : Tryz.prog.cellsOf 172 = 1 := by kernel_rfl
theorem c6 : Tryz.prog.cellsOf 9 = 1 := by kernel_rfl
theorem rtRow : (Tryz.prog.cutTypes.find? (·.1 == "internal/reflectlite.rtype")).map (·.2) = some 119 := by kernel_rfl
theorem nTypes : Tryz.prog.types.size = 215 := by kernel_rfl
theorem oneRow : ((List.range 215).filter fun t => Tryz.prog.rowNamed t [101, 114, 114, 111, 114]) = [25] := by kernel_rfl
theorem star : "*" ++ "errors.errorString" = "*errors.errorString" := by decide
theorem rowErr (u : TypeId) (h : Tryz.prog.typeName? 3 u = some "*errors.errorString") : u = 170 :=
  typeName_ptr_named (nm := "errors.errorString") (by rw [star]; kernel_rfl) (by kernel_rfl) (by decide) u (by rw [star]; exact h)

/-- The list, as the rows have it. -/
def laidL : List (String × DataW Unit) := [("math/bits.deBruijn32tab", Rows.laid_math_bits_deBruijn32tab), ("math/bits.deBruijn64tab", Rows.laid_math_bits_deBruijn64tab), ("internal/strconv.uint64pow10", Rows.laid_internal_strconv_uint64pow10), ("errors.errorType", Rows.laid_errors_errorType), ("strconv.ErrRange", Rows.laid_strconv_ErrRange), ("strconv.ErrSyntax", Rows.laid_strconv_ErrSyntax), ("unicode.White_Space", Rows.laid_unicode_White_Space), ("strings.asciiSpace", Rows.laid_strings_asciiSpace)]
def laidD : List (String × DataW Unit) := [("math/bits.deBruijn32tab", Rows.laid_math_bits_deBruijn32tab), ("math/bits.deBruijn64tab", Rows.laid_math_bits_deBruijn64tab), ("internal/strconv.uint64pow10", Rows.laid_internal_strconv_uint64pow10), ("strconv.ErrRange", Rows.laid_strconv_ErrRange), ("strconv.ErrSyntax", Rows.laid_strconv_ErrSyntax), ("unicode.White_Space", Rows.laid_unicode_White_Space), ("strings.asciiSpace", Rows.laid_strings_asciiSpace)]
theorem laidL_none : (laidL.filter fun x => x.2.handleName?.isNone) = laidD := by kernel_rfl
theorem laidL_some : (laidL.filter fun x => x.2.handleName?.isSome) = [("errors.errorType", Rows.laid_errors_errorType)] := by kernel_rfl

set_option maxRecDepth 100000 in
/-- WHAT THE LIST GIVES THE WALKS. -/
theorem env_of_laid {W : World} (h : laidMetH Tryz.prog laidL W) : Env W := by
  unfold laidMetH at h
  rw [laidL_some, laidL_none] at h
  obtain ⟨hd, hh⟩ := h
  have t1 := hd.tail.tail
  have hpow := Lib.tabIs_of_head (k := .u64) (zs := Lib.pow10Tab) gPow gPowT Tryz.underlying154 Tryz.underlying37 c2 c4 t1
  have t2 := t1.tail
  obtain ⟨a0, s0, hrng, -, -, -⟩ := laid_sentinel t2 gRng gRngT Tryz.underlying25 rowErr Tryz.underlying170 Tryz.underlying172 rfl rfl Tryz.underlying9 c5 c6
  have t3 := t2.tail
  obtain ⟨a1, s1, hsyn, -, -, -⟩ := laid_sentinel t3 gSyn gSynT Tryz.underlying25 rowErr Tryz.underlying170 Tryz.underlying172 rfl rfl Tryz.underlying9 c5 c6
  have t4 := t3.tail.tail
  have hsp := Lib.tabIs_of_head (k := .u8) (zs := Lib.asciiSpaceTab) gSp gSpT Tryz.underlying149 Tryz.underlying5 c1 c3 t4
  obtain ⟨name, u, ty, e1, e2, e3, e4, e5⟩ := hh _ (List.mem_singleton.2 rfl)
  have en : name = [101, 114, 114, 111, 114] := (Option.some.inj e1).symm
  subst en
  obtain rfl := Option.some.inj (rtRow.symm.trans e2)
  have hm : ty ∈ (List.range 215).filter fun t => Tryz.prog.rowNamed t [101, 114, 114, 111, 114] := List.mem_filter.2 ⟨List.mem_range.2 (by rw [← nTypes]; exact e3), e4⟩
  rw [oneRow] at hm
  obtain rfl := List.mem_singleton.1 hm
  have hth : typeHandle Tryz.prog 25 = .pointer (some ⟨11, 25, none⟩) := by kernel_rfl
  rw [hth] at e5
  exact ⟨hsp, ⟨_, _, hsyn⟩, ⟨_, _, hrng⟩, e5, hpow⟩

/-! ### A world in which the list holds -/
abbrev synS : ByteArray := { data := #[105, 110, 118, 97, 108, 105, 100, 32, 115, 121, 110, 116, 97, 120] }
abbrev rngS : ByteArray := { data := #[118, 97, 108, 117, 101, 32, 111, 117, 116, 32, 111, 102, 32, 114, 97, 110, 103, 101] }
noncomputable def low : Nat := (World.holding Tryz.prog default ⟨#[], #[], []⟩).heap.size
def u8s (l : List Int) : Array Value := (l.map fun z => Value.int .u8 z).toArray
def moreBlocks (low : Nat) : Array Obj := #[.cells #[.string synS] 172, .cells #[.string rngS] 172,
  .cells #[.slice (some ⟨low + 3, 0, none⟩) 7 7, .slice none 0 0, .int .i64 2] 176,
  .cells (([9, 13, 1, 32, 133, 101, 160, 5760, 5600, 8192, 8202, 1, 8232, 8233, 1, 8239, 8287, 48, 12288, 12288, 1] : List Int).map fun z => Value.int .u16 z).toArray 179]
def putB (n : Nat) (cs : Array Value) (h : Array Obj) : Array Obj := h.modify n fun
  | .cells _ t frozen => .cells cs t frozen
  | o => o
noncomputable def laidHeap (h : Array Obj) : Array Obj :=
  putB 0 #[.iface 119 (.agg #[.pointer (some ⟨11, 25, none⟩)])] (
  putB 2 (u8s Lib.asciiSpaceTab) (
  putB 3 (Lib.pow10Tab.map fun z => Value.int .u64 z).toArray (
  putB 4 #[.iface 170 (.pointer (some ⟨low, 0, none⟩))] (
  putB 5 #[.iface 170 (.pointer (some ⟨low + 1, 0, none⟩))] (
  putB 6 #[.pointer (some ⟨low + 2, 0, none⟩)] (
  putB 8 (u8s [0, 1, 28, 2, 29, 14, 24, 3, 30, 22, 20, 15, 25, 17, 4, 8, 31, 27, 13, 23, 21, 19, 16, 7, 26, 12, 18, 6, 11, 5, 10, 9]) (
  putB 9 (u8s [0, 1, 56, 2, 57, 49, 28, 3, 61, 58, 42, 50, 38, 29, 17, 4, 62, 47, 59, 36, 45, 43, 51, 22, 53, 39, 33, 30, 24, 18, 12, 5, 63, 55, 48, 27, 60, 41, 37, 16, 46, 35, 44, 21, 52, 32, 23, 11, 54, 26, 40, 15, 34, 20, 31, 10, 25, 14, 19, 9, 13, 8, 7, 6]) h)))))))
noncomputable def laidWorld (os : Os) : World :=
  let w0 := World.holding Tryz.prog os ⟨moreBlocks low, #[], []⟩
  { w0 with heap := laidHeap w0.heap }
theorem laid_met (os : Os) (args : Array Value) : laidMetH Tryz.prog laidL ((laidWorld os).forCall (fun _ _ => 0) ⟨#[], args, []⟩).memory := by
  refine laidMetH_of_parts ?_ ?_
  · rw [laidL_none]
    exact laidMet_of_run' 8 (by kernel_rfl) (by kernel_rfl)
  · rw [laidL_some]
    kernel_rfl
end Go.Proofs.YtkflcmengddijaaGreatDoor
