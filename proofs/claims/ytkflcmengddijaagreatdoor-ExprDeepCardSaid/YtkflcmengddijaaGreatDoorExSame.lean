/-
  sacristyref07.Same walked, of what is the same.
-/
import Derived.Test.YtkflcmengddijaaGreatDoorExCopy
import Derived.StillTailTactics
namespace Go.Proofs.YtkflcmengddijaaGreatDoor
open Go.RowKit Lx
set_option linter.unusedVariables false
set_option linter.unusedSimpArgs false

def SameOf (x : Ex) : Prop := ∀ (K1 K2 : Option Addr) (c1 c2 : Nat) (w : World), x.kids.length ≤ 4503599627370496 → kEx.Row w K1 x.kids → kEx.Row w K2 x.kids → (∀ y ∈ x.kids, NamesOk y) →
  Calls Tryz.prog 19 #[.agg #[.int .u8 x.k, .int .u64 x.num, .string x.name, .int .u8 x.op, .slice K1 x.kids.length c1], .agg #[.int .u8 x.k, .int .u64 x.num, .string x.name, .int .u8 x.op, .slice K2 x.kids.length c2]] w fun e w' => e = .returned (.bool true) ∧ Below w.heap.size w w'
set_option maxRecDepth 100000 in
set_option maxHeartbeats 4000000 in
theorem sameEx_c (x : Ex) : SameOf x := by
  refine Ex.ind (P := SameOf) (fun x ih => ?_) x
  intro K1 K2 c1 c2 w hm hr1 hr2 hok
  have B0 := (Bk.new w (exL x K1 c1).toArray 40).alloc (.cells (exL x K2 c2).toArray 40)
  have B1 := Bk.newAt (w := w.alloc (.cells (exL x K1 c1).toArray 40)) (n := w.heap.size + 1) (exL x K2 c2).toArray 40 (by simp)
  have hb0 := ((Below.refl w.heap.size w).alloc (Nat.le_refl _) (.cells (exL x K1 c1).toArray 40)).alloc (by simp) (.cells (exL x K2 c2).toArray 40)
  have C0 := B0.cell
  have C1 := B1.cell
  have HOK := Lib.hid hok
  clear hok
  go_enter Tryz.func19, Tryz.ntmps19
  go_wp2_with fail
  clear C0 C1
  go_loopw [5] (fun i wr => ∃ (ii : Nat), ii ≤ x.kids.length ∧ i = .int .i64 ii ∧ Below w.heap.size w wr ∧
    Bk wr w.heap.size (exL x K1 c1).toArray 40 ∧ Bk wr (w.heap.size + 1) (exL x K2 c2).toArray 40) (fun i _ => x.kids.length - (intOf i).toNat)
  case atStart => exact ⟨0, Nat.zero_le _, rfl, hb0, B0, B1⟩
  case round =>
    clear hb0 B0 B1
    obtain ⟨ii, hii, rfl, hB, B0, B1⟩ := hrel
    have C0 := B0.cell
    have C1 := B1.cell
    have i0 : (0 : Int) ≤ (ii : Int) := by omega
    by_cases hlt : ii < x.kids.length
    · have i1 : (ii : Int) < (x.kids.length : Int) := by omega
      obtain ⟨ob, oo, KK, kc, rfl, gm, gr, g0, g1, g2, g3, g4⟩ := kEx_at (hr1.mono hB) ii hlt
      obtain ⟨ob', oo', KK', kc', rfl, gm', gr', f0, f1, f2, f3, f4⟩ := kEx_at (hr2.mono hB) ii hlt
      have hno := (namesOk_iff _).1 (HOK.out _ (List.getElem_mem hlt))
      have hcall : ∀ W, Below wr.heap.size wr W → Calls Tryz.prog 19 #[.agg #[.int .u8 x.kids[ii].k, .int .u64 x.kids[ii].num, .string x.kids[ii].name, .int .u8 x.kids[ii].op, .slice KK x.kids[ii].kids.length kc], .agg #[.int .u8 x.kids[ii].k, .int .u64 x.kids[ii].num, .string x.kids[ii].name, .int .u8 x.kids[ii].op, .slice KK' x.kids[ii].kids.length kc']] W fun e w' => e = .returned (.bool true) ∧ Below W.heap.size W w' :=
        fun W hW => ih x.kids[ii] (List.getElem_mem hlt) KK KK' kc kc' W hno.2.1.1 (gr.mono hW) (gr'.mono hW) hno.2.2
      have HC := Lib.hid hcall
      clear hcall hno
      go_upto_region 6 with (fail)
      go_still_tail 10, (by kernel_rfl)
      have hd : Below wr.heap.size wr wr.drew := ⟨rfl, rfl, rfl, Nat.le_refl _, fun _ _ => rfl⟩
      go_wp2_with fail
      refine (HC.out _ hd).mono ?_
      rintro e w1 ⟨rfl, hb1⟩
      have hb2 : Below wr.heap.size wr w1 := bt hd hb1
      go_wp2_with fail
      exact ⟨⟨ii + 1, by omega, by go_num, hB.trans (hb2.mono hB.size), B0.mono hb2, B1.mono hb2⟩, by simp [intOf]; omega⟩
    · have i1 : (x.kids.length : Int) ≤ (ii : Int) := by omega
      go_wp2_with fail
      go_ret
      exact ⟨rfl, hB⟩
end Go.Proofs.YtkflcmengddijaaGreatDoor
