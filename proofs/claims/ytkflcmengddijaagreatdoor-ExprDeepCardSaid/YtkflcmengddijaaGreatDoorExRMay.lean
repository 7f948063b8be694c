/-
  The document's May, walked.
-/
import Derived.Test.YtkflcmengddijaaGreatDoorExShape
import Derived.Test.YtkflcmengddijaaGreatDoorExSame
namespace Go.Proofs.YtkflcmengddijaaGreatDoor
open Go.RowKit Lx
set_option linter.unusedVariables false
set_option linter.unusedSimpArgs false

def RMayOf (x : Ex) : Prop := ∀ (d : Nat) (K : Option Addr) (c : Nat) (w : World), d ≤ 1000 → NamesOk x → kEx.Row w K x.kids →
  Calls Tryz.prog 42 #[.agg #[.int .u8 x.k, .int .u64 x.num, .string x.name, .int .u8 x.op, .slice K x.kids.length c], .int .i64 d] w fun e w' => e = .returned (.bool (mayB x d)) ∧ Below w.heap.size w w'
theorem all_step' {α : Type} {xs : List α} {p : α → Bool} : ∀ (k : Nat), (∀ j (h : j < xs.length), j < k → p xs[j] = true) → xs.all p = (xs.drop k).all p
  | 0, _ => rfl
  | k + 1, h => by
    rw [all_step' k (fun j hj hk => h j hj (by omega))]
    by_cases hk : k < xs.length
    · rw [List.drop_eq_getElem_cons hk, List.all_cons, h k hk (by omega)]; rfl
    · rw [List.drop_of_length_le (by omega), List.drop_of_length_le (by omega)]
set_option maxRecDepth 100000 in
set_option maxHeartbeats 4000000 in
theorem rMay_c (x : Ex) : RMayOf x := by
  refine Ex.ind (P := RMayOf) (fun x ih => ?_) x
  intro d K c w hd hok hr
  obtain ⟨hn1, ⟨hn2, hop0, hop1⟩, hn3⟩ := (namesOk_iff x).1 hok
  have hb0 := (Below.refl w.heap.size w).alloc (Nat.le_refl _) (.cells (exL x K c).toArray 40)
  have B0 := Bk.new w (exL x K c).toArray 40
  have d0 : (0 : Int) ≤ (d : Int) := by omega
  have d1 : (d : Int) ≤ 1000 := by omega
  have HOK := Lib.hid hn3
  clear hok hn3
  by_cases hd4 : (d : Int) ≤ 40
  case neg =>
    have hm : mayB x d = false := by rw [mayB_eq, decide_eq_false (by omega)]; rfl
    rw [hm]
    clear hm
    go_enter Tryz.func42, Tryz.ntmps42
    go_wp2_with fail
    go_ret
    exact ⟨rfl, hb0⟩
  have hall : mayB x d = (shapeB x && x.kids.all fun y => mayB y (d + 1)) := by rw [mayB_eq, decide_eq_true (by omega)]; rfl
  have hS : ∀ W, Calls Tryz.prog 66 #[.agg #[.int .u8 x.k, .int .u64 x.num, .string x.name, .int .u8 x.op, .slice K x.kids.length c]] W fun e w' => e = .returned (.bool (shapeB x)) ∧ Below W.heap.size W w' := fun W => shape_c x hop0 hop1 K c W
  cases hsh : shapeB x with
  | false =>
    rw [hall, hsh]
    rw [hsh] at hS
    have HS := Lib.hid hS
    clear hS hall hsh
    go_enter Tryz.func42, Tryz.ntmps42
    go_wp2_with fail
    refine (HS.out _).mono ?_
    rintro e w1 ⟨rfl, hb1⟩
    go_wp2_with fail
    go_ret
    exact ⟨rfl, bt hb0 hb1⟩
  | true =>
    rw [hall, hsh, Bool.true_and]
    rw [hsh] at hS
    have HS := Lib.hid hS
    clear hS hall hsh
    go_enter Tryz.func42, Tryz.ntmps42
    go_wp2_with fail
    refine (HS.out _).mono ?_
    rintro e w1 ⟨rfl, hb1⟩
    have B1 := B0.mono hb1
    have hB1 := bt hb0 hb1
    go_wp2_with fail
    go_loopw [5] (fun i wr => ∃ (ii : Nat), ii ≤ x.kids.length ∧ i = .int .i64 ii ∧ Below w.heap.size w wr ∧ Bk wr w.heap.size (exL x K c).toArray 40 ∧ (∀ j (h : j < x.kids.length), j < ii → mayB x.kids[j] (d + 1) = true)) (fun i _ => x.kids.length - (intOf i).toNat)
    case atStart => exact ⟨0, Nat.zero_le _, rfl, hB1, B1, fun j _ h => absurd h (by omega)⟩
    case round =>
      clear hB1 B1 hb1 B0 hb0
      obtain ⟨ii, hii, rfl, hB, B1, hall⟩ := hrel
      have C1 := B1.cell
      have HA := Lib.hid hall
      clear hall
      have i0 : (0 : Int) ≤ (ii : Int) := by omega
      by_cases hlt : ii < x.kids.length
      · have i1 : (ii : Int) < (x.kids.length : Int) := by omega
        obtain ⟨ob, oo, KK, kc, rfl, gm, gr, g0, g1, g2, g3, g4⟩ := kEx_at (hr.mono hB) ii hlt
        have hcall : Calls Tryz.prog 42 #[.agg #[.int .u8 x.kids[ii].k, .int .u64 x.kids[ii].num, .string x.kids[ii].name, .int .u8 x.kids[ii].op, .slice KK x.kids[ii].kids.length kc], .int .i64 ((d : Int) + 1)] wr fun e w' => e = .returned (.bool (mayB x.kids[ii] (d + 1))) ∧ Below wr.heap.size wr w' :=
          ih x.kids[ii] (List.getElem_mem hlt) (d + 1) KK kc wr (by omega) (HOK.out _ (List.getElem_mem hlt)) gr
        cases hm : mayB x.kids[ii] (d + 1) with
        | true =>
          rw [hm] at hcall
          have HM := Lib.hid hm
          have HC := Lib.hid hcall
          clear hcall hm
          go_wp2_with fail
          refine HC.out.mono ?_
          rintro e w2 ⟨rfl, hb2⟩
          go_wp2_with fail
          exact ⟨⟨ii + 1, by omega, by go_num, hB.trans (hb2.mono hB.size), B1.mono hb2, fun j h hj => by
            by_cases e : j = ii
            · subst e; exact HM.out
            · exact HA.out j h (by omega)⟩, by simp [intOf]; omega⟩
        | false =>
          rw [hm] at hcall
          have HM := Lib.hid hm
          have HC := Lib.hid hcall
          clear hcall hm
          go_wp2_with fail
          refine HC.out.mono ?_
          rintro e w2 ⟨rfl, hb2⟩
          go_wp2_with fail
          go_ret
          refine ⟨ret_bool ?_, hB.trans (hb2.mono hB.size)⟩
          rw [all_step' ii HA.out, List.drop_eq_getElem_cons hlt, List.all_cons, HM.out]
          rfl
      · have i1 : (x.kids.length : Int) ≤ (ii : Int) := by omega
        go_wp2_with fail
        go_ret
        refine ⟨ret_bool ?_, hB⟩
        rw [all_step' ii HA.out, List.drop_of_length_le (by omega)]
        rfl
theorem rMays_c (x : Ex) (K : Option Addr) (c : Nat) (w : World) (hok : NamesOk x) (hr : kEx.Row w K x.kids) :
    Calls Tryz.prog 20 #[.agg #[.int .u8 x.k, .int .u64 x.num, .string x.name, .int .u8 x.op, .slice K x.kids.length c]] w fun e w' => e = .returned (.bool (mayB x 1)) ∧ Below w.heap.size w w' := by
  have hb0 := (Below.refl w.heap.size w).alloc (Nat.le_refl _) (.cells (exL x K c).toArray 40)
  have hM : ∀ W, Below w.heap.size w W → Calls Tryz.prog 42 #[.agg #[.int .u8 x.k, .int .u64 x.num, .string x.name, .int .u8 x.op, .slice K x.kids.length c], .int .i64 1] W fun e w' => e = .returned (.bool (mayB x 1)) ∧ Below W.heap.size W w' := fun W h => rMay_c x 1 K c W (by omega) hok (hr.mono h)
  have HM := Lib.hid hM
  clear hM hok
  go_enter Tryz.func20, Tryz.ntmps20
  go_wp2_with fail
  refine (HM.out _ hb0).mono ?_
  rintro e w1 ⟨rfl, hb1⟩
  go_wp2_with fail
  go_ret
  exact ⟨rfl, bt hb0 hb1⟩
end Go.Proofs.YtkflcmengddijaaGreatDoor
