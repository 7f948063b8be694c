/-
  expr.Check walked.
-/
import Derived.Test.YtkflcmengddijaaGreatDoorEx
import Derived.Test.YtkflcmengddijaaGreatDoorLexRef2
namespace Go.Proofs.YtkflcmengddijaaGreatDoor
open Go.RowKit Lx
set_option linter.unusedVariables false
set_option linter.unusedSimpArgs false

theorem named_any (s : ByteArray) (w : World) : Calls Tryz.prog 12 #[.string s] w fun e w' => e = .returned (.bool (isName s.data.toList)) ∧ w = w' := by
  by_cases h : s.size ≤ 1000000
  · exact named_c s w h
  · have h1 : 0 < s.size := by omega
    have h2 := ne_of_size h1
    have h16 : ¬ (s.size : Int) ≤ 16 := by omega
    go_enter Tryz.func12, Tryz.ntmps12
    go_wp2
    go_ret
    refine ⟨ret_bool ?_, rfl⟩
    have : ¬ s.data.toList.length ≤ 16 := by rw [size_data]; omega
    simp only [isName, decide_eq_false this, Bool.and_false, Bool.false_and]
theorem rNamed_any (s : ByteArray) (w : World) : Calls Tryz.prog 13 #[.string s] w fun e w' => e = .returned (.bool (isName s.data.toList)) ∧ Below w.heap.size w w' := by
  by_cases h : s.size ≤ 1000000
  · exact rNamed_c s w h
  · have h1 : 0 < s.size := by omega
    have h2 := ne_of_size h1
    have h16 : ¬ (s.size : Int) ≤ 16 := by omega
    go_enter Tryz.func13, Tryz.ntmps13
    go_wp2
    go_ret
    refine ⟨ret_bool ?_, Below.refl _ _⟩
    have : ¬ s.data.toList.length ≤ 16 := by rw [size_data]; omega
    simp only [isName, decide_eq_false this, Bool.and_false, Bool.false_and]

abbrev exCells (x : Ex) (K : Option Addr) (c : Nat) : Array Value := #[.int .u8 x.k, .int .u64 x.num, .string x.name, .int .u8 x.op, .slice K x.kids.length c]
/-- What may answers of an expression, whatever its place. -/
def MayOf (x : Ex) : Prop := ∀ (d : Nat) (K : Option Addr) (c : Nat) (w : World), d ≤ 1000 → x.kids.length ≤ maxLen → kEx.Row w K x.kids →
  Calls Tryz.prog 40 #[.agg #[.int .u8 x.k, .int .u64 x.num, .string x.name, .int .u8 x.op, .slice K x.kids.length c], .int .i64 d] w fun e w' => e = .returned (.bool (mayB x d)) ∧ Below w.heap.size w w'

theorem may1_c (x : Ex) (hx : MayOf x) (d : Nat) (hd : d ≤ 100) (K : Option Addr) (c : Nat) (w : World) (db : Nat) (hp : Bk w db #[.int .i64 d] 3) (hm : x.kids.length ≤ maxLen) (hr : kEx.Row w K x.kids) :
    Calls Tryz.prog 63 #[.agg #[.int .u8 x.k, .int .u64 x.num, .string x.name, .int .u8 x.op, .slice K x.kids.length c], .pointer (some ⟨db, 0, none⟩)] w
      fun e w' => e = .returned (.bool (!mayB x (d + 1))) ∧ Below w.heap.size w w' := by
  have C := hp.cell
  have hl := hp.lt
  have hbW : Below w.heap.size w (w.alloc (.cells #[.int .u8 x.k, .int .u64 x.num, .string x.name, .int .u8 x.op, .slice K x.kids.length c] 40)) := (Below.refl _ _).alloc (Nat.le_refl _) _
  have hX : ∀ W, Below w.heap.size w W → Calls Tryz.prog 40 #[.agg #[.int .u8 x.k, .int .u64 x.num, .string x.name, .int .u8 x.op, .slice K x.kids.length c], .int .i64 ((d : Int) + 1)] W fun e w' => e = .returned (.bool (mayB x (d + 1))) ∧ Below W.heap.size W w' := fun W hW => hx (d + 1) K c W (by omega) hm (hr.mono hW)
  have HX := Lib.hid hX
  clear hX
  have d0 : (0 : Int) ≤ (d : Int) := by omega
  have d1 : (d : Int) ≤ 100 := by omega
  go_enter Tryz.func63, Tryz.ntmps63
  go_wp2_with (go_at_call 40; refine (HX.out _ hbW).mono ?_; rintro e w1 ⟨rfl, hb⟩)
  go_ret
  exact ⟨rfl, bt hbW hb⟩

set_option maxHeartbeats 1000000 in
theorem indexEx_c (xs : List Ex) (hxs : ∀ x ∈ xs, MayOf x) (d : Nat) (hd : d ≤ 100) {O : Option Addr} {c : Nat} (w : World) (pb : Nat) (hp : Bk w pb #[.int .i64 d] 3) (ho : kEx.Row w O xs) (hm : xs.length ≤ maxLen) :
    Calls Tryz.prog 84 #[.slice O xs.length c, .func (.func 63) #[] #[.pointer (some ⟨pb, 0, none⟩)]] w
      fun e w' => (∃ r : Int, e = .returned (.int .i64 r) ∧ (0 ≤ r ↔ xs.all (fun x => mayB x (d + 1)) = false)) ∧ Below w.heap.size w w' := by
  unfold maxLen at hm
  go_enter Tryz.func84, Tryz.ntmps84
  go_wp2_with fail
  go_loopw [8] (fun s wr => ∃ k : Nat, k ≤ xs.length ∧ s = .int .i64 k ∧ (∀ j (h : j < xs.length), j < k → mayB xs[j] (d + 1) = true) ∧ Below w.heap.size w wr) (fun s _ => xs.length - (intOf s).toNat)
  case atStart => exact ⟨0, Nat.zero_le _, rfl, fun j _ h => absurd h (by omega), Below.refl _ _⟩
  case round =>
    obtain ⟨k, hk, rfl, hall, hb⟩ := hrel
    by_cases hlt : k < xs.length
    · obtain ⟨ob, oo, KK, cc, rfl, gm, gr, g0, g1, g2, g3, g4⟩ := kEx_at (ho.mono hb) k hlt
      have HA := Lib.hid hall; clear hall
      have HM := Lib.hid (may1_c xs[k] (hxs _ (List.getElem_mem hlt)) d hd KK cc _ pb (hp.mono hb) gm gr)
      cases hop : mayB xs[k] (d + 1) with
      | true =>
        have HO := Lib.hid hop; clear hop
        go_wp2_with (go_at_call 63; refine HM.out.mono ?_; rintro e w1 ⟨rfl, hb1⟩; rw [HO.out])
        go_roundw
        case rel => exact ⟨k + 1, by omega, by go_num, fun j h hj => by
          by_cases e : j = k
          · subst e; exact HO.out
          · exact HA.out j h (by omega), bt hb hb1⟩
        case measure => simp [intOf]; omega
      | false =>
        have HO := Lib.hid hop; clear hop
        go_wp2_with (go_at_call 63; refine HM.out.mono ?_; rintro e w1 ⟨rfl, hb1⟩; rw [HO.out])
        go_ret
        refine ⟨⟨k, rfl, fun _ => ?_, fun _ => by omega⟩, bt hb hb1⟩
        rw [List.all_eq_false]
        exact ⟨xs[k], List.getElem_mem hlt, by simp [HO.out]⟩
    · go_wp2_with fail
      go_ret
      refine ⟨⟨-1, rfl, fun h => by omega, fun h => ?_⟩, hb⟩
      rw [List.all_eq_false] at h
      obtain ⟨o, ho, hf⟩ := h
      obtain ⟨j, hj, rfl⟩ := List.getElem_of_mem ho
      exact absurd (hall j hj (by omega)) hf

set_option maxHeartbeats 400000 in
theorem containsEx_c (xs : List Ex) (hxs : ∀ x ∈ xs, MayOf x) (d : Nat) (hd : d ≤ 100) {O : Option Addr} {c : Nat} (w : World) (pb : Nat) (hp : Bk w pb #[.int .i64 d] 3) (ho : kEx.Row w O xs) (hm : xs.length ≤ maxLen) :
    Calls Tryz.prog 62 #[.slice O xs.length c, .func (.func 63) #[] #[.pointer (some ⟨pb, 0, none⟩)]] w
      fun e w' => e = .returned (.bool (!xs.all (fun x => mayB x (d + 1)))) ∧ Below w.heap.size w w' := by
  go_enter Tryz.func62, Tryz.ntmps62
  go_wp2_with (go_at_call 84; refine (indexEx_c xs hxs d hd _ pb hp ho hm).mono ?_; rintro e w1 ⟨⟨r, rfl, hr⟩, hb⟩; have HR := Lib.hid hr; clear hr)
  go_ret
  refine ⟨ret_bool ?_, hb⟩
  have := HR.out
  cases h : xs.all (fun x => mayB x (d + 1)) <;> simp [h] at this ⊢ <;> omega

end Go.Proofs.YtkflcmengddijaaGreatDoor
