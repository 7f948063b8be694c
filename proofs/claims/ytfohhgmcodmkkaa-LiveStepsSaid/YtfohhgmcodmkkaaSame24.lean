/-
  Same: two rows of ints.
-/
import Derived.Test.YtfohhgmcodmkkaaSlc
namespace Go.Proofs.Ytfohhgmcodmkkaa
open Go.RowKit Go.Lib
set_option linter.unusedVariables false
set_option linter.unusedSimpArgs false

set_option maxRecDepth 100000 in
set_option maxHeartbeats 1000000 in
theorem same24_c (xs ys : List Int) (A B : Option Addr) (c1 c2 : Nat) (w : World) (hx : kInt.Row w A xs) (hy : kInt.Row w B ys) (hm : xs.length ≤ 1000000000000) :
    Calls Try.prog 8 #[.slice A xs.length c1, .slice B ys.length c2] w fun e w' => e = .returned (.bool (decide (xs = ys))) ∧ Below w.heap.size w w' := by
  go_enter Try.func8, Try.ntmps8
  by_cases hl : xs.length = ys.length
  case neg =>
    have hl2 : (xs.length : Int) ≠ (ys.length : Int) := by omega
    have hd : decide (xs = ys) = false := decide_eq_false fun h => hl (by rw [h])
    rw [hd]
    go_wp2_with fail
    go_ret
    exact ⟨rfl, Below.refl _ _⟩
  case pos =>
    have HL := Lib.hid hl
    rw [← hl]
    have hE : ∃ E, decide (xs = ys) = E := ⟨_, rfl⟩
    obtain ⟨E, hE⟩ := hE
    rw [hE]
    have HE := Lib.hid hE
    clear hE hl
    go_wp2_with fail
    go_loopw [5] (fun s wr => ∃ k : Nat, k ≤ xs.length ∧ s = .int .i64 k ∧ (∀ j (h : j < xs.length) (h' : j < ys.length), j < k → xs[j] = ys[j]) ∧ Below w.heap.size w wr) (fun s _ => xs.length - (intOf s).toNat)
    case atStart => exact ⟨0, Nat.zero_le _, rfl, fun j _ _ h => absurd h (by omega), Below.refl _ _⟩
    case round =>
      obtain ⟨k, hk, rfl, hall, hb⟩ := hrel
      have HA := Lib.hid hall; clear hall
      by_cases hlt : k < xs.length
      · have hlt2 : k < ys.length := by have := HL.out; omega
        obtain ⟨ab, ao, rfl, ga⟩ := kInt_at (hx.mono hb) k hlt
        obtain ⟨bb, bo, rfl, gb⟩ := kInt_at (hy.mono hb) k hlt2
        go_upto_region 6 with (fail)
        go_cut [25] (fun s we => s = .bool (xs[k] != ys[k]) ∧ Below wr.heap.size wr we)
        case first =>
          go_quiet (fail)
          go_wp2
          go_meet
          case rel => exact ⟨rfl, ⟨rfl, rfl, rfl, Nat.le_refl _, fun _ _ => rfl⟩⟩
        case rest =>
          obtain ⟨rfl, hb1⟩ := hcut
          by_cases he : xs[k] = ys[k]
          · have hq : (xs[k] != ys[k]) = false := by simp [he]
            rw [hq]
            have HQ := Lib.hid he
            clear he hq
            go_wp2_with fail
            go_roundw
            case rel =>
              refine ⟨k + 1, by omega, by go_num, fun j h h' hj => ?_, bt hb hb1⟩
              by_cases e : j = k
              · subst e; exact HQ.out
              · exact HA.out j h h' (by omega)
            case measure => simp [intOf]; omega
          · have hq : (xs[k] != ys[k]) = true := by simp [he]
            rw [hq]
            have HQ := Lib.hid he
            clear he hq
            go_wp2_with fail
            go_ret
            refine ⟨ret_bool ?_, bt hb hb1⟩
            rw [← HE.out]
            symm
            rw [decide_eq_false_iff_not]
            intro h
            subst h
            exact HQ.out rfl
      · go_wp2_with fail
        go_ret
        refine ⟨ret_bool ?_, hb⟩
        rw [← HE.out]
        symm
        rw [decide_eq_true_eq]
        exact List.ext_getElem HL.out fun j h1 h2 => HA.out j h1 h2 (by omega)

end Go.Proofs.Ytfohhgmcodmkkaa
