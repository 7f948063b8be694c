/-
  Which programs tell; which buffers are alike in public: walked.
-/
import Derived.Test.YtoabiignjkcdmaaRunK1
import Derived.Test.YtoabiignjkcdmaaIrW4
namespace Go.Proofs.Ytoabiignjkcdmaa
open Go.RowKit
set_option linter.unusedVariables false
set_option linter.unusedSimpArgs false

set_option maxRecDepth 100000 in
set_option maxHeartbeats 2000000 in
theorem telling_c (p : SIr) (w : World) (S P B : Option Addr) (c1 c2 c3 : Nat) (hB : kBlock.Row w B p.blk) (hsm : Small p) :
    Calls Try.prog 11 #[.agg #[.slice S p.sec.length c1, .slice P p.par.length c2, .slice B p.blk.length c3]] w (SamePost w (tellsS p = true)) := by
  have hblk := hsm.blk
  have hops := hsm.each
  obtain ⟨w1, hw1⟩ : ∃ w1, w1 = w.alloc (.cells #[.slice S p.sec.length c1, .slice P p.par.length c2, .slice B p.blk.length c3] 26) := ⟨_, rfl⟩
  have hb1 : Below w.heap.size w w1 := by rw [hw1]; exact (Below.refl w.heap.size w).alloc (Nat.le_refl _) _
  have BP : Bk w1 w.heap.size #[.slice S p.sec.length c1, .slice P p.par.length c2, .slice B p.blk.length c3] 26 := by rw [hw1]; exact Bk.new w _ _
  go_enter Try.func11, Try.ntmps11
  go_upto_region 1 with (fail)
  rw [← hw1]
  clear hw1
  have CP := BP.cell
  go_wp2_with fail
  go_loop [3] (fun s => ∃ i : Nat, i ≤ p.blk.length ∧ s = .int .i64 i ∧ ∀ q (h : q < p.blk.length), q < i → (p.blk[q].ops.any fun o => o.k == 12) = false) (fun s => p.blk.length - (intOf s).toNat)
  case atStart => exact ⟨0, Nat.zero_le _, rfl, fun q _ h => absurd h (by omega)⟩
  case round =>
    obtain ⟨i, hi, rfl, hall⟩ := hrel
    have HA := Lib.hid hall
    clear hall
    by_cases hlt : i < p.blk.length
    · obtain ⟨bb, bo, O, oc, rfl, g0, g1, g2, g3, g4, gm, hO⟩ := kBlock_at (hB.mono hb1) i hlt
      have hol := hops _ (List.getElem_mem hlt)
      obtain ⟨bk, hbk⟩ : ∃ bk, bk = p.blk[i] := ⟨_, rfl⟩
      rw [← hbk] at g0 hO hol
      have HBK := Lib.hid hbk
      clear g1 g2 g3 g4 gm hbk
      go_wp2_with fail
      go_loop [4] (fun s => ∃ j : Nat, j ≤ bk.ops.length ∧ s = .int .i64 j ∧ ∀ q (h : q < bk.ops.length), q < j → (bk.ops[q].k == 12) = false) (fun s => bk.ops.length - (intOf s).toNat)
      case atStart => exact ⟨0, Nat.zero_le _, rfl, fun q _ h => absurd h (by omega)⟩
      case round =>
        obtain ⟨j, hj, rfl, hal2⟩ := hrel
        have HA2 := Lib.hid hal2
        clear hal2
        by_cases hlt2 : j < bk.ops.length
        · obtain ⟨ob, oo, rfl, q0, q1, q2, q3, q4, q5⟩ := kOp_at hO j hlt2
          obtain ⟨op, hop⟩ : ∃ op, op = bk.ops[j] := ⟨_, rfl⟩
          rw [← hop] at q0
          have HOP := Lib.hid hop
          clear q1 q2 q3 q4 q5 hop
          cases hk : (op.k == 12) with
          | true =>
            have HK := Lib.hid hk
            go_wp2_with fail
            go_ret
            refine same_yes ?_ hb1
            unfold tellsS
            exact List.any_eq_true.2 ⟨p.blk[i], List.getElem_mem hlt, List.any_eq_true.2 ⟨op, by rw [HOP.out, ← HBK.out]; exact List.getElem_mem hlt2, HK.out⟩⟩
          | false =>
            have HK := Lib.hid hk
            go_wp2_with fail
            go_round
            case rel => exact ⟨j + 1, by omega, by go_num, fun q h hq => by
              by_cases e : q = j
              · subst e; rw [← HOP.out]; exact HK.out
              · exact HA2.out q h (by omega)⟩
            case measure => simp [intOf]; omega
        · have hjl : j = bk.ops.length := by omega
          have HJ := Lib.hid hjl
          clear hjl
          go_wp2_with fail
          go_round
          case rel => exact ⟨i + 1, by omega, by go_num, fun q h hq => by
            by_cases e : q = i
            · subst e
              rw [← HBK.out, List.any_eq_false]
              intro o ho
              obtain ⟨z, hz, rfl⟩ := List.getElem_of_mem ho
              rw [HA2.out z hz (by rw [HJ.out]; exact hz)]
              decide
            · exact HA.out q h (by omega)⟩
          case measure => simp [intOf]; omega
    · have hil : i = p.blk.length := by omega
      have HI := Lib.hid hil
      clear hil
      go_wp2_with fail
      go_ret
      refine same_no ?_ hb1
      unfold tellsS
      rw [List.any_eq_true]
      rintro ⟨b, hb, hk⟩
      obtain ⟨z, hz, rfl⟩ := List.getElem_of_mem hb
      rw [HA.out z hz (by rw [HI.out]; exact hz)] at hk
      cases hk
set_option maxRecDepth 100000 in
set_option maxHeartbeats 2000000 in
theorem public_c (par : List SHanded) (xs ys : List ByteArray) (w : World) (P A C : Option Addr) (c2 ca cc : Nat) (hP : kHanded.Row w P par) (hA : kStr.Row w A xs) (hC : kStr.Row w C ys) (hpl : par.length ≤ 1000) (hx : xs.length ≤ 9223372036854775807) (hy : ys.length ≤ 9223372036854775807) (hpub : publicS par xs ys = true) :
    Calls Try.prog 13 #[.slice P par.length c2, .slice A xs.length ca, .slice C ys.length cc] w fun e w' => e = .returned (.bool true) ∧ Below w.heap.size w w' := by
  have HPUB := Lib.hid hpub
  clear hpub
  go_enter Try.func13, Try.ntmps13
  go_wp2_with fail
  go_loopw [7, 8] (fun u s wr => ∃ (i k : Nat), i ≤ par.length ∧ k ≤ i ∧ s = .int .i64 i ∧ u = .int .i64 k ∧ publicS (par.drop i) (xs.drop k) (ys.drop k) = true ∧ Below w.heap.size w wr) (fun _ s _ => par.length - (intOf s).toNat)
  case atStart => exact ⟨0, 0, Nat.zero_le _, Nat.le_refl _, rfl, rfl, HPUB.out, Below.refl _ _⟩
  case round =>
    obtain ⟨i, k, hi, hki, rfl, rfl, hpub, hb⟩ := hrel
    by_cases hlt : i < par.length
    · obtain ⟨pb, po, rfl, g0, g1, g2, g3, g4⟩ := kHanded_at' (hP.mono hb) i hlt
      have hdr : par.drop i = par[i] :: par.drop (i + 1) := List.drop_eq_getElem_cons hlt
      obtain ⟨h, hh⟩ : ∃ h, h = par[i] := ⟨_, rfl⟩
      rw [← hh] at g0 g1 hdr
      rw [hdr] at hpub
      clear g2 g3 g4 hh hdr
      cases hbuf : h.buf with
      | false =>
        have hp2 : publicS (par.drop (i + 1)) (xs.drop k) (ys.drop k) = true := by
          unfold publicS at hpub
          rw [if_neg (by rw [hbuf]; decide)] at hpub
          exact hpub
        have HP2 := Lib.hid hp2
        clear hp2 hpub
        go_wp2_with fail
        go_roundw
        case rel => exact ⟨i + 1, k, by omega, by omega, by go_num, rfl, HP2.out, hb⟩
        case measure => simp [intOf]; omega
      | true =>
        unfold publicS at hpub
        rw [if_pos hbuf] at hpub
        have hka : k < xs.length := by
          rcases Nat.lt_or_ge k xs.length with h | h
          · exact h
          · rw [List.drop_eq_nil_of_le h] at hpub; cases hpub
        have hkb : k < ys.length := by
          rcases Nat.lt_or_ge k ys.length with h | h
          · exact h
          · rw [List.drop_eq_nil_of_le h, List.drop_eq_getElem_cons hka] at hpub; cases hpub
        rw [List.drop_eq_getElem_cons hka, List.drop_eq_getElem_cons hkb] at hpub
        simp only [Bool.and_eq_true, Bool.or_eq_true, decide_eq_true_eq] at hpub
        obtain ⟨⟨hor, hsz⟩, hp2⟩ := hpub
        obtain ⟨ab, ao, rfl, a0⟩ := kStr_at' (hA.mono hb) k hka
        obtain ⟨cb, co, rfl, d0⟩ := kStr_at' (hC.mono hb) k hkb
        obtain ⟨x, hx'⟩ : ∃ x, x = xs[k] := ⟨_, rfl⟩
        obtain ⟨y, hy'⟩ : ∃ y, y = ys[k] := ⟨_, rfl⟩
        rw [← hx'] at a0 hor hsz
        rw [← hy'] at d0 hor hsz
        have HP2 := Lib.hid hp2
        have HSZ := Lib.hid hsz
        clear hp2 hx' hy'
        have ts : ((x.size : Int) != (y.size : Int)) = false := by rw [hsz]; simp
        have ts2 : ((x.size : Int) == (y.size : Int)) = true := by rw [hsz]; exact beq_self_eq_true _
        clear hsz
        have tka : decide (xs.length ≤ k) = false := decide_eq_false (by omega)
        have tkb : decide (ys.length ≤ k) = false := decide_eq_false (by omega)
        have tka2 : decide ((xs.length : Int) ≤ (k : Int)) = false := decide_eq_false (by omega)
        have tkb2 : decide ((ys.length : Int) ≤ (k : Int)) = false := decide_eq_false (by omega)
        cases hsec : h.sec with
        | true =>
          clear hor
          go_wp2_with fail
          go_quiet (fail)
          go_wp2_with fail
          go_roundw
          case rel => exact ⟨i + 1, k + 1, by omega, by omega, by go_num, by go_num, HP2.out, bt hb (drewN_below _ _)⟩
          case measure => simp [intOf]; omega
        | false =>
          have hxy : x = y := by
            rcases hor with h' | h'
            · rw [hsec] at h'; cases h'
            · exact h'
          subst hxy
          clear hor
          go_wp2_with fail
          go_quiet (fail)
          go_wp2_with fail
          go_roundw
          case rel => exact ⟨i + 1, k + 1, by omega, by omega, by go_num, by go_num, HP2.out, bt hb (drewN_below _ _)⟩
          case measure => simp [intOf]; omega
    · clear hpub
      go_wp2_with fail
      go_ret
      exact ⟨rfl, hb⟩
end Go.Proofs.Ytoabiignjkcdmaa
