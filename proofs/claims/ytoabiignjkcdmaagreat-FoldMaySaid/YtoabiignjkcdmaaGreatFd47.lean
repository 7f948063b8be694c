/-
  Lemmas (texts FoldK4), each proved without a condition beyond its own hypotheses.
-/
import Derived.Test.YtoabiignjkcdmaaGreatFd41
import Derived.Test.YtoabiignjkcdmaaGreatFd38
namespace Go.Proofs.YtoabiignjkcdmaaGreat
open Go.RowKit Go.Lib Go.Shelf Go.Maps Go.Proofs.YtoabiignjkcdmaaGreatW.PrintLast
set_option linter.unusedVariables false
set_option linter.unusedSimpArgs false

theorem wks_drop (l : List SOp) (i : Nat) (h : i < l.length) : wks (l.drop i) = if worksB l[i].k = true then (l[i].k, l[i].fn) :: wks (l.drop (i + 1)) else wks (l.drop (i + 1)) := by
  rw [List.drop_eq_getElem_cons h, wks_cons]
set_option maxRecDepth 100000 in
set_option maxHeartbeats 8000000 in
theorem kept_c (a b : SBlock) (A B : Option Addr) (ca cb : Nat) (w : World) (hA : kOp.Row w A a.ops) (hB : kOp.Row w B b.ops) (hla : a.ops.length ≤ 100000) (hlb : b.ops.length ≤ 100000) (hw : wks a.ops = wks b.ops) (he : a.e = b.e) (hg : a.go = b.go) (hl : a.els = b.els) :
    Calls Tryz.prog 16 #[.agg (blkC5 (.slice A a.ops.length ca) a.e a.a a.go a.els), .agg (blkC5 (.slice B b.ops.length cb) b.e b.a b.go b.els)] w fun e w' => e = .returned (.bool true) ∧ Below w.heap.size w w' := by
  rw [he, hg, hl]
  clear he hg hl
  obtain ⟨w1, hw1⟩ : ∃ w1, w1 = (w.alloc (.cells (blkC5 (.slice A a.ops.length ca) b.e a.a b.go b.els) 38)).alloc (.cells (blkC5 (.slice B b.ops.length cb) b.e b.a b.go b.els) 38) := ⟨_, rfl⟩
  have hb1 : Below w.heap.size w w1 := by rw [hw1]; exact ((Below.refl _ _).alloc (Nat.le_refl _) _).alloc (by simp) _
  have X1 : Bk w1 w.heap.size (blkC5 (.slice A a.ops.length ca) b.e a.a b.go b.els) 38 := by rw [hw1]; exact (Bk.new w _ _).alloc _
  have Y1 : Bk w1 (w.heap.size + 1) (blkC5 (.slice B b.ops.length cb) b.e b.a b.go b.els) 38 := by rw [hw1]; exact Bk.newAt _ _ (by simp)
  have hA1 := hA.mono hb1
  have hB1 := hB.mono hb1
  go_enter Tryz.func16, Tryz.ntmps16
  go_upto_region 3 with (fail)
  rw [← hw1]
  clear hw1
  go_loopw [5, 6] (fun s5 s6 W => ∃ i k : Nat, s5 = .int .i64 k ∧ s6 = .int .i64 i ∧ i ≤ a.ops.length ∧ k ≤ b.ops.length ∧ wks (a.ops.drop i) = wks (b.ops.drop k) ∧ Below w1.heap.size w1 W) (fun s5 s6 _ => a.ops.length - (intOf s6).toNat)
  case atStart => exact ⟨0, 0, rfl, rfl, Nat.zero_le _, Nat.zero_le _, by simpa using hw, Below.refl _ _⟩
  case round =>
    obtain ⟨i, k, rfl, rfl, hi, hk, hwk, hW⟩ := hrel
    have CX := (X1.mono hW).cell
    have CY := (Y1.mono hW).cell
    by_cases hj : i < a.ops.length
    · obtain ⟨ab, ao, rfl, g0, g1, g2, g3, g4, g5⟩ := kOp_at (hA1.mono hW) i hj
      rw [wks_drop a.ops i hj] at hwk
      obtain ⟨o, ho⟩ : ∃ o, a.ops[i] = o := ⟨_, rfl⟩
      rw [ho] at g0 g1 g2 g3 g4 g5 hwk
      have HO := Lib.hid ho
      clear ho
      have HWK := Lib.hid hwk
      clear hwk
      cases hwo : worksB o.k with
      | false =>
        rw [hwo] at HWK
        go_wp2_with (go_at_call 36; refine (rworks_c o.k o.fn o.d o.a o.b o.imm _).mono ?_; rintro e W3 ⟨rfl, hW3⟩; rw [hwo])
        go_roundw
        case rel => exact ⟨i + 1, k, rfl, by go_num, by omega, hk, HWK.out, bt hW hW3⟩
        case measure => simp [intOf]; omega
      | true =>
        rw [hwo] at HWK
        go_upto_region 6 with (go_at_call 36; refine (rworks_c o.k o.fn o.d o.a o.b o.imm _).mono ?_; rintro e W3 ⟨rfl, hW3⟩; rw [hwo])
        have hW3' := bt hW hW3
        clear CX CY g0 g1 g2 g3 g4 g5 hW hW3
        go_loopw [5] (fun s W => ∃ kk : Nat, s = .int .i64 kk ∧ kk ≤ b.ops.length ∧ wks (b.ops.drop kk) = wks (b.ops.drop k) ∧ Below w1.heap.size w1 W) (fun s _ => b.ops.length - (intOf s).toNat)
        case atStart => exact ⟨k, rfl, hk, rfl, hW3'⟩
        case round =>
          clear hW3'
          obtain ⟨kk, rfl, hkk, hwk2, hW⟩ := hrel
          have CX := (X1.mono hW).cell
          have CY := (Y1.mono hW).cell
          rw [← HWK.out] at hwk2
          have hkl : kk < b.ops.length := by
            refine Nat.lt_of_le_of_ne hkk fun e => ?_
            rw [e, List.drop_length] at hwk2
            cases hwk2
          rw [wks_drop b.ops kk hkl] at hwk2
          obtain ⟨bb, bo, rfl, f0, f1, f2, f3, f4, f5⟩ := kOp_at (hB1.mono hW) kk hkl
          obtain ⟨o2, ho2⟩ : ∃ o2, b.ops[kk] = o2 := ⟨_, rfl⟩
          rw [ho2] at f0 f1 f2 f3 f4 f5 hwk2
          clear ho2
          cases hwo2 : worksB o2.k with
          | false =>
            rw [hwo2] at hwk2
            have HW2 := Lib.hid hwk2
            clear hwk2
            go_wp2_with (go_at_call 36; refine (rworks_c o2.k o2.fn o2.d o2.a o2.b o2.imm _).mono ?_; rintro e W3 ⟨rfl, hW3⟩; rw [hwo2])
            go_roundw
            case rel => exact ⟨kk + 1, by go_num, by omega, by rw [← HWK.out]; exact HW2.out, bt hW hW3⟩
            case measure => simp [intOf]; omega
          | true =>
            rw [hwo2, if_pos rfl] at hwk2
            injection hwk2 with h1 h2
            injection h1 with h3 h4
            obtain ⟨k2, fn2, d2, a2, b2, imm2⟩ := o2
            simp only at h3 h4 f0 f1 f2 f3 f4 f5 hwo2
            subst h3
            subst h4
            have HW2 := Lib.hid h2
            clear h2
            go_upto_region 8 with (go_at_call 36; refine (rworks_c _ _ _ _ _ _ _).mono ?_; rintro e W3 ⟨rfl, hW3⟩; rw [hwo2])
            have hcmp : ((kk : Int) == (b.ops.length : Int)) = false := by simp; omega
            have hW4 := bt hW hW3
            obtain ⟨ab', ao', e', G0, G1, -⟩ := kOp_at (hA1.mono hW4) i hj
            cases e'
            rw [HO.out] at G0 G1
            have hSX : ∀ V, Below W3.heap.size W3 V → V.cell? ⟨w.heap.size, 0, none⟩ = some (.slice (some ⟨ab, ao, none⟩) a.ops.length ca) ∧ V.cell? ⟨w.heap.size + 1, 0, none⟩ = some (.slice (some ⟨bb, bo, none⟩) b.ops.length cb) ∧ V.cell? ⟨ab, ao + i * 6, none⟩ = some (.int .u8 o.k) ∧ V.cell? ⟨ab, ao + i * 6 + 1, none⟩ = some (.int .u8 o.fn) ∧ V.cell? ⟨bb, bo + kk * 6, none⟩ = some (.int .u8 o.k) ∧ V.cell? ⟨bb, bo + kk * 6 + 1, none⟩ = some (.int .u8 o.fn) := fun V hV => ⟨(X1.mono (bt hW4 hV)).cell 0, (Y1.mono (bt hW4 hV)).cell 0, cm G0 hV, cm G1 hV, cm (cm f0 hW3) hV, cm (cm f1 hW3) hV⟩
            have HSX := Lib.hid hSX
            clear hSX CX CY f0 f1 f2 f3 f4 f5 G0 G1
            refine startM_ (n := 35) (S := fun w' => w'.cell? ⟨w.heap.size, 0, none⟩ = some (.slice (some ⟨ab, ao, none⟩) a.ops.length ca) ∧ w'.cell? ⟨w.heap.size + 1, 0, none⟩ = some (.slice (some ⟨bb, bo, none⟩) b.ops.length cb) ∧ w'.cell? ⟨ab, ao + i * 6, none⟩ = some (.int .u8 o.k) ∧ w'.cell? ⟨ab, ao + i * 6 + 1, none⟩ = some (.int .u8 o.fn) ∧ w'.cell? ⟨bb, bo + kk * 6, none⟩ = some (.int .u8 o.k) ∧ w'.cell? ⟨bb, bo + kk * 6 + 1, none⟩ = some (.int .u8 o.fn)) (ds := []) (bz 35 0) (by kernel_rfl) rfl rfl (HSX.out _ (Below.refl _ _).drew) (fun hHeld => ?_)
            refine pure_ (i := 0) (N := (some 37)) (v := ?_) (a' := ?_) (bz 35 1) rfl rfl (by kernel_rfl) (fun _ _ _ h => h) (Or.inl ⟨by rfl, ?_⟩) ?_ ?_
            rotate_left
            · intro w'
              go_simp
              with_reducible rfl
            rotate_left
            · simp only [Act.put, sa_, sb_, sc_]
              rfl
            refine pure_ (i := 1) (N := (some 38)) (v := ?_) (a' := ?_) (bz 35 3) rfl rfl (by kernel_rfl) (fun _ _ _ h => h) (Or.inl ⟨by rfl, ?_⟩) ?_ ?_
            rotate_left
            · intro w'
              go_simp
              with_reducible rfl
            rotate_left
            · simp only [Act.put, sa_, sb_, sc_]
              rfl
            refine take_ (i := 2) (N := (some 39)) (v := ?_) (a' := ?_) (bz 35 7) rfl rfl (by kernel_rfl) (fun _ _ _ h => h) (Or.inl ⟨by rfl, ?_⟩) hHeld ?_ ?_
            rotate_left
            · rintro w' ⟨s0, s1, s2, s3, s4, s5⟩
              go_simp
              with_reducible rfl
            rotate_left
            · simp only [Act.put, sa_, sb_, sc_]
              rfl
            refine pure_ (i := 3) (N := (some 40)) (v := ?_) (a' := ?_) (bz 35 15) rfl rfl (by kernel_rfl) (fun _ _ _ h => h) (Or.inl ⟨by rfl, ?_⟩) ?_ ?_
            rotate_left
            · intro w'
              go_simp
              with_reducible rfl
            rotate_left
            · simp only [Act.put, sa_, sb_, sc_]
              rfl
            refine pure_ (i := 4) (N := (some 41)) (v := ?_) (a' := ?_) (bz 35 31) rfl rfl (by kernel_rfl) (fun _ _ _ h => h) (Or.inl ⟨by rfl, ?_⟩) ?_ ?_
            rotate_left
            · intro w'
              go_simp
              with_reducible rfl
            rotate_left
            · simp only [Act.put, sa_, sb_, sc_]
              rfl
            refine pure_ (i := 5) (N := (some 42)) (v := ?_) (a' := ?_) (bz 35 63) rfl rfl (by kernel_rfl) (fun _ _ _ h => h) (Or.inl ⟨by rfl, ?_⟩) ?_ ?_
            rotate_left
            · intro w'
              go_simp
              with_reducible rfl
            rotate_left
            · simp only [Act.put, sa_, sb_, sc_]
              rfl
            refine pure_ (i := 6) (N := (some 43)) (v := ?_) (a' := ?_) (bz 35 127) rfl rfl (by kernel_rfl) (fun _ _ _ h => h) (Or.inl ⟨by rfl, ?_⟩) ?_ ?_
            rotate_left
            · intro w'
              go_simp
              with_reducible rfl
            rotate_left
            · simp only [Act.put, sa_, sb_, sc_]
              rfl
            refine pure_ (i := 8) (N := (some 45)) (v := ?_) (a' := ?_) (bz 35 383) rfl rfl (by kernel_rfl) (fun _ _ _ h => h) (Or.inl ⟨by rfl, ?_⟩) ?_ ?_
            rotate_left
            · intro w'
              go_simp
              with_reducible rfl
            rotate_left
            · simp only [Act.put, sa_, sb_, sc_]
              rfl
            refine pure_ (i := 12) (N := (some 49)) (v := ?_) (a' := ?_) (bz 35 4479) rfl rfl (by kernel_rfl) (fun _ _ _ h => h) (Or.inl ⟨by rfl, ?_⟩) ?_ ?_
            rotate_left
            · intro w'
              go_simp
              with_reducible rfl
            rotate_left
            · simp only [Act.put, sa_, sb_, sc_]
              rfl
            refine pure_ (i := 14) (N := (some 51)) (v := ?_) (a' := ?_) (bz 35 20863) rfl rfl (by kernel_rfl) (fun _ _ _ h => h) (Or.inl ⟨by rfl, ?_⟩) ?_ ?_
            rotate_left
            · intro w'
              go_simp
              with_reducible rfl
            rotate_left
            · simp only [Act.put, sa_, sb_, sc_]
              rfl
            refine take_ (i := 7) (N := (some 44)) (v := ?_) (a' := ?_) (bz 35 20991) rfl rfl (by kernel_rfl) (fun _ _ _ h => h) (Or.inl ⟨by rfl, ?_⟩) hHeld ?_ ?_
            rotate_left
            · rintro w' ⟨s0, s1, s2, s3, s4, s5⟩
              go_simp
              with_reducible rfl
            rotate_left
            · simp only [Act.put, sa_, sb_, sc_]
              rfl
            refine pure_ (i := 9) (N := (some 46)) (v := ?_) (a' := ?_) (bz 35 21503) rfl rfl (by kernel_rfl) (fun _ _ _ h => h) (Or.inl ⟨by rfl, ?_⟩) ?_ ?_
            rotate_left
            · intro w'
              go_simp
              with_reducible rfl
            rotate_left
            · simp only [Act.put, sa_, sb_, sc_]
              rfl
            refine pure_ (i := 10) (N := (some 47)) (v := ?_) (a' := ?_) (bz 35 22527) rfl rfl (by kernel_rfl) (fun _ _ _ h => h) (Or.inl ⟨by rfl, ?_⟩) ?_ ?_
            rotate_left
            · intro w'
              go_simp
              with_reducible rfl
            rotate_left
            · simp only [Act.put, sa_, sb_, sc_]
              rfl
            refine take_ (i := 11) (N := (some 48)) (v := ?_) (a' := ?_) (bz 35 24575) rfl rfl (by kernel_rfl) (fun _ _ _ h => h) (Or.inl ⟨by rfl, ?_⟩) hHeld ?_ ?_
            rotate_left
            · rintro w' ⟨s0, s1, s2, s3, s4, s5⟩
              go_simp
              with_reducible rfl
            rotate_left
            · simp only [Act.put, sa_, sb_, sc_]
              rfl
            refine take_ (i := 13) (N := (some 50)) (v := ?_) (a' := ?_) (bz 35 32767) rfl rfl (by kernel_rfl) (fun _ _ _ h => h) (Or.inl ⟨by rfl, ?_⟩) hHeld ?_ ?_
            rotate_left
            · rintro w' ⟨s0, s1, s2, s3, s4, s5⟩
              go_simp
              with_reducible rfl
            rotate_left
            · simp only [Act.put, sa_, sb_, sc_]
              rfl
            refine pure_ (i := 15) (N := (some 52)) (v := ?_) (a' := ?_) (bz 35 65535) rfl rfl (by kernel_rfl) (fun _ _ _ h => h) (Or.inl ⟨by rfl, ?_⟩) ?_ ?_
            rotate_left
            · intro w'
              go_simp
              with_reducible rfl
            rotate_left
            · simp only [Act.put, sa_, sb_, sc_]
              rfl
            refine pure_ (i := 16) (N := (some 53)) (v := ?_) (a' := ?_) (bz 35 131071) rfl rfl (by kernel_rfl) (fun _ _ _ h => h) (Or.inl ⟨by rfl, ?_⟩) ?_ ?_
            rotate_left
            · intro w'
              go_simp
              with_reducible rfl
            rotate_left
            · simp only [Act.put, sa_, sb_, sc_]
              rfl
            refine take_ (i := 17) (N := (some 54)) (v := ?_) (a' := ?_) (bz 35 262143) rfl rfl (by kernel_rfl) (fun _ _ _ h => h) (Or.inl ⟨by rfl, ?_⟩) hHeld ?_ ?_
            rotate_left
            · rintro w' ⟨s0, s1, s2, s3, s4, s5⟩
              go_simp
              with_reducible rfl
            rotate_left
            · simp only [Act.put, sa_, sb_, sc_]
              rfl
            refine pure_ (i := 18) (N := (some 55)) (v := ?_) (a' := ?_) (bz 35 524287) rfl rfl (by kernel_rfl) (fun _ _ _ h => h) (Or.inl ⟨by rfl, ?_⟩) ?_ ?_
            rotate_left
            · intro w'
              go_simp
              with_reducible rfl
            rotate_left
            · simp only [Act.put, sa_, sb_, sc_]
              rfl
            refine pure_ (i := 19) (N := (some 56)) (v := ?_) (a' := ?_) (bz 35 1048575) rfl rfl (by kernel_rfl) (fun _ _ _ h => h) (Or.inl ⟨by rfl, ?_⟩) ?_ ?_
            rotate_left
            · intro w'
              go_simp
              with_reducible rfl
            rotate_left
            · simp only [Act.put, sa_, sb_, sc_]
              rfl
            refine pure_ (i := 20) (N := (some 57)) (v := ?_) (a' := ?_) (bz 35 2097151) rfl rfl (by kernel_rfl) (fun _ _ _ h => h) (Or.inl ⟨by rfl, ?_⟩) ?_ ?_
            rotate_left
            · intro w'
              go_simp
              with_reducible rfl
            rotate_left
            · simp only [Act.put, sa_, sb_, sc_]
              rfl
            refine pure_ (i := 21) (N := (some 58)) (v := ?_) (a' := ?_) (bz 35 4194303) rfl rfl (by kernel_rfl) (fun _ _ _ h => h) (Or.inl ⟨by rfl, ?_⟩) ?_ ?_
            rotate_left
            · intro w'
              go_simp
              with_reducible rfl
            rotate_left
            · simp only [Act.put, sa_, sb_, sc_]
              rfl
            refine pure_ (i := 23) (N := (some 60)) (v := ?_) (a' := ?_) (bz 35 12582911) rfl rfl (by kernel_rfl) (fun _ _ _ h => h) (Or.inl ⟨by rfl, ?_⟩) ?_ ?_
            rotate_left
            · intro w'
              go_simp
              with_reducible rfl
            rotate_left
            · simp only [Act.put, sa_, sb_, sc_]
              rfl
            refine pure_ (i := 27) (N := (some 64)) (v := ?_) (a' := ?_) (bz 35 146800639) rfl rfl (by kernel_rfl) (fun _ _ _ h => h) (Or.inl ⟨by rfl, ?_⟩) ?_ ?_
            rotate_left
            · intro w'
              go_simp
              with_reducible rfl
            rotate_left
            · simp only [Act.put, sa_, sb_, sc_]
              rfl
            refine pure_ (i := 29) (N := (some 66)) (v := ?_) (a' := ?_) (bz 35 683671551) rfl rfl (by kernel_rfl) (fun _ _ _ h => h) (Or.inl ⟨by rfl, ?_⟩) ?_ ?_
            rotate_left
            · intro w'
              go_simp
              with_reducible rfl
            rotate_left
            · simp only [Act.put, sa_, sb_, sc_]
              rfl
            refine take_ (i := 22) (N := (some 59)) (v := ?_) (a' := ?_) (bz 35 687865855) rfl rfl (by kernel_rfl) (fun _ _ _ h => h) (Or.inl ⟨by rfl, ?_⟩) hHeld ?_ ?_
            rotate_left
            · rintro w' ⟨s0, s1, s2, s3, s4, s5⟩
              go_simp
              with_reducible rfl
            rotate_left
            · simp only [Act.put, sa_, sb_, sc_]
              rfl
            refine pure_ (i := 24) (N := (some 61)) (v := ?_) (a' := ?_) (bz 35 704643071) rfl rfl (by kernel_rfl) (fun _ _ _ h => h) (Or.inl ⟨by rfl, ?_⟩) ?_ ?_
            rotate_left
            · intro w'
              go_simp
              with_reducible rfl
            rotate_left
            · simp only [Act.put, sa_, sb_, sc_]
              rfl
            refine pure_ (i := 25) (N := (some 62)) (v := ?_) (a' := ?_) (bz 35 738197503) rfl rfl (by kernel_rfl) (fun _ _ _ h => h) (Or.inl ⟨by rfl, ?_⟩) ?_ ?_
            rotate_left
            · intro w'
              go_simp
              with_reducible rfl
            rotate_left
            · simp only [Act.put, sa_, sb_, sc_]
              rfl
            refine take_ (i := 26) (N := (some 63)) (v := ?_) (a' := ?_) (bz 35 805306367) rfl rfl (by kernel_rfl) (fun _ _ _ h => h) (Or.inl ⟨by rfl, ?_⟩) hHeld ?_ ?_
            rotate_left
            · rintro w' ⟨s0, s1, s2, s3, s4, s5⟩
              go_simp
              with_reducible rfl
            rotate_left
            · simp only [Act.put, sa_, sb_, sc_]
              rfl
            refine take_ (i := 28) (N := (some 65)) (v := ?_) (a' := ?_) (bz 35 1073741823) rfl rfl (by kernel_rfl) (fun _ _ _ h => h) (Or.inl ⟨by rfl, ?_⟩) hHeld ?_ ?_
            rotate_left
            · rintro w' ⟨s0, s1, s2, s3, s4, s5⟩
              go_simp
              with_reducible rfl
            rotate_left
            · simp only [Act.put, sa_, sb_, sc_]
              rfl
            refine pure_ (i := 30) (N := (some 67)) (v := ?_) (a' := ?_) (bz 35 2147483647) rfl rfl (by kernel_rfl) (fun _ _ _ h => h) (Or.inl ⟨by rfl, ?_⟩) ?_ ?_
            rotate_left
            · intro w'
              go_simp
              with_reducible rfl
            rotate_left
            · simp only [Act.put, sa_, sb_, sc_]
              rfl
            refine pure_ (i := 31) (N := (some 68)) (v := ?_) (a' := ?_) (bz 35 4294967295) rfl rfl (by kernel_rfl) (fun _ _ _ h => h) (Or.inl ⟨by rfl, ?_⟩) ?_ ?_
            rotate_left
            · intro w'
              go_simp
              with_reducible rfl
            rotate_left
            · simp only [Act.put, sa_, sb_, sc_]
              rfl
            refine take_ (i := 32) (N := (some 69)) (v := ?_) (a' := ?_) (bz 35 8589934591) rfl rfl (by kernel_rfl) (fun _ _ _ h => h) (Or.inl ⟨by rfl, ?_⟩) hHeld ?_ ?_
            rotate_left
            · rintro w' ⟨s0, s1, s2, s3, s4, s5⟩
              go_simp
              with_reducible rfl
            rotate_left
            · simp only [Act.put, sa_, sb_, sc_]
              rfl
            refine pure_ (i := 33) (N := (some 70)) (v := ?_) (a' := ?_) (bz 35 17179869183) rfl rfl (by kernel_rfl) (fun _ _ _ h => h) (Or.inl ⟨by rfl, ?_⟩) ?_ ?_
            rotate_left
            · intro w'
              go_simp
              with_reducible rfl
            rotate_left
            · simp only [Act.put, sa_, sb_, sc_]
              rfl
            refine pure_ (i := 34) (N := (some 71)) (v := ?_) (a' := ?_) (bz 35 34359738367) rfl rfl (by kernel_rfl) (fun _ _ _ h => h) (Or.inl ⟨by rfl, ?_⟩) ?_ ?_
            rotate_left
            · intro w'
              go_simp
              with_reducible rfl
            rotate_left
            · simp only [Act.put, sa_, sb_, sc_]
              rfl
            refine done_ (by kernel_rfl) ?_
            dsimp only [onlyN]
            go_wp2_with fail
            go_roundw
            case rel => exact ⟨i + 1, kk + 1, by go_num, by go_num, by omega, by omega, HW2.out.symm, hW4.drew⟩
            case measure => simp [intOf]; omega
    · have hie : i = a.ops.length := by omega
      rw [hie, List.drop_length] at hwk
      have HWK := Lib.hid hwk
      clear hwk hie
      go_upto_region 11 with (fail)
      clear CX CY
      go_loopw [5] (fun s W => ∃ kk : Nat, s = .int .i64 kk ∧ kk ≤ b.ops.length ∧ wks (b.ops.drop kk) = wks (b.ops.drop k) ∧ Below w1.heap.size w1 W) (fun s _ => b.ops.length - (intOf s).toNat)
      case atStart => exact ⟨k, rfl, hk, rfl, hW⟩
      case round =>
        clear hW
        obtain ⟨kk, rfl, hkk, hwk2, hW⟩ := hrel
        have CX := (X1.mono hW).cell
        have CY := (Y1.mono hW).cell
        rw [← HWK.out] at hwk2
        by_cases hkl : kk < b.ops.length
        · rw [wks_drop b.ops kk hkl] at hwk2
          obtain ⟨bb, bo, rfl, f0, f1, f2, f3, f4, f5⟩ := kOp_at (hB1.mono hW) kk hkl
          obtain ⟨o2, ho2⟩ : ∃ o2, b.ops[kk] = o2 := ⟨_, rfl⟩
          rw [ho2] at f0 f1 f2 f3 f4 f5 hwk2
          clear ho2
          cases hwo2 : worksB o2.k with
          | false =>
            rw [hwo2] at hwk2
            have HW2 := Lib.hid hwk2
            clear hwk2
            go_wp2_with (go_at_call 36; refine (rworks_c o2.k o2.fn o2.d o2.a o2.b o2.imm _).mono ?_; rintro e W3 ⟨rfl, hW3⟩; rw [hwo2])
            go_roundw
            case rel => exact ⟨kk + 1, by go_num, by omega, by rw [← HWK.out]; exact HW2.out, bt hW hW3⟩
            case measure => simp [intOf]; omega
          | true =>
            rw [hwo2, if_pos rfl] at hwk2
            cases hwk2
        · have hke : kk = b.ops.length := by omega
          subst hke
          clear hwk2
          go_wp2_with fail
          go_ret
          first | exact ⟨rfl, bt hb1 hW⟩ | exact ⟨rfl, bt hb1 hW.drew⟩
end Go.Proofs.YtoabiignjkcdmaaGreat
