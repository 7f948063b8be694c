/-
  Lemmas (texts FoldK2), each proved without a condition beyond its own hypotheses.
-/
import Derived.Test.YtoabiignjkcdmaaGreatFd41
import Derived.Test.YtoabiignjkcdmaaGreatFd38
namespace Go.Proofs.YtoabiignjkcdmaaGreat
open Go.RowKit Go.Lib Go.Shelf Go.Maps Go.Proofs.YtoabiignjkcdmaaGreatW.PrintLast
set_option linter.unusedVariables false
set_option linter.unusedSimpArgs false

theorem known_step (l : List SOp) (j : Nat) (h : j < l.length) (v : Int) : knownP (l.take (j + 1)).reverse v = if setsD v l[j] = true then l[j].k == 1 else knownP (l.take j).reverse v := by
  rw [List.take_succ_eq_append_getElem h, List.reverse_append]
  rfl
set_option maxHeartbeats 2000000 in
theorem known_c (b : SBlock) (O : Option Addr) (c k : Nat) (v : Int) (w : World) (hO : kOp.Row w O b.ops) (hlen : b.ops.length ≤ 100000) (hops : ∀ o ∈ b.ops, 1 ≤ o.k ∧ o.k ≤ 13) (hk : k ≤ b.ops.length) :
    Calls Tryz.prog 37 #[.agg (blkC5 (.slice O b.ops.length c) b.e b.a b.go b.els), .int .i64 k, .int .i64 v] w fun e w' => e = .returned (.bool (knownP (b.ops.take k).reverse v)) ∧ Below w.heap.size w w' := by
  have B1 := Bk.new w (blkC5 (.slice O b.ops.length c) b.e b.a b.go b.els) 38
  have hb1 : Below w.heap.size w (w.alloc (.cells (blkC5 (.slice O b.ops.length c) b.e b.a b.go b.els) 38)) := (Below.refl _ _).alloc (Nat.le_refl _) _
  go_enter Tryz.func37, Tryz.ntmps37
  go_upto_region 2 with (fail)
  generalize w.alloc (.cells (blkC5 (.slice O b.ops.length c) b.e b.a b.go b.els) 38) = w1 at B1 hb1 ⊢
  have hO1 := hO.mono hb1
  go_loopw [7] (fun s W => ∃ i : Nat, s = .int .i64 ((i : Int) - 1) ∧ i ≤ k ∧ knownP (b.ops.take i).reverse v = knownP (b.ops.take k).reverse v ∧ Below w1.heap.size w1 W) (fun s _ => (intOf s + 1).toNat)
  case atStart => exact ⟨k, by go_num, Nat.le_refl _, rfl, Below.refl _ _⟩
  case round =>
    obtain ⟨i, rfl, hi, hkn, hW⟩ := hrel
    cases i with
    | zero =>
      have hkn0 : knownP (b.ops.take k).reverse v = false := by rw [← hkn]; rfl
      go_wp2_with fail
      go_ret
      exact ⟨by show Ending.returned (.bool false) = _; rw [hkn0], bt hb1 hW⟩
    | succ j =>
      have e1 : (((j + 1 : Nat) : Int) - 1) = (j : Int) := by omega
      rw [e1]
      have hj : j < b.ops.length := by omega
      obtain ⟨bb, bo, rfl, g0, g1, g2, g3, g4, g5⟩ := kOp_at (hO1.mono hW) j hj
      have hok := hops _ (List.getElem_mem hj)
      rw [known_step b.ops j hj v] at hkn
      obtain ⟨o, ho⟩ : ∃ o, b.ops[j] = o := ⟨_, rfl⟩
      rw [ho] at g0 g1 g2 g3 g4 g5 hok hkn
      have CB := (B1.mono hW).cell
      have HKN := Lib.hid hkn
      clear hkn
      unfold setsD at HKN
      cases hs : setsB o.k with
      | false =>
        rw [hs] at HKN
        go_wp2_with (go_at_call 63; refine (rsets_c o.k o.fn o.d o.a o.b o.imm hok _).mono ?_; rintro e W3 ⟨rfl, hW3⟩; rw [hs]; have CB3 := (B1.mono (bt hW hW3)).cell)
        go_roundw
        case rel => exact ⟨j, by go_num, by omega, HKN.out, bt hW hW3⟩
        case measure => simp [intOf]
      | true =>
        rw [hs] at HKN
        by_cases hd : o.d = v
        · subst hd
          go_wp2_with (go_at_call 63; refine (rsets_c o.k o.fn o.d o.a o.b o.imm hok _).mono ?_; rintro e W3 ⟨rfl, hW3⟩; rw [hs]; have CB3 := (B1.mono (bt hW hW3)).cell; have d0 := cm g0 hW3; have d2 := cm g2 hW3)
          go_ret
          refine ⟨?_, bt hb1 (bt hW hW3)⟩
          show Ending.returned (.bool (o.k == 1)) = _
          have := HKN.out
          simp at this
          rw [← this]
        · go_wp2_with (go_at_call 63; refine (rsets_c o.k o.fn o.d o.a o.b o.imm hok _).mono ?_; rintro e W3 ⟨rfl, hW3⟩; rw [hs]; have CB3 := (B1.mono (bt hW hW3)).cell; have d0 := cm g0 hW3; have d2 := cm g2 hW3)
          go_roundw
          case rel => exact ⟨j, by go_num, by omega, by have := HKN.out; simp [hd] at this; exact this, bt hW hW3⟩
          case measure => simp [intOf]
theorem again_step (l : List SOp) (j : Nat) (h : j < l.length) (v : Int) : againP (l.drop j) v = if asksB l[j] v = true then false else if setsD v l[j] = true then true else againP (l.drop (j + 1)) v := by
  rw [List.drop_eq_getElem_cons h]
  rfl
set_option maxRecDepth 100000 in
set_option maxHeartbeats 4000000 in
theorem idle_c (b : SBlock) (O : Option Addr) (c k : Nat) (w : World) (hO : kOp.Row w O b.ops) (hlen : b.ops.length ≤ 100000) (hops : ∀ o ∈ b.ops, 1 ≤ o.k ∧ o.k ≤ 13) (hk : k < b.ops.length) :
    Calls Tryz.prog 38 #[.agg (blkC5 (.slice O b.ops.length c) b.e b.a b.go b.els), .int .i64 k] w fun e w' => e = .returned (.bool (idleP b.ops[k] (b.ops.drop (k + 1)))) ∧ Below w.heap.size w w' := by
  have B1 := Bk.new w (blkC5 (.slice O b.ops.length c) b.e b.a b.go b.els) 38
  have hb1 : Below w.heap.size w (w.alloc (.cells (blkC5 (.slice O b.ops.length c) b.e b.a b.go b.els) 38)) := (Below.refl _ _).alloc (Nat.le_refl _) _
  obtain ⟨bb, bo, rfl, g0, g1, g2, g3, g4, g5⟩ := kOp_at (hO.mono hb1) k hk
  obtain ⟨x, hx⟩ : ∃ x, b.ops[k] = x := ⟨_, rfl⟩
  rw [hx] at g0 g1 g2 g3 g4 g5 ⊢
  clear hx
  go_enter Tryz.func38, Tryz.ntmps38
  obtain ⟨w1, hw1⟩ : ∃ w1, w.alloc (.cells (blkC5 (.slice (some ⟨bb, bo, none⟩) b.ops.length c) b.e b.a b.go b.els) 38) = w1 := ⟨_, rfl⟩
  rw [hw1] at B1 hb1 g0 g1 g2 g3 g4 g5
  have CB := B1.cell
  go_upto_region 1 with (fail)
  clear hw1
  have X2 := Bk.new w1 #[.int .u8 x.k, .int .u8 x.fn, .int .i64 x.d, .int .i64 x.a, .int .i64 x.b, .int .u64 x.imm] 54
  have hb2 : Below w1.heap.size w1 (w1.alloc (.cells #[.int .u8 x.k, .int .u8 x.fn, .int .i64 x.d, .int .i64 x.a, .int .i64 x.b, .int .u64 x.imm] 54)) := (Below.refl _ _).alloc (Nat.le_refl _) _
  go_upto_region 2 with (fail)
  generalize w1.alloc (.cells #[.int .u8 x.k, .int .u8 x.fn, .int .i64 x.d, .int .i64 x.a, .int .i64 x.b, .int .u64 x.imm] 54) = w2 at X2 hb2 ⊢
  have CX2 := X2.cell
  have B2 := B1.mono hb2
  have hbw2 := bt hb1 hb2
  obtain ⟨q2, hq2⟩ : ∃ q2, q2 = w1.heap.size := ⟨_, rfl⟩
  rw [← hq2] at X2 CX2 ⊢
  clear hq2 CB g0 g1 g2 g3 g4 g5 hb2
  cases hwk : worksB x.k with
  | true =>
    go_wp2_with (go_at_call 36; refine (rworks_c x.k x.fn x.d x.a x.b x.imm _).mono ?_; rintro e W3 ⟨rfl, hW3⟩; rw [hwk])
    go_ret
    refine ⟨?_, bt hbw2 hW3⟩
    show Ending.returned (.bool false) = _
    unfold idleP
    rw [hwk]
    rfl
  | false =>
    have HID := Lib.hid (show idleP x (b.ops.drop (k + 1)) = againP (b.ops.drop (k + 1)) x.d by unfold idleP; rw [hwk]; rfl)
    go_upto_region 5 with (go_at_call 36; refine (rworks_c x.k x.fn x.d x.a x.b x.imm _).mono ?_; rintro e W3 ⟨rfl, hW3⟩; rw [hwk])
    have B3 := B2.mono hW3
    have X3 := X2.mono hW3
    have hb3 := bt hbw2 hW3
    have hO3 := hO.mono hb3
    clear CX2 B2 X2 hbw2 hW3
    go_loopw [6] (fun s W => ∃ i : Nat, s = .int .i64 i ∧ k + 1 ≤ i ∧ i ≤ b.ops.length ∧ againP (b.ops.drop i) x.d = againP (b.ops.drop (k + 1)) x.d ∧ Below W3.heap.size W3 W) (fun s _ => b.ops.length - (intOf s).toNat)
    case atStart => exact ⟨k + 1, by go_num, Nat.le_refl _, hk, rfl, Below.refl _ _⟩
    case round =>
      obtain ⟨i, rfl, hi1, hi, hkn, hW⟩ := hrel
      have CB := (B3.mono hW).cell
      by_cases hj : i < b.ops.length
      · obtain ⟨bb', bo', e', g0, g1, g2, g3, g4, g5⟩ := kOp_at (hO3.mono hW) i hj
        cases e'
        have hok := hops _ (List.getElem_mem hj)
        rw [again_step b.ops i hj x.d] at hkn
        obtain ⟨o, ho⟩ : ∃ o, b.ops[i] = o := ⟨_, rfl⟩
        rw [ho] at g0 g1 g2 g3 g4 g5 hok hkn
        have HKN := Lib.hid hkn
        have CX := (X3.mono hW).cell
        clear hkn ho
        have hSX : ∀ V, Below wr.heap.size wr V → V.cell? ⟨w.heap.size, 0, none⟩ = some (.slice (some ⟨bb, bo, none⟩) b.ops.length c) ∧ V.cell? ⟨bb, bo + i * 6, none⟩ = some (.int .u8 o.k) ∧ V.cell? ⟨bb, bo + i * 6 + 1, none⟩ = some (.int .u8 o.fn) ∧ V.cell? ⟨bb, bo + i * 6 + 2, none⟩ = some (.int .i64 o.d) ∧ V.cell? ⟨bb, bo + i * 6 + 3, none⟩ = some (.int .i64 o.a) ∧ V.cell? ⟨bb, bo + i * 6 + 4, none⟩ = some (.int .i64 o.b) ∧ V.cell? ⟨bb, bo + i * 6 + 5, none⟩ = some (.int .u64 o.imm) ∧ V.cell? ⟨q2, 2, none⟩ = some (.int .i64 x.d) := fun V hV => ⟨cm (CB 0) hV, cm g0 hV, cm g1 hV, cm g2 hV, cm g3 hV, cm g4 hV, cm g5 hV, cm (CX 2) hV⟩
        have HSX := Lib.hid hSX
        clear hSX
        cases ha : asksB o x.d with
        | true =>
          rw [ha] at HKN
          go_upto_region 7 with (fail)
          refine startM_ (n := 8) (S := fun w' => w'.cell? ⟨w.heap.size, 0, none⟩ = some (.slice (some ⟨bb, bo, none⟩) b.ops.length c) ∧ w'.cell? ⟨bb, bo + i * 6, none⟩ = some (.int .u8 o.k) ∧ w'.cell? ⟨bb, bo + i * 6 + 1, none⟩ = some (.int .u8 o.fn) ∧ w'.cell? ⟨bb, bo + i * 6 + 2, none⟩ = some (.int .i64 o.d) ∧ w'.cell? ⟨bb, bo + i * 6 + 3, none⟩ = some (.int .i64 o.a) ∧ w'.cell? ⟨bb, bo + i * 6 + 4, none⟩ = some (.int .i64 o.b) ∧ w'.cell? ⟨bb, bo + i * 6 + 5, none⟩ = some (.int .u64 o.imm) ∧ w'.cell? ⟨q2, 2, none⟩ = some (.int .i64 x.d)) (ds := []) (bz 8 0) (by kernel_rfl) rfl rfl (HSX.out _ ((Below.refl _ _).drew)) (fun hHeld => ?_)
          refine pure_ (i := 0) (N := (some 23)) (v := ?_) (a' := ?_) (bz 8 1) rfl rfl (by kernel_rfl) (fun _ _ _ h => h) (Or.inl ⟨by rfl, ?_⟩) ?_ ?_
          rotate_left
          · intro w'
            go_simp
            with_reducible rfl
          rotate_left
          · simp only [Act.put, sa_, sb_, sc_]
            rfl
          refine pure_ (i := 2) (N := (some 25)) (v := ?_) (a' := ?_) (bz 8 5) rfl rfl (by kernel_rfl) (fun _ _ _ h => h) (Or.inl ⟨by rfl, ?_⟩) ?_ ?_
          rotate_left
          · intro w'
            go_simp
            with_reducible rfl
          rotate_left
          · simp only [Act.put, sa_, sb_, sc_]
            rfl
          refine pure_ (i := 5) (N := (some 28)) (v := ?_) (a' := ?_) (bz 8 37) rfl rfl (by kernel_rfl) (fun _ _ _ h => h) (Or.inl ⟨by rfl, ?_⟩) ?_ ?_
          rotate_left
          · intro w'
            go_simp
            with_reducible rfl
          rotate_left
          · simp only [Act.put, sa_, sb_, sc_]
            rfl
          refine take_ (i := 1) (N := (some 24)) (v := ?_) (a' := ?_) (bz 8 39) rfl rfl (by kernel_rfl) (fun _ _ _ h => h) (Or.inl ⟨by rfl, ?_⟩) hHeld ?_ ?_
          rotate_left
          · rintro w' ⟨s0, s1, s2, s3, s4, s5, s6, s7⟩
            go_simp
            with_reducible rfl
          rotate_left
          · simp only [Act.put, sa_, sb_, sc_]
            rfl
          refine pure_ (i := 3) (N := (some 26)) (v := ?_) (a' := ?_) (bz 8 47) rfl rfl (by kernel_rfl) (fun _ _ _ h => h) (Or.inl ⟨by rfl, ?_⟩) ?_ ?_
          rotate_left
          · intro w'
            go_simp
            with_reducible rfl
          rotate_left
          · simp only [Act.put, sa_, sb_, sc_]
            rfl
          refine take_ (i := 4) (N := (some 27)) (v := ?_) (a' := ?_) (bz 8 63) rfl rfl (by kernel_rfl) (fun _ _ _ h => h) (Or.inl ⟨by rfl, ?_⟩) hHeld ?_ ?_
          rotate_left
          · rintro w' ⟨s0, s1, s2, s3, s4, s5, s6, s7⟩
            go_simp
            with_reducible rfl
          rotate_left
          · simp only [Act.put, sa_, sb_, sc_]
            rfl
          refine take_ (i := 6) (N := (some 29)) (v := ?_) (a' := ?_) (bz 8 127) rfl rfl (by kernel_rfl) (fun _ _ _ h => h) (Or.inl ⟨by rfl, ?_⟩) hHeld ?_ ?_
          rotate_left
          · rintro w' ⟨s0, s1, s2, s3, s4, s5, s6, s7⟩
            go_simp
            with_reducible rfl
          rotate_left
          · simp only [Act.put, sa_, sb_, sc_]
            rfl
          refine one_ (i := 7) (N := (some 30)) (bz 8 255) rfl rfl (by kernel_rfl) (by decide) (fun K hK => ?_)
          refine goes_ Tryz.func64 (by kernel_rfl) rfl #[.agg #[.int .u8 o.k, .int .u8 o.fn, .int .i64 o.d, .int .i64 o.a, .int .i64 o.b, .int .u64 o.imm], .int .i64 x.d] (by rfl) rfl rfl (by (try simp only [List.map_toArray, List.map_cons, List.map_nil]); first | done | rfl) ?_
          refine (rasks_c o hok x.d _).mono ?_
          rintro e W4 ⟨rfl, hW4⟩
          refine ⟨_, rfl, ?_⟩
          rw [ha]
          have hB4 : Below wr.heap.size wr W4 := bt' ((Below.refl wr.heap.size wr).drew) ((Below.refl wr.heap.size wr).drew).size hW4
          refine hK.out _ _ (HSX.out _ hB4) (fun hHeld => ?_)
          clear hK K
          refine norm_ (a' := ?_) ?_ ?_
          rotate_left
          · show Act.put _ (some 30) _ = _
            simp only [Act.put, sa_, sb_, sc_]
            rfl
          refine done_ (by kernel_rfl) ?_
          dsimp only [onlyN]
          go_wp2_with fail
          go_ret
          refine ⟨?_, bt hb3 (bt hW hB4)⟩
          show Ending.returned (.bool false) = _
          rw [HID.out]
          have := HKN.out
          simp at this
          rw [← this]
        | false =>
          rw [ha] at HKN
          go_upto_region 7 with (fail)
          refine startM_ (n := 8) (S := fun w' => w'.cell? ⟨w.heap.size, 0, none⟩ = some (.slice (some ⟨bb, bo, none⟩) b.ops.length c) ∧ w'.cell? ⟨bb, bo + i * 6, none⟩ = some (.int .u8 o.k) ∧ w'.cell? ⟨bb, bo + i * 6 + 1, none⟩ = some (.int .u8 o.fn) ∧ w'.cell? ⟨bb, bo + i * 6 + 2, none⟩ = some (.int .i64 o.d) ∧ w'.cell? ⟨bb, bo + i * 6 + 3, none⟩ = some (.int .i64 o.a) ∧ w'.cell? ⟨bb, bo + i * 6 + 4, none⟩ = some (.int .i64 o.b) ∧ w'.cell? ⟨bb, bo + i * 6 + 5, none⟩ = some (.int .u64 o.imm) ∧ w'.cell? ⟨q2, 2, none⟩ = some (.int .i64 x.d)) (ds := []) (bz 8 0) (by kernel_rfl) rfl rfl (HSX.out _ ((Below.refl _ _).drew)) (fun hHeld => ?_)
          refine pure_ (i := 0) (N := (some 23)) (v := ?_) (a' := ?_) (bz 8 1) rfl rfl (by kernel_rfl) (fun _ _ _ h => h) (Or.inl ⟨by rfl, ?_⟩) ?_ ?_
          rotate_left
          · intro w'
            go_simp
            with_reducible rfl
          rotate_left
          · simp only [Act.put, sa_, sb_, sc_]
            rfl
          refine pure_ (i := 2) (N := (some 25)) (v := ?_) (a' := ?_) (bz 8 5) rfl rfl (by kernel_rfl) (fun _ _ _ h => h) (Or.inl ⟨by rfl, ?_⟩) ?_ ?_
          rotate_left
          · intro w'
            go_simp
            with_reducible rfl
          rotate_left
          · simp only [Act.put, sa_, sb_, sc_]
            rfl
          refine pure_ (i := 5) (N := (some 28)) (v := ?_) (a' := ?_) (bz 8 37) rfl rfl (by kernel_rfl) (fun _ _ _ h => h) (Or.inl ⟨by rfl, ?_⟩) ?_ ?_
          rotate_left
          · intro w'
            go_simp
            with_reducible rfl
          rotate_left
          · simp only [Act.put, sa_, sb_, sc_]
            rfl
          refine take_ (i := 1) (N := (some 24)) (v := ?_) (a' := ?_) (bz 8 39) rfl rfl (by kernel_rfl) (fun _ _ _ h => h) (Or.inl ⟨by rfl, ?_⟩) hHeld ?_ ?_
          rotate_left
          · rintro w' ⟨s0, s1, s2, s3, s4, s5, s6, s7⟩
            go_simp
            with_reducible rfl
          rotate_left
          · simp only [Act.put, sa_, sb_, sc_]
            rfl
          refine pure_ (i := 3) (N := (some 26)) (v := ?_) (a' := ?_) (bz 8 47) rfl rfl (by kernel_rfl) (fun _ _ _ h => h) (Or.inl ⟨by rfl, ?_⟩) ?_ ?_
          rotate_left
          · intro w'
            go_simp
            with_reducible rfl
          rotate_left
          · simp only [Act.put, sa_, sb_, sc_]
            rfl
          refine take_ (i := 4) (N := (some 27)) (v := ?_) (a' := ?_) (bz 8 63) rfl rfl (by kernel_rfl) (fun _ _ _ h => h) (Or.inl ⟨by rfl, ?_⟩) hHeld ?_ ?_
          rotate_left
          · rintro w' ⟨s0, s1, s2, s3, s4, s5, s6, s7⟩
            go_simp
            with_reducible rfl
          rotate_left
          · simp only [Act.put, sa_, sb_, sc_]
            rfl
          refine take_ (i := 6) (N := (some 29)) (v := ?_) (a' := ?_) (bz 8 127) rfl rfl (by kernel_rfl) (fun _ _ _ h => h) (Or.inl ⟨by rfl, ?_⟩) hHeld ?_ ?_
          rotate_left
          · rintro w' ⟨s0, s1, s2, s3, s4, s5, s6, s7⟩
            go_simp
            with_reducible rfl
          rotate_left
          · simp only [Act.put, sa_, sb_, sc_]
            rfl
          refine one_ (i := 7) (N := (some 30)) (bz 8 255) rfl rfl (by kernel_rfl) (by decide) (fun K hK => ?_)
          refine goes_ Tryz.func64 (by kernel_rfl) rfl #[.agg #[.int .u8 o.k, .int .u8 o.fn, .int .i64 o.d, .int .i64 o.a, .int .i64 o.b, .int .u64 o.imm], .int .i64 x.d] (by rfl) rfl rfl (by (try simp only [List.map_toArray, List.map_cons, List.map_nil]); first | done | rfl) ?_
          refine (rasks_c o hok x.d _).mono ?_
          rintro e W4 ⟨rfl, hW4⟩
          refine ⟨_, rfl, ?_⟩
          rw [ha]
          have hB4 : Below wr.heap.size wr W4 := bt' ((Below.refl wr.heap.size wr).drew) ((Below.refl wr.heap.size wr).drew).size hW4
          refine hK.out _ _ (HSX.out _ hB4) (fun hHeld => ?_)
          clear hK K
          refine norm_ (a' := ?_) ?_ ?_
          rotate_left
          · show Act.put _ (some 30) _ = _
            simp only [Act.put, sa_, sb_, sc_]
            rfl
          refine done_ (by kernel_rfl) ?_
          dsimp only [onlyN]
          go_upto_region 9 with (fail)
          clear g0 g1 g2 g3 g4 g5 hHeld
          cases hs : setsB o.k with
          | false =>
            unfold setsD at HKN
            rw [hs] at HKN
            refine startM_ (n := 17) (S := fun w' => w'.cell? ⟨w.heap.size, 0, none⟩ = some (.slice (some ⟨bb, bo, none⟩) b.ops.length c) ∧ w'.cell? ⟨bb, bo + i * 6, none⟩ = some (.int .u8 o.k) ∧ w'.cell? ⟨bb, bo + i * 6 + 1, none⟩ = some (.int .u8 o.fn) ∧ w'.cell? ⟨bb, bo + i * 6 + 2, none⟩ = some (.int .i64 o.d) ∧ w'.cell? ⟨bb, bo + i * 6 + 3, none⟩ = some (.int .i64 o.a) ∧ w'.cell? ⟨bb, bo + i * 6 + 4, none⟩ = some (.int .i64 o.b) ∧ w'.cell? ⟨bb, bo + i * 6 + 5, none⟩ = some (.int .u64 o.imm) ∧ w'.cell? ⟨q2, 2, none⟩ = some (.int .i64 x.d)) (ds := []) (bz 17 0) (by kernel_rfl) rfl rfl (HSX.out _ (hB4.drew)) (fun hHeld => ?_)
            refine pure_ (i := 0) (N := (some 31)) (v := ?_) (a' := ?_) (bz 17 1) rfl rfl (by kernel_rfl) (fun _ _ _ h => h) (Or.inl ⟨by rfl, ?_⟩) ?_ ?_
            rotate_left
            · intro w'
              go_simp
              with_reducible rfl
            rotate_left
            · simp only [Act.put, sa_, sb_, sc_]
              rfl
            refine pure_ (i := 2) (N := (some 33)) (v := ?_) (a' := ?_) (bz 17 5) rfl rfl (by kernel_rfl) (fun _ _ _ h => h) (Or.inl ⟨by rfl, ?_⟩) ?_ ?_
            rotate_left
            · intro w'
              go_simp
              with_reducible rfl
            rotate_left
            · simp only [Act.put, sa_, sb_, sc_]
              rfl
            refine take_ (i := 1) (N := (some 32)) (v := ?_) (a' := ?_) (bz 17 7) rfl rfl (by kernel_rfl) (fun _ _ _ h => h) (Or.inl ⟨by rfl, ?_⟩) hHeld ?_ ?_
            rotate_left
            · rintro w' ⟨s0, s1, s2, s3, s4, s5, s6, s7⟩
              go_simp
              with_reducible rfl
            rotate_left
            · simp only [Act.put, sa_, sb_, sc_]
              rfl
            refine pure_ (i := 3) (N := (some 34)) (v := ?_) (a' := ?_) (bz 17 15) rfl rfl (by kernel_rfl) (fun _ _ _ h => h) (Or.inl ⟨by rfl, ?_⟩) ?_ ?_
            rotate_left
            · intro w'
              go_simp
              with_reducible rfl
            rotate_left
            · simp only [Act.put, sa_, sb_, sc_]
              rfl
            refine take_ (i := 4) (N := (some 35)) (v := ?_) (a' := ?_) (bz 17 31) rfl rfl (by kernel_rfl) (fun _ _ _ h => h) (Or.inl ⟨by rfl, ?_⟩) hHeld ?_ ?_
            rotate_left
            · rintro w' ⟨s0, s1, s2, s3, s4, s5, s6, s7⟩
              go_simp
              with_reducible rfl
            rotate_left
            · simp only [Act.put, sa_, sb_, sc_]
              rfl
            refine one_ (i := 5) (N := (some 36)) (bz 17 63) rfl rfl (by kernel_rfl) (by decide) (fun K hK => ?_)
            refine goes_ Tryz.func63 (by kernel_rfl) rfl #[.agg #[.int .u8 o.k, .int .u8 o.fn, .int .i64 o.d, .int .i64 o.a, .int .i64 o.b, .int .u64 o.imm]] (by rfl) rfl rfl (by (try simp only [List.map_toArray, List.map_cons, List.map_nil]); first | done | rfl) ?_
            refine (rsets_c o.k o.fn o.d o.a o.b o.imm hok _).mono ?_
            rintro e W5 ⟨rfl, hW5⟩
            refine ⟨_, rfl, ?_⟩
            rw [hs]
            have hB5 : Below wr.heap.size wr W5 := bt' (hB4.drew) (hB4.drew).size hW5
            refine hK.out _ _ (HSX.out _ hB5) (fun hHeld => ?_)
            clear hK K
            refine norm_ (a' := ?_) ?_ ?_
            rotate_left
            · show Act.put _ (some 36) _ = _
              simp only [Act.put, sa_, sb_, sc_]
              rfl
            refine pure_ (i := 6) (N := (some 37)) (v := ?_) (a' := ?_) (bz 17 127) rfl rfl (by kernel_rfl) (fun _ _ _ h => h) (Or.inl ⟨by rfl, ?_⟩) ?_ ?_
            rotate_left
            · intro w'
              go_simp
              with_reducible rfl
            rotate_left
            · simp only [Act.put, sa_, sb_, sc_]
              rfl
            refine pure_ (i := 7) (N := (some 38)) (v := undef) (a' := ?_) (bz 17 255) rfl rfl (by kernel_rfl) (fun _ _ _ h => h) (Or.inr ⟨by rfl, rfl⟩) ?_ ?_
            rotate_left
            · simp only [Act.put, sa_, sb_, sc_]
              rfl
            refine pure_ (i := 9) (N := (some 40)) (v := undef) (a' := ?_) (bz 17 767) rfl rfl (by kernel_rfl) (fun _ _ _ h => h) (Or.inr ⟨by rfl, rfl⟩) ?_ ?_
            rotate_left
            · simp only [Act.put, sa_, sb_, sc_]
              rfl
            refine pure_ (i := 13) (N := (some 44)) (v := undef) (a' := ?_) (bz 17 8959) rfl rfl (by kernel_rfl) (fun _ _ _ h => h) (Or.inr ⟨by rfl, rfl⟩) ?_ ?_
            rotate_left
            · simp only [Act.put, sa_, sb_, sc_]
              rfl
            refine take_ (i := 8) (N := (some 39)) (v := undef) (a' := ?_) (bz 17 9215) rfl rfl (by kernel_rfl) (fun _ _ _ h => h) (Or.inr ⟨by rfl, rfl⟩) hHeld ?_ ?_
            rotate_left
            · simp only [Act.put, sa_, sb_, sc_]
              rfl
            refine pure_ (i := 10) (N := (some 41)) (v := undef) (a' := ?_) (bz 17 10239) rfl rfl (by kernel_rfl) (fun _ _ _ h => h) (Or.inr ⟨by rfl, rfl⟩) ?_ ?_
            rotate_left
            · simp only [Act.put, sa_, sb_, sc_]
              rfl
            refine pure_ (i := 11) (N := (some 42)) (v := undef) (a' := ?_) (bz 17 12287) rfl rfl (by kernel_rfl) (fun _ _ _ h => h) (Or.inr ⟨by rfl, rfl⟩) ?_ ?_
            rotate_left
            · simp only [Act.put, sa_, sb_, sc_]
              rfl
            refine take_ (i := 12) (N := (some 43)) (v := undef) (a' := ?_) (bz 17 16383) rfl rfl (by kernel_rfl) (fun _ _ _ h => h) (Or.inr ⟨by rfl, rfl⟩) hHeld ?_ ?_
            rotate_left
            · simp only [Act.put, sa_, sb_, sc_]
              rfl
            refine take_ (i := 14) (N := (some 45)) (v := undef) (a' := ?_) (bz 17 32767) rfl rfl (by kernel_rfl) (fun _ _ _ h => h) (Or.inr ⟨by rfl, rfl⟩) hHeld ?_ ?_
            rotate_left
            · simp only [Act.put, sa_, sb_, sc_]
              rfl
            refine pure_ (i := 15) (N := (some 46)) (v := undef) (a' := ?_) (bz 17 65535) rfl rfl (by kernel_rfl) (fun _ _ _ h => h) (Or.inr ⟨by rfl, rfl⟩) ?_ ?_
            rotate_left
            · simp only [Act.put, sa_, sb_, sc_]
              rfl
            refine pure_ (i := 16) (N := (some 47)) (v := ?_) (a' := ?_) (bz 17 131071) rfl rfl (by kernel_rfl) (fun _ _ _ h => h) (Or.inl ⟨by rfl, ?_⟩) ?_ ?_
            rotate_left
            · intro w'
              go_simp
              with_reducible rfl
            rotate_left
            · simp only [Act.put, sa_, sb_, sc_]
              rfl
            refine done_ (by kernel_rfl) ?_
            dsimp only [onlyN]
            go_wp2_with fail
            go_roundw
            case rel => exact ⟨i + 1, by go_num, by omega, by omega, HKN.out, bt hW hB5⟩
            case measure => simp [intOf]; omega
          | true =>
            unfold setsD at HKN
            rw [hs] at HKN
            refine startM_ (n := 17) (S := fun w' => w'.cell? ⟨w.heap.size, 0, none⟩ = some (.slice (some ⟨bb, bo, none⟩) b.ops.length c) ∧ w'.cell? ⟨bb, bo + i * 6, none⟩ = some (.int .u8 o.k) ∧ w'.cell? ⟨bb, bo + i * 6 + 1, none⟩ = some (.int .u8 o.fn) ∧ w'.cell? ⟨bb, bo + i * 6 + 2, none⟩ = some (.int .i64 o.d) ∧ w'.cell? ⟨bb, bo + i * 6 + 3, none⟩ = some (.int .i64 o.a) ∧ w'.cell? ⟨bb, bo + i * 6 + 4, none⟩ = some (.int .i64 o.b) ∧ w'.cell? ⟨bb, bo + i * 6 + 5, none⟩ = some (.int .u64 o.imm) ∧ w'.cell? ⟨q2, 2, none⟩ = some (.int .i64 x.d)) (ds := []) (bz 17 0) (by kernel_rfl) rfl rfl (HSX.out _ (hB4.drew)) (fun hHeld => ?_)
            refine pure_ (i := 0) (N := (some 31)) (v := ?_) (a' := ?_) (bz 17 1) rfl rfl (by kernel_rfl) (fun _ _ _ h => h) (Or.inl ⟨by rfl, ?_⟩) ?_ ?_
            rotate_left
            · intro w'
              go_simp
              with_reducible rfl
            rotate_left
            · simp only [Act.put, sa_, sb_, sc_]
              rfl
            refine pure_ (i := 2) (N := (some 33)) (v := ?_) (a' := ?_) (bz 17 5) rfl rfl (by kernel_rfl) (fun _ _ _ h => h) (Or.inl ⟨by rfl, ?_⟩) ?_ ?_
            rotate_left
            · intro w'
              go_simp
              with_reducible rfl
            rotate_left
            · simp only [Act.put, sa_, sb_, sc_]
              rfl
            refine take_ (i := 1) (N := (some 32)) (v := ?_) (a' := ?_) (bz 17 7) rfl rfl (by kernel_rfl) (fun _ _ _ h => h) (Or.inl ⟨by rfl, ?_⟩) hHeld ?_ ?_
            rotate_left
            · rintro w' ⟨s0, s1, s2, s3, s4, s5, s6, s7⟩
              go_simp
              with_reducible rfl
            rotate_left
            · simp only [Act.put, sa_, sb_, sc_]
              rfl
            refine pure_ (i := 3) (N := (some 34)) (v := ?_) (a' := ?_) (bz 17 15) rfl rfl (by kernel_rfl) (fun _ _ _ h => h) (Or.inl ⟨by rfl, ?_⟩) ?_ ?_
            rotate_left
            · intro w'
              go_simp
              with_reducible rfl
            rotate_left
            · simp only [Act.put, sa_, sb_, sc_]
              rfl
            refine take_ (i := 4) (N := (some 35)) (v := ?_) (a' := ?_) (bz 17 31) rfl rfl (by kernel_rfl) (fun _ _ _ h => h) (Or.inl ⟨by rfl, ?_⟩) hHeld ?_ ?_
            rotate_left
            · rintro w' ⟨s0, s1, s2, s3, s4, s5, s6, s7⟩
              go_simp
              with_reducible rfl
            rotate_left
            · simp only [Act.put, sa_, sb_, sc_]
              rfl
            refine one_ (i := 5) (N := (some 36)) (bz 17 63) rfl rfl (by kernel_rfl) (by decide) (fun K hK => ?_)
            refine goes_ Tryz.func63 (by kernel_rfl) rfl #[.agg #[.int .u8 o.k, .int .u8 o.fn, .int .i64 o.d, .int .i64 o.a, .int .i64 o.b, .int .u64 o.imm]] (by rfl) rfl rfl (by (try simp only [List.map_toArray, List.map_cons, List.map_nil]); first | done | rfl) ?_
            refine (rsets_c o.k o.fn o.d o.a o.b o.imm hok _).mono ?_
            rintro e W5 ⟨rfl, hW5⟩
            refine ⟨_, rfl, ?_⟩
            rw [hs]
            have hB5 : Below wr.heap.size wr W5 := bt' (hB4.drew) (hB4.drew).size hW5
            refine hK.out _ _ (HSX.out _ hB5) (fun hHeld => ?_)
            clear hK K
            refine norm_ (a' := ?_) ?_ ?_
            rotate_left
            · show Act.put _ (some 36) _ = _
              simp only [Act.put, sa_, sb_, sc_]
              rfl
            refine pure_ (i := 6) (N := (some 37)) (v := ?_) (a' := ?_) (bz 17 127) rfl rfl (by kernel_rfl) (fun _ _ _ h => h) (Or.inl ⟨by rfl, ?_⟩) ?_ ?_
            rotate_left
            · intro w'
              go_simp
              with_reducible rfl
            rotate_left
            · simp only [Act.put, sa_, sb_, sc_]
              rfl
            refine pure_ (i := 7) (N := (some 38)) (v := ?_) (a' := ?_) (bz 17 255) rfl rfl (by kernel_rfl) (fun _ _ _ h => h) (Or.inl ⟨by rfl, ?_⟩) ?_ ?_
            rotate_left
            · intro w'
              go_simp
              with_reducible rfl
            rotate_left
            · simp only [Act.put, sa_, sb_, sc_]
              rfl
            refine pure_ (i := 9) (N := (some 40)) (v := ?_) (a' := ?_) (bz 17 767) rfl rfl (by kernel_rfl) (fun _ _ _ h => h) (Or.inl ⟨by rfl, ?_⟩) ?_ ?_
            rotate_left
            · intro w'
              go_simp
              with_reducible rfl
            rotate_left
            · simp only [Act.put, sa_, sb_, sc_]
              rfl
            refine pure_ (i := 13) (N := (some 44)) (v := ?_) (a' := ?_) (bz 17 8959) rfl rfl (by kernel_rfl) (fun _ _ _ h => h) (Or.inl ⟨by rfl, ?_⟩) ?_ ?_
            rotate_left
            · intro w'
              go_simp
              with_reducible rfl
            rotate_left
            · simp only [Act.put, sa_, sb_, sc_]
              rfl
            refine take_ (i := 8) (N := (some 39)) (v := ?_) (a' := ?_) (bz 17 9215) rfl rfl (by kernel_rfl) (fun _ _ _ h => h) (Or.inl ⟨by rfl, ?_⟩) hHeld ?_ ?_
            rotate_left
            · rintro w' ⟨s0, s1, s2, s3, s4, s5, s6, s7⟩
              go_simp
              with_reducible rfl
            rotate_left
            · simp only [Act.put, sa_, sb_, sc_]
              rfl
            refine pure_ (i := 10) (N := (some 41)) (v := ?_) (a' := ?_) (bz 17 10239) rfl rfl (by kernel_rfl) (fun _ _ _ h => h) (Or.inl ⟨by rfl, ?_⟩) ?_ ?_
            rotate_left
            · intro w'
              go_simp
              with_reducible rfl
            rotate_left
            · simp only [Act.put, sa_, sb_, sc_]
              rfl
            refine pure_ (i := 11) (N := (some 42)) (v := ?_) (a' := ?_) (bz 17 12287) rfl rfl (by kernel_rfl) (fun _ _ _ h => h) (Or.inl ⟨by rfl, ?_⟩) ?_ ?_
            rotate_left
            · intro w'
              go_simp
              with_reducible rfl
            rotate_left
            · simp only [Act.put, sa_, sb_, sc_]
              rfl
            refine take_ (i := 12) (N := (some 43)) (v := ?_) (a' := ?_) (bz 17 16383) rfl rfl (by kernel_rfl) (fun _ _ _ h => h) (Or.inl ⟨by rfl, ?_⟩) hHeld ?_ ?_
            rotate_left
            · rintro w' ⟨s0, s1, s2, s3, s4, s5, s6, s7⟩
              go_simp
              with_reducible rfl
            rotate_left
            · simp only [Act.put, sa_, sb_, sc_]
              rfl
            refine take_ (i := 14) (N := (some 45)) (v := ?_) (a' := ?_) (bz 17 32767) rfl rfl (by kernel_rfl) (fun _ _ _ h => h) (Or.inl ⟨by rfl, ?_⟩) hHeld ?_ ?_
            rotate_left
            · rintro w' ⟨s0, s1, s2, s3, s4, s5, s6, s7⟩
              go_simp
              with_reducible rfl
            rotate_left
            · simp only [Act.put, sa_, sb_, sc_]
              rfl
            refine pure_ (i := 15) (N := (some 46)) (v := ?_) (a' := ?_) (bz 17 65535) rfl rfl (by kernel_rfl) (fun _ _ _ h => h) (Or.inl ⟨by rfl, ?_⟩) ?_ ?_
            rotate_left
            · intro w'
              go_simp
              with_reducible rfl
            rotate_left
            · simp only [Act.put, sa_, sb_, sc_]
              rfl
            refine pure_ (i := 16) (N := (some 47)) (v := ?_) (a' := ?_) (bz 17 131071) rfl rfl (by kernel_rfl) (fun _ _ _ h => h) (Or.inl ⟨by rfl, ?_⟩) ?_ ?_
            rotate_left
            · intro w'
              go_simp
              with_reducible rfl
            rotate_left
            · simp only [Act.put, sa_, sb_, sc_]
              rfl
            refine done_ (by kernel_rfl) ?_
            dsimp only [onlyN]
            by_cases hd : o.d = x.d
            · go_wp2_with fail
              go_ret
              refine ⟨?_, bt hb3 (bt hW hB5)⟩
              show Ending.returned (.bool true) = _
              rw [HID.out]
              have := HKN.out
              simp [hd] at this
              rw [← this]
            · go_wp2_with fail
              go_roundw
              case rel => exact ⟨i + 1, by go_num, by omega, by omega, by have := HKN.out; simp [hd] at this; exact this, bt hW hB5⟩
              case measure => simp [intOf]; omega
      · have hie : i = b.ops.length := by omega
        have HKN := Lib.hid hkn
        clear hkn
        go_wp2_with fail
        go_ret
        refine ⟨?_, bt hb3 hW⟩
        show Ending.returned (.bool false) = _
        rw [HID.out]
        have := HKN.out
        rw [hie, List.drop_length] at this
        rw [← this]
        rfl
end Go.Proofs.YtoabiignjkcdmaaGreat
