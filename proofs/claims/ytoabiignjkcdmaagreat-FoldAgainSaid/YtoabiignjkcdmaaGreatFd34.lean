/-
  Lemmas (texts RefC6), each proved without a condition beyond its own hypotheses.
-/
import Derived.Test.YtoabiignjkcdmaaGreatFd33
namespace Go.Proofs.YtoabiignjkcdmaaGreat
open Go.RowKit Go.Proofs.YtoabiignjkcdmaaGreatW.PrintLast
set_option linter.unusedVariables false
set_option linter.unusedSimpArgs false

theorem store5 {w : World} {q : Nat} {z : Array Value} {t : TypeId} (h : Bk w q z t) (hz : z.size = 5) (a b c d e : Value) : Bk (((((w.setCell ⟨q, 0, none⟩ a).setCell ⟨q, 1, none⟩ b).setCell ⟨q, 2, none⟩ c).setCell ⟨q, 3, none⟩ d).setCell ⟨q, 4, none⟩ e) q #[a, b, c, d, e] t := by
  have h4 := ((((h.set 0 a).set 1 b).set 2 c).set 3 d).set 4 e
  have e' : (((((z.setIfInBounds 0 a).setIfInBounds 1 b).setIfInBounds 2 c).setIfInBounds 3 d).setIfInBounds 4 e) = #[a, b, c, d, e] := by
    apply Array.ext_getElem?
    intro i
    have hi : i = 0 ∨ i = 1 ∨ i = 2 ∨ i = 3 ∨ i = 4 ∨ 5 ≤ i := by omega
    rcases hi with rfl | rfl | rfl | rfl | rfl | hi
    · simp [Array.getElem?_setIfInBounds, hz]
    · simp [Array.getElem?_setIfInBounds, hz]
    · simp [Array.getElem?_setIfInBounds, hz]
    · simp [Array.getElem?_setIfInBounds, hz]
    · simp [Array.getElem?_setIfInBounds, hz]
    · rw [Array.getElem?_eq_none (by simp [hz]; omega), Array.getElem?_eq_none (by simp; omega)]
  rw [e'] at h4
  exact h4
theorem below5 {B : Nat} {w w' : World} (h : Below B w w') {q : Nat} (hq : B ≤ q) (a b c d e : Value) : Below B w (((((w'.setCell ⟨q, 0, none⟩ a).setCell ⟨q, 1, none⟩ b).setCell ⟨q, 2, none⟩ c).setCell ⟨q, 3, none⟩ d).setCell ⟨q, 4, none⟩ e) :=
  ((((h.setCell (p := ⟨q, 0, none⟩) hq a).setCell (p := ⟨q, 1, none⟩) hq b).setCell (p := ⟨q, 2, none⟩) hq c).setCell (p := ⟨q, 3, none⟩) hq d).setCell (p := ⟨q, 4, none⟩) hq e
theorem other5 {w : World} {q m : Nat} {z : Array Value} {t : TypeId} (h : Bk w m z t) (hn : m ≠ q) (a b c d e : Value) : Bk (((((w.setCell ⟨q, 0, none⟩ a).setCell ⟨q, 1, none⟩ b).setCell ⟨q, 2, none⟩ c).setCell ⟨q, 3, none⟩ d).setCell ⟨q, 4, none⟩ e) m z t :=
  ((((h.other (a := ⟨q, 0, none⟩) hn a).other (a := ⟨q, 1, none⟩) hn b).other (a := ⟨q, 2, none⟩) hn c).other (a := ⟨q, 3, none⟩) hn d).other (a := ⟨q, 4, none⟩) hn e

set_option maxRecDepth 100000 in
set_option maxHeartbeats 2000000 in
theorem same18_c (p : SIr) (w : World) (S P B S' P' B' : Option Addr) (c1 c2 c3 c1' c2' c3' : Nat) (hS : kBool.Row w S p.sec) (hP : kHanded.Row w P p.par) (hB : kBlock.Row w B p.blk) (hS' : kBool.Row w S' p.sec) (hP' : kHanded.Row w P' p.par) (hB' : kBlock.Row w B' p.blk) (hsm : Small p) :
    Calls Tryz.prog 13 #[.agg #[.slice S p.sec.length c1, .slice P p.par.length c2, .slice B p.blk.length c3], .agg #[.slice S' p.sec.length c1', .slice P' p.par.length c2', .slice B' p.blk.length c3']] w fun e w' => e = .returned (.bool true) ∧ Below w.heap.size w w' := by
  have hops := hsm.each
  obtain ⟨m1, m2, m3, -⟩ := hsm
  obtain ⟨W, hW⟩ : ∃ W, W = (w.alloc (.cells #[.slice S p.sec.length c1, .slice P p.par.length c2, .slice B p.blk.length c3] 26)).alloc (.cells #[.slice S' p.sec.length c1', .slice P' p.par.length c2', .slice B' p.blk.length c3'] 26) := ⟨_, rfl⟩
  have hbW : Below w.heap.size w W := by rw [hW]; exact ((Below.refl w.heap.size w).alloc (Nat.le_refl _) _).alloc (by simp) _
  have BP : Bk W w.heap.size #[.slice S p.sec.length c1, .slice P p.par.length c2, .slice B p.blk.length c3] 26 := by rw [hW]; exact (Bk.new w _ _).alloc _
  have BQ : Bk W (w.heap.size + 1) #[.slice S' p.sec.length c1', .slice P' p.par.length c2', .slice B' p.blk.length c3'] 26 := by rw [hW]; exact Bk.newAt _ _ (by simp)
  go_enter Tryz.func13, Tryz.ntmps13
  go_upto_region 1 with (fail)
  rw [← hW]
  clear hW
  have CP := BP.cell
  have CQ := BQ.cell
  go_wp2_with fail
  go_loopw [5] (fun s wr => ∃ k : Nat, k ≤ p.sec.length ∧ s = .int .i64 k ∧ Below W.heap.size W wr) (fun s _ => p.sec.length - (intOf s).toNat)
  case atStart => exact ⟨0, Nat.zero_le _, rfl, Below.refl _ _⟩
  case round =>
    obtain ⟨k, hk, rfl, hb⟩ := hrel
    have BP1 := BP.mono hb
    have BQ1 := BQ.mono hb
    have hbw := bt hbW hb
    clear CP CQ
    have CP := BP1.cell
    have CQ := BQ1.cell
    by_cases hlt : k < p.sec.length
    · obtain ⟨b1, o1, rfl, g1⟩ := kBool_at (hS.mono hbw) k hlt
      obtain ⟨b2, o2, rfl, g2⟩ := kBool_at (hS'.mono hbw) k hlt
      obtain ⟨x, hx'⟩ : ∃ x, x = p.sec[k] := ⟨_, rfl⟩
      rw [← hx'] at g1 g2
      clear hx'
      go_wp2_with fail
      go_quiet (fail)
      go_wp2_with fail
      go_roundw
      case rel => exact ⟨k + 1, by omega, by go_num, bt hb (drewN_below _ _)⟩
      case measure => simp [intOf]; omega
    · go_wp2_with fail
      clear hlt hk
      obtain ⟨W2, hW2⟩ : ∃ W2, W2 = wr := ⟨_, rfl⟩
      rw [← hW2] at hb BP1 BQ1 hbw CP CQ ⊢
      clear hW2
      go_loopw [6] (fun s wr => ∃ k : Nat, k ≤ p.par.length ∧ s = .int .i64 k ∧ Below W2.heap.size W2 wr) (fun s _ => p.par.length - (intOf s).toNat)
      case atStart => exact ⟨0, Nat.zero_le _, rfl, Below.refl _ _⟩
      case round =>
        obtain ⟨k, hk, rfl, hb2⟩ := hrel
        have BP2 := BP1.mono hb2
        have BQ2 := BQ1.mono hb2
        have hbw2 := bt hbw hb2
        clear CP CQ
        have CP := BP2.cell
        have CQ := BQ2.cell
        by_cases hlt : k < p.par.length
        · obtain ⟨b1, o1, rfl, g0, g1, g2, g3, g4⟩ := kHanded_at (hP.mono hbw2) k hlt
          obtain ⟨b2, o2, rfl, h0, h1, h2, h3, h4⟩ := kHanded_at (hP'.mono hbw2) k hlt
          obtain ⟨x, hx'⟩ : ∃ x, x = p.par[k] := ⟨_, rfl⟩
          rw [← hx'] at g0 g1 g2 g3 g4 h0 h1 h2 h3 h4
          clear hx'
          go_wp2_with fail
          go_quiet (fail)
          go_wp2_with fail
          go_roundw
          case rel => exact ⟨k + 1, by omega, by go_num, bt hb2 (drewN_below _ _)⟩
          case measure => simp [intOf]; omega
        · go_wp2_with fail
          clear hlt hk
          obtain ⟨W3, hW3⟩ : ∃ W3, W3 = wr := ⟨_, rfl⟩
          rw [← hW3] at hb2 BP2 BQ2 hbw2 CP CQ ⊢
          clear hW3
          go_loopw [7] (fun s wr => ∃ k : Nat, k ≤ p.blk.length ∧ s = .int .i64 k ∧ Below W3.heap.size W3 wr) (fun s _ => p.blk.length - (intOf s).toNat)
          case atStart => exact ⟨0, Nat.zero_le _, rfl, Below.refl _ _⟩
          case round =>
            obtain ⟨k, hk, rfl, hb3⟩ := hrel
            have BP3 := BP2.mono hb3
            have BQ3 := BQ2.mono hb3
            have hbw3 := bt hbw2 hb3
            clear CP CQ
            have CP := BP3.cell
            have CQ := BQ3.cell
            by_cases hlt : k < p.blk.length
            · obtain ⟨b1, o1, O, oc, rfl, g0, g1, g2, g3, g4, gm, hO⟩ := kBlock_at (hB.mono hbw3) k hlt
              obtain ⟨b2, o2, O', oc', rfl, h0, h1, h2, h3, h4, hm, hO'⟩ := kBlock_at (hB'.mono hbw3) k hlt
              have hol := hops _ (List.getElem_mem hlt)
              obtain ⟨bk, hbk⟩ : ∃ x, x = p.blk[k] := ⟨_, rfl⟩
              rw [← hbk] at g0 g1 g2 g3 g4 h0 h1 h2 h3 h4 hO hO' hol
              clear hbk gm hm
              go_upto_region 16 with (fail)
              obtain ⟨V, hV⟩ : ∃ V, V = wr := ⟨_, rfl⟩
              rw [← hV] at hb3 BP3 BQ3 hbw3 CP CQ g0 g1 g2 g3 g4 h0 h1 h2 h3 h4 hO hO' ⊢
              clear hV
              have HCS := Lib.hid (show ∀ Z, Below V.heap.size V Z → Z.cell? ⟨w.heap.size, 2, none⟩ = some (.slice (some ⟨b1, o1, none⟩) p.blk.length c3) ∧ Z.cell? ⟨w.heap.size + 1, 2, none⟩ = some (.slice (some ⟨b2, o2, none⟩) p.blk.length c3') ∧ Z.cell? ⟨b1, o1 + k * 5, none⟩ = some (.slice O bk.ops.length oc) ∧ Z.cell? ⟨b1, o1 + k * 5 + 1, none⟩ = some (.int .u8 bk.e) ∧ Z.cell? ⟨b1, o1 + k * 5 + 2, none⟩ = some (.int .i64 bk.a) ∧ Z.cell? ⟨b1, o1 + k * 5 + 3, none⟩ = some (.int .i64 bk.go) ∧ Z.cell? ⟨b1, o1 + k * 5 + 4, none⟩ = some (.int .i64 bk.els) ∧ Z.cell? ⟨b2, o2 + k * 5, none⟩ = some (.slice O' bk.ops.length oc') ∧ Z.cell? ⟨b2, o2 + k * 5 + 1, none⟩ = some (.int .u8 bk.e) ∧ Z.cell? ⟨b2, o2 + k * 5 + 2, none⟩ = some (.int .i64 bk.a) ∧ Z.cell? ⟨b2, o2 + k * 5 + 3, none⟩ = some (.int .i64 bk.go) ∧ Z.cell? ⟨b2, o2 + k * 5 + 4, none⟩ = some (.int .i64 bk.els) from fun Z hZ => ⟨cm (CP 2) hZ, cm (CQ 2) hZ, cm g0 hZ, cm g1 hZ, cm g2 hZ, cm g3 hZ, cm g4 hZ, cm h0 hZ, cm h1 hZ, cm h2 hZ, cm h3 hZ, cm h4 hZ⟩)
              refine start_ (n := 14) (S := fun w' => w'.cell? ⟨w.heap.size, 2, none⟩ = some (.slice (some ⟨b1, o1, none⟩) p.blk.length c3) ∧ w'.cell? ⟨w.heap.size + 1, 2, none⟩ = some (.slice (some ⟨b2, o2, none⟩) p.blk.length c3') ∧ w'.cell? ⟨b1, o1 + k * 5, none⟩ = some (.slice O bk.ops.length oc) ∧ w'.cell? ⟨b1, o1 + k * 5 + 1, none⟩ = some (.int .u8 bk.e) ∧ w'.cell? ⟨b1, o1 + k * 5 + 2, none⟩ = some (.int .i64 bk.a) ∧ w'.cell? ⟨b1, o1 + k * 5 + 3, none⟩ = some (.int .i64 bk.go) ∧ w'.cell? ⟨b1, o1 + k * 5 + 4, none⟩ = some (.int .i64 bk.els) ∧ w'.cell? ⟨b2, o2 + k * 5, none⟩ = some (.slice O' bk.ops.length oc') ∧ w'.cell? ⟨b2, o2 + k * 5 + 1, none⟩ = some (.int .u8 bk.e) ∧ w'.cell? ⟨b2, o2 + k * 5 + 2, none⟩ = some (.int .i64 bk.a) ∧ w'.cell? ⟨b2, o2 + k * 5 + 3, none⟩ = some (.int .i64 bk.go) ∧ w'.cell? ⟨b2, o2 + k * 5 + 4, none⟩ = some (.int .i64 bk.els)) (ds := [13]) (bz 14 0) (by kernel_rfl) rfl rfl (HCS.out _ (Below.refl _ _).drew) (fun hHeld => ?_)
              refine pure_ (i := 0) (N := (some 79)) (v := ?_) (a' := ?_) (bz 14 1) rfl rfl (by kernel_rfl) (fun _ _ _ h => h) (Or.inl ⟨by rfl, ?_⟩) ?_ ?_
              rotate_left
              · intro w'
                go_simp
                with_reducible rfl
              rotate_left
              · simp only [Act.put, sa_, sb_, sc_]
                rfl
              refine pure_ (i := 2) (N := (some 81)) (v := ?_) (a' := ?_) (bz 14 5) rfl rfl (by kernel_rfl) (fun _ _ _ h => h) (Or.inl ⟨by rfl, ?_⟩) ?_ ?_
              rotate_left
              · intro w'
                go_simp
                with_reducible rfl
              rotate_left
              · simp only [Act.put, sa_, sb_, sc_]
                rfl
              refine pure_ (i := 5) (N := (some 84)) (v := ?_) (a' := ?_) (bz 14 37) rfl rfl (by kernel_rfl) (fun _ _ _ h => h) (Or.inl ⟨by rfl, ?_⟩) ?_ ?_
              rotate_left
              · intro w'
                go_simp
                with_reducible rfl
              rotate_left
              · simp only [Act.put, sa_, sb_, sc_]
                rfl
              refine pure_ (i := 7) (N := (some 86)) (v := ?_) (a' := ?_) (bz 14 165) rfl rfl (by kernel_rfl) (fun _ _ _ h => h) (Or.inl ⟨by rfl, ?_⟩) ?_ ?_
              rotate_left
              · intro w'
                go_simp
                with_reducible rfl
              rotate_left
              · simp only [Act.put, sa_, sb_, sc_]
                rfl
              refine take_ (i := 1) (N := (some 80)) (v := ?_) (a' := ?_) (bz 14 167) rfl rfl (by kernel_rfl) (fun _ _ _ h => h) (Or.inl ⟨by rfl, ?_⟩) hHeld ?_ ?_
              rotate_left
              · rintro w' ⟨s0, s1, s2, s3, s4, s5, s6, s7, s8, s9, s10, s11⟩
                go_simp
                with_reducible rfl
              rotate_left
              · simp only [Act.put, sa_, sb_, sc_]
                rfl
              refine pure_ (i := 3) (N := (some 82)) (v := ?_) (a' := ?_) (bz 14 175) rfl rfl (by kernel_rfl) (fun _ _ _ h => h) (Or.inl ⟨by rfl, ?_⟩) ?_ ?_
              rotate_left
              · intro w'
                go_simp
                with_reducible rfl
              rotate_left
              · simp only [Act.put, sa_, sb_, sc_]
                rfl
              refine take_ (i := 4) (N := (some 83)) (v := ?_) (a' := ?_) (bz 14 191) rfl rfl (by kernel_rfl) (fun _ _ _ h => h) (Or.inl ⟨by rfl, ?_⟩) hHeld ?_ ?_
              rotate_left
              · rintro w' ⟨s0, s1, s2, s3, s4, s5, s6, s7, s8, s9, s10, s11⟩
                go_simp
                with_reducible rfl
              rotate_left
              · simp only [Act.put, sa_, sb_, sc_]
                rfl
              refine take_ (i := 6) (N := (some 85)) (v := ?_) (a' := ?_) (bz 14 255) rfl rfl (by kernel_rfl) (fun _ _ _ h => h) (Or.inl ⟨by rfl, ?_⟩) hHeld ?_ ?_
              rotate_left
              · rintro w' ⟨s0, s1, s2, s3, s4, s5, s6, s7, s8, s9, s10, s11⟩
                go_simp
                with_reducible rfl
              rotate_left
              · simp only [Act.put, sa_, sb_, sc_]
                rfl
              refine pure_ (i := 8) (N := (some 87)) (v := ?_) (a' := ?_) (bz 14 511) rfl rfl (by kernel_rfl) (fun _ _ _ h => h) (Or.inl ⟨by rfl, ?_⟩) ?_ ?_
              rotate_left
              · intro w'
                go_simp
                with_reducible rfl
              rotate_left
              · simp only [Act.put, sa_, sb_, sc_]
                rfl
              refine take_ (i := 9) (N := (some 88)) (v := ?_) (a' := ?_) (bz 14 1023) rfl rfl (by kernel_rfl) (fun _ _ _ h => h) (Or.inl ⟨by rfl, ?_⟩) hHeld ?_ ?_
              rotate_left
              · rintro w' ⟨s0, s1, s2, s3, s4, s5, s6, s7, s8, s9, s10, s11⟩
                go_simp
                with_reducible rfl
              rotate_left
              · simp only [Act.put, sa_, sb_, sc_]
                rfl
              refine join_ (σ := Nat × Nat) 2 (bz 14 4095) (fun s => [(8, .pointer (some ⟨s.1, 0, none⟩)), (9, .pointer (some ⟨s.2, 0, none⟩))]) (fun s w' => Below V.heap.size V w' ∧ Bk w' s.1 #[.slice none 0 0, .int .u8 0, .int .i64 0, .int .i64 0, .int .i64 0] 38 ∧ Bk w' s.2 #[.slice none 0 0, .int .u8 0, .int .i64 0, .int .i64 0, .int .i64 0] 38 ∧ V.heap.size ≤ s.1 ∧ V.heap.size ≤ s.2 ∧ s.1 ≠ s.2) ?_ (fun HC => ?_)
              rotate_left
              · refine two_ (i := 10) (j := 11) (Ni := (some 8)) (Nj := (some 9)) (bz 14 2047) (bz 14 3071) rfl rfl rfl rfl (by kernel_rfl) (by decide) (by decide) (fun K hK => ?_) (fun K hK => ?_)
                · obtain ⟨wA, hwA⟩ : ∃ Z, Z = V.drew.alloc (.cells #[.slice none 0 0, .int .u8 0, .int .i64 0, .int .i64 0, .int .i64 0] 38) := ⟨_, rfl⟩
                  have hbA : Below V.heap.size V wA := by rw [hwA]; exact (Below.refl V.heap.size V).drew.alloc (Below.refl V.heap.size V).drew.size _
                  have hxtwA : Below V.drew.heap.size V.drew wA := by rw [hwA]; exact (Below.refl _ _).alloc (Nat.le_refl _) _
                  have hkwA : Bk wA V.drew.heap.size #[.slice none 0 0, .int .u8 0, .int .i64 0, .int .i64 0, .int .i64 0] 38 := by rw [hwA]; exact Bk.new V.drew _ _
                  refine value_ (v := .pointer (some ⟨V.drew.heap.size, 0, none⟩)) (w1 := wA) (by rfl) rfl ?_ ?_
                  · rw [hwA]
                    go_simp
                  clear hwA
                  refine hK.out _ _ (HCS.out _ hbA) (fun hHeld => ?_)
                  clear hK K
                  refine norm_ (a' := ?_) ?_ ?_
                  rotate_left
                  · show Act.put _ (some 8) _ = _
                    simp only [Act.put, sa_, sb_, sc_]
                    rfl
                  refine one_ (i := 11) (N := (some 9)) (bz 14 4095) rfl rfl (by kernel_rfl) (by decide) (fun K hK => ?_)
                  obtain ⟨wB, hwB⟩ : ∃ Z, Z = wA.alloc (.cells #[.slice none 0 0, .int .u8 0, .int .i64 0, .int .i64 0, .int .i64 0] 38) := ⟨_, rfl⟩
                  have hbB : Below V.heap.size V wB := by rw [hwB]; exact hbA.alloc hbA.size _
                  have hxtwB : Below wA.heap.size wA wB := by rw [hwB]; exact (Below.refl _ _).alloc (Nat.le_refl _) _
                  have hkwB : Bk wB wA.heap.size #[.slice none 0 0, .int .u8 0, .int .i64 0, .int .i64 0, .int .i64 0] 38 := by rw [hwB]; exact Bk.new wA _ _
                  refine value_ (v := .pointer (some ⟨wA.heap.size, 0, none⟩)) (w1 := wB) (by rfl) rfl ?_ ?_
                  · rw [hwB]
                    go_simp
                  clear hwB
                  refine hK.out _ _ (HCS.out _ hbB) (fun hHeld => ?_)
                  clear hK K
                  refine norm_ (a' := ?_) ?_ ?_
                  rotate_left
                  · show Act.put _ (some 9) _ = _
                    simp only [Act.put, sa_, sb_, sc_]
                    rfl
                  refine norm_ (by simp only [putAll, Act.put, List.setIfInBounds_toArray, List.set_cons_zero, List.set_cons_succ]) (HC (V.drew.heap.size, wA.heap.size) _ ⟨hbB, hkwA.mono hxtwB, hkwB, Nat.le_refl _, hbA.size, Nat.ne_of_lt hkwA.lt⟩)
                · obtain ⟨wA, hwA⟩ : ∃ Z, Z = V.drew.alloc (.cells #[.slice none 0 0, .int .u8 0, .int .i64 0, .int .i64 0, .int .i64 0] 38) := ⟨_, rfl⟩
                  have hbA : Below V.heap.size V wA := by rw [hwA]; exact (Below.refl V.heap.size V).drew.alloc (Below.refl V.heap.size V).drew.size _
                  have hxtwA : Below V.drew.heap.size V.drew wA := by rw [hwA]; exact (Below.refl _ _).alloc (Nat.le_refl _) _
                  have hkwA : Bk wA V.drew.heap.size #[.slice none 0 0, .int .u8 0, .int .i64 0, .int .i64 0, .int .i64 0] 38 := by rw [hwA]; exact Bk.new V.drew _ _
                  refine value_ (v := .pointer (some ⟨V.drew.heap.size, 0, none⟩)) (w1 := wA) (by rfl) rfl ?_ ?_
                  · rw [hwA]
                    go_simp
                  clear hwA
                  refine hK.out _ _ (HCS.out _ hbA) (fun hHeld => ?_)
                  clear hK K
                  refine norm_ (a' := ?_) ?_ ?_
                  rotate_left
                  · show Act.put _ (some 9) _ = _
                    simp only [Act.put, sa_, sb_, sc_]
                    rfl
                  refine one_ (i := 10) (N := (some 8)) (bz 14 4095) rfl rfl (by kernel_rfl) (by decide) (fun K hK => ?_)
                  obtain ⟨wB, hwB⟩ : ∃ Z, Z = wA.alloc (.cells #[.slice none 0 0, .int .u8 0, .int .i64 0, .int .i64 0, .int .i64 0] 38) := ⟨_, rfl⟩
                  have hbB : Below V.heap.size V wB := by rw [hwB]; exact hbA.alloc hbA.size _
                  have hxtwB : Below wA.heap.size wA wB := by rw [hwB]; exact (Below.refl _ _).alloc (Nat.le_refl _) _
                  have hkwB : Bk wB wA.heap.size #[.slice none 0 0, .int .u8 0, .int .i64 0, .int .i64 0, .int .i64 0] 38 := by rw [hwB]; exact Bk.new wA _ _
                  refine value_ (v := .pointer (some ⟨wA.heap.size, 0, none⟩)) (w1 := wB) (by rfl) rfl ?_ ?_
                  · rw [hwB]
                    go_simp
                  clear hwB
                  refine hK.out _ _ (HCS.out _ hbB) (fun hHeld => ?_)
                  clear hK K
                  refine norm_ (a' := ?_) ?_ ?_
                  rotate_left
                  · show Act.put _ (some 8) _ = _
                    simp only [Act.put, sa_, sb_, sc_]
                    rfl
                  refine norm_ (by simp only [putAll, Act.put, List.setIfInBounds_toArray, List.set_cons_zero, List.set_cons_succ]) (HC (wA.heap.size, V.drew.heap.size) _ ⟨hbB, hkwB, hkwA.mono hxtwB, hbA.size, Nat.le_refl _, (Nat.ne_of_lt hkwA.lt).symm⟩)
              rintro ⟨ga, gb⟩ w8 ⟨hb8, hxa, hxb, hga, hgb, hgn⟩
              refine norm_ (a' := ?_) ?_ ?_
              rotate_left
              · simp only [putAll, Act.put, List.setIfInBounds_toArray, List.set_cons_zero, List.set_cons_succ]
                rfl
              simp only at hxa hxb hga hgb hgn
              have CXA := hxa.cell
              have FXA := hxa.free
              have CXB := hxb.cell
              have FXB := hxb.free
              refine one_ (i := 12) (N := none) (bz 14 8191) rfl rfl (by kernel_rfl) (by decide) (fun K hK => ?_)
              refine skip_ (w1 := ?_) (by rfl) rfl ?_ ?_
              rotate_left
              · go_simp
                rfl
              obtain ⟨w9, hw9⟩ : ∃ z, z = ((((w8.setCell ⟨ga, 0, none⟩ (.slice O bk.ops.length oc)).setCell ⟨ga, 1, none⟩ (.int .u8 bk.e)).setCell ⟨ga, 2, none⟩ (.int .i64 bk.a)).setCell ⟨ga, 3, none⟩ (.int .i64 bk.go)).setCell ⟨ga, 4, none⟩ (.int .i64 bk.els) := ⟨_, rfl⟩
              rw [← hw9]
              have hxa9 : Bk w9 ga #[.slice O bk.ops.length oc, .int .u8 bk.e, .int .i64 bk.a, .int .i64 bk.go, .int .i64 bk.els] 38 := by rw [hw9]; exact store5 hxa rfl _ _ _ _ _
              have hxb9 : Bk w9 gb #[.slice none 0 0, .int .u8 0, .int .i64 0, .int .i64 0, .int .i64 0] 38 := by rw [hw9]; exact other5 hxb (fun e => hgn e.symm) _ _ _ _ _
              have hb9 : Below V.heap.size V w9 := by rw [hw9]; exact below5 hb8 hga _ _ _ _ _
              clear hw9 CXA FXA CXB FXB hxa hxb hb8
              have CXA := hxa9.cell
              have CXB := hxb9.cell
              have FXB := hxb9.free
              refine hK.out _ _ (HCS.out _ hb9) (fun hHeld => ?_)
              clear hK K
              refine last_ (i := 13) (N := none) (bz 14 16383) rfl rfl (by kernel_rfl) (by decide) (fun K hK => ?_)
              refine skip_ (w1 := ?_) (by rfl) rfl ?_ ?_
              rotate_left
              · go_simp
                rfl
              refine hK.out _ _ ?_
              clear hK K
              obtain ⟨w10, hw10⟩ : ∃ z, z = ((((w9.setCell ⟨gb, 0, none⟩ (.slice O' bk.ops.length oc')).setCell ⟨gb, 1, none⟩ (.int .u8 bk.e)).setCell ⟨gb, 2, none⟩ (.int .i64 bk.a)).setCell ⟨gb, 3, none⟩ (.int .i64 bk.go)).setCell ⟨gb, 4, none⟩ (.int .i64 bk.els) := ⟨_, rfl⟩
              rw [← hw10]
              have hxb10 : Bk w10 gb #[.slice O' bk.ops.length oc', .int .u8 bk.e, .int .i64 bk.a, .int .i64 bk.go, .int .i64 bk.els] 38 := by rw [hw10]; exact store5 hxb9 rfl _ _ _ _ _
              have hxa10 : Bk w10 ga #[.slice O bk.ops.length oc, .int .u8 bk.e, .int .i64 bk.a, .int .i64 bk.go, .int .i64 bk.els] 38 := by rw [hw10]; exact other5 hxa9 hgn _ _ _ _ _
              have hb10 : Below V.heap.size V w10 := by rw [hw10]; exact below5 hb9 hgb _ _ _ _ _
              clear hw10 CXA CXB FXB hxa9 hxb9 hb9
              refine done_ (by kernel_rfl) ?_
              clear HCS CP CQ g0 g1 g2 g3 g4 h0 h1 h2 h3 h4 hHeld
              have CXA := hxa10.cell
              have CXB := hxb10.cell
              have hbx := bt hb3 hb10
              have hbwx := bt hbw3 hb10
              have hO1 := hO.mono hb10
              have hO2 := hO'.mono hb10
              clear hO hO' hb10 BP3 BQ3 hb3 hbw3
              go_wp2_with fail
              go_loopw [10] (fun s wr => ∃ j : Nat, j ≤ bk.ops.length ∧ s = .int .i64 j ∧ Below w10.heap.size w10 wr) (fun s _ => bk.ops.length - (intOf s).toNat)
              case atStart => exact ⟨0, Nat.zero_le _, rfl, Below.refl _ _⟩
              case round =>
                obtain ⟨j, hj, rfl, hby⟩ := hrel
                have hxa := hxa10.mono hby
                have hxb := hxb10.mono hby
                clear CXA CXB
                have CXA := hxa.cell
                have CXB := hxb.cell
                by_cases hlt2 : j < bk.ops.length
                · obtain ⟨p1, q1, rfl, g0, g1, g2, g3, g4, g5⟩ := kOp_at (hO1.mono hby) j hlt2
                  obtain ⟨p2, q2, rfl, h0, h1, h2, h3, h4, h5⟩ := kOp_at (hO2.mono hby) j hlt2
                  obtain ⟨x, hx'⟩ : ∃ x, x = bk.ops[j] := ⟨_, rfl⟩
                  rw [← hx'] at g0 g1 g2 g3 g4 g5 h0 h1 h2 h3 h4 h5
                  clear hx'
                  go_wp2_with fail
                  go_quiet (fail)
                  go_wp2_with fail
                  go_roundw
                  case rel => exact ⟨j + 1, by omega, by go_num, bt hby (drewN_below _ _)⟩
                  case measure => simp [intOf]; omega
                · go_wp2_with fail
                  go_roundw
                  case rel => exact ⟨k + 1, by omega, by go_num, bt hbx hby⟩
                  case measure => simp [intOf]; omega
            · go_wp2_with fail
              go_ret
              exact ⟨rfl, hbw3⟩
end Go.Proofs.YtoabiignjkcdmaaGreat
