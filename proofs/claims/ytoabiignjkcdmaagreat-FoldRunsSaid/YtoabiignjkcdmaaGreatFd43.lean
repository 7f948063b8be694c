/-
  Lemmas (texts FoldK3 FoldQ FoldZ), each proved without a condition beyond its own hypotheses.
-/
import Derived.Test.YtoabiignjkcdmaaGreatFd42
import Derived.Test.YtoabiignjkcdmaaGreatFd38
import Derived.Test.YtoabiignjkcdmaaGreatFd25
import Derived.Test.YtoabiignjkcdmaaGreatFd23
namespace Go.Proofs.YtoabiignjkcdmaaGreat
open Go.RowKit Go.Lib Go.Shelf Go.Maps
set_option linter.unusedVariables false
set_option linter.unusedSimpArgs false

theorem bare_step (l : List SOp) (k : Nat) (h : k < l.length) : bareP (l.take k).reverse (l.drop k) = (!((l[k].k == 3 && knownP (l.take k).reverse l[k].a && knownP (l.take k).reverse l[k].b) || idleP l[k] (l.drop (k + 1))) && bareP (l.take (k + 1)).reverse (l.drop (k + 1))) := by
  rw [List.drop_eq_getElem_cons h, List.take_succ_eq_append_getElem h, List.reverse_append]
  rfl
set_option maxRecDepth 100000 in
set_option maxHeartbeats 4000000 in
theorem bare_c (b : SBlock) (O : Option Addr) (c : Nat) (w : World) (hO : kOp.Row w O b.ops) (hlen : b.ops.length ≤ 100000) (hops : ∀ o ∈ b.ops, 1 ≤ o.k ∧ o.k ≤ 13) :
    Calls Tryz.prog 17 #[.agg (blkC5 (.slice O b.ops.length c) b.e b.a b.go b.els)] w fun e w' => e = .returned (.bool (bareP [] b.ops)) ∧ Below w.heap.size w w' := by
  have B1 := Bk.new w (blkC5 (.slice O b.ops.length c) b.e b.a b.go b.els) 38
  have hb1 : Below w.heap.size w (w.alloc (.cells (blkC5 (.slice O b.ops.length c) b.e b.a b.go b.els) 38)) := (Below.refl _ _).alloc (Nat.le_refl _) _
  go_enter Tryz.func17, Tryz.ntmps17
  go_upto_region 2 with (fail)
  generalize w.alloc (.cells (blkC5 (.slice O b.ops.length c) b.e b.a b.go b.els) 38) = w1 at B1 hb1 ⊢
  have hO1 := hO.mono hb1
  go_loopw [3] (fun s W => ∃ k : Nat, s = .int .i64 k ∧ k ≤ b.ops.length ∧ bareP (b.ops.take k).reverse (b.ops.drop k) = bareP [] b.ops ∧ Below w1.heap.size w1 W) (fun s _ => b.ops.length - (intOf s).toNat)
  case atStart => exact ⟨0, rfl, Nat.zero_le _, rfl, Below.refl _ _⟩
  case round =>
    obtain ⟨k, rfl, hk, hba, hW⟩ := hrel
    have CB := (B1.mono hW).cell
    by_cases hj : k < b.ops.length
    · have HOP := Lib.hid (kOp_at (hO1.mono hW) k hj)
      obtain ⟨bb, bo, rfl, g0, g1, g2, g3, g4, g5⟩ := kOp_at (hO1.mono hW) k hj
      rw [bare_step b.ops k hj] at hba
      have HKN := Lib.hid (fun v W2 (h : Below w1.heap.size w1 W2) => known_c b (some ⟨bb, bo, none⟩) c k v W2 (hO1.mono h) hlen hops hk)
      have HIL := Lib.hid (fun W2 (h : Below w1.heap.size w1 W2) => idle_c b (some ⟨bb, bo, none⟩) c k W2 (hO1.mono h) hlen hops hj)
      obtain ⟨o, ho⟩ : ∃ o, b.ops[k] = o := ⟨_, rfl⟩
      rw [ho] at g0 g1 g2 g3 g4 g5 hba HIL
      clear HOP ho
      have HBA := Lib.hid hba
      clear hba
      go_upto_region 5 with (fail)
      have X2 := Bk.new wr #[.int .u8 o.k, .int .u8 o.fn, .int .i64 o.d, .int .i64 o.a, .int .i64 o.b, .int .u64 o.imm] 54
      have hb2 : Below wr.heap.size wr (wr.alloc (.cells #[.int .u8 o.k, .int .u8 o.fn, .int .i64 o.d, .int .i64 o.a, .int .i64 o.b, .int .u64 o.imm] 54)) := (Below.refl _ _).alloc (Nat.le_refl _) _
      generalize wr.alloc (.cells #[.int .u8 o.k, .int .u8 o.fn, .int .i64 o.d, .int .i64 o.a, .int .i64 o.b, .int .u64 o.imm] 54) = w2 at X2 hb2 ⊢
      obtain ⟨q2, hq2⟩ : ∃ q2, q2 = wr.heap.size := ⟨_, rfl⟩
      rw [← hq2] at X2 ⊢
      have hW2 := bt hW hb2
      clear hq2 CB g0 g1 g2 g3 g4 g5 hW hb2
      have hcur : Below w2.heap.size w2 w2 := Below.refl _ _
      have CB := (B1.mono hW2).cell
      have CX := X2.cell
      obtain ⟨ka, hka⟩ : ∃ x, knownP (b.ops.take k).reverse o.a = x := ⟨_, rfl⟩
      obtain ⟨kb, hkb⟩ : ∃ x, knownP (b.ops.take k).reverse o.b = x := ⟨_, rfl⟩
      obtain ⟨il, hil⟩ : ∃ x, idleP o (b.ops.drop (k + 1)) = x := ⟨_, rfl⟩
      have HKA := Lib.hid hka
      have HKB := Lib.hid hkb
      have HL := Lib.hid hil
      have HA := Lib.hid (fun W2 (h : Below w2.heap.size w2 W2) => by have := HKN.out o.a W2 (bt hW2 h); rw [hka] at this; exact this)
      have HB := Lib.hid (fun W2 (h : Below w2.heap.size w2 W2) => by have := HKN.out o.b W2 (bt hW2 h); rw [hkb] at this; exact this)
      have HI := Lib.hid (fun W2 (h : Below w2.heap.size w2 W2) => by have := HIL.out W2 (bt hW2 h); rw [hil] at this; exact this)
      clear hka hkb hil HKN HIL
      cases e3 : (o.k == 3) with
      | false =>
        cases il with
        | true =>
          go_wp2_with (first | (go_at_call 38; (refine (HI.out _ hcur).mono ?_; rintro e Wi ⟨rfl, hWi⟩; replace hcur := bt hcur hWi; have CXWi := (X2.mono hcur).cell; have CBWi := (B1.mono (bt hW2 hcur)).cell; clear HI)))
          go_ret
          refine ⟨?_, bt hb1 (bt hW2 hcur)⟩
          show Ending.returned (.bool false) = _
          have := HBA.out
          rw [e3, HL.out] at this
          rw [← this]
          first | rfl | simp
        | false =>
          go_wp2_with (first | (go_at_call 38; (refine (HI.out _ hcur).mono ?_; rintro e Wi ⟨rfl, hWi⟩; replace hcur := bt hcur hWi; have CXWi := (X2.mono hcur).cell; have CBWi := (B1.mono (bt hW2 hcur)).cell; clear HI)))
          go_roundw
          case rel => exact ⟨k + 1, by go_num, by omega, by have := HBA.out; rw [e3, HL.out] at this; simpa using this, bt hW2 hcur⟩
          case measure => simp [intOf]; omega
      | true =>
        cases ka with
        | false =>
          cases il with
          | true =>
            go_wp2_with (first | (go_at_call 37; (refine (HA.out _ hcur).mono ?_; rintro e Wa ⟨rfl, hWa⟩; replace hcur := bt hcur hWa; have CXWa := (X2.mono hcur).cell; have CBWa := (B1.mono (bt hW2 hcur)).cell; clear HA)) | (go_at_call 38; (refine (HI.out _ hcur).mono ?_; rintro e Wi ⟨rfl, hWi⟩; replace hcur := bt hcur hWi; have CXWi := (X2.mono hcur).cell; have CBWi := (B1.mono (bt hW2 hcur)).cell; clear HI)))
            go_ret
            refine ⟨?_, bt hb1 (bt hW2 hcur)⟩
            show Ending.returned (.bool false) = _
            have := HBA.out
            rw [e3, HKA.out, HL.out] at this
            rw [← this]
            first | rfl | simp
          | false =>
            go_wp2_with (first | (go_at_call 37; (refine (HA.out _ hcur).mono ?_; rintro e Wa ⟨rfl, hWa⟩; replace hcur := bt hcur hWa; have CXWa := (X2.mono hcur).cell; have CBWa := (B1.mono (bt hW2 hcur)).cell; clear HA)) | (go_at_call 38; (refine (HI.out _ hcur).mono ?_; rintro e Wi ⟨rfl, hWi⟩; replace hcur := bt hcur hWi; have CXWi := (X2.mono hcur).cell; have CBWi := (B1.mono (bt hW2 hcur)).cell; clear HI)))
            go_roundw
            case rel => exact ⟨k + 1, by go_num, by omega, by have := HBA.out; rw [e3, HKA.out, HL.out] at this; simpa using this, bt hW2 hcur⟩
            case measure => simp [intOf]; omega
        | true =>
          cases kb with
          | false =>
            cases il with
            | true =>
              go_wp2_with (first | (go_at_call 37; first | (refine (HA.out _ hcur).mono ?_; rintro e Wa ⟨rfl, hWa⟩; replace hcur := bt hcur hWa; have CXWa := (X2.mono hcur).cell; have CBWa := (B1.mono (bt hW2 hcur)).cell; clear HA) | (refine (HB.out _ hcur).mono ?_; rintro e Wb ⟨rfl, hWb⟩; replace hcur := bt hcur hWb; have CXWb := (X2.mono hcur).cell; have CBWb := (B1.mono (bt hW2 hcur)).cell; clear HB)) | (go_at_call 38; (refine (HI.out _ hcur).mono ?_; rintro e Wi ⟨rfl, hWi⟩; replace hcur := bt hcur hWi; have CXWi := (X2.mono hcur).cell; have CBWi := (B1.mono (bt hW2 hcur)).cell; clear HI)))
              go_ret
              refine ⟨?_, bt hb1 (bt hW2 hcur)⟩
              show Ending.returned (.bool false) = _
              have := HBA.out
              rw [e3, HKA.out, HKB.out, HL.out] at this
              rw [← this]
              first | rfl | simp
            | false =>
              go_wp2_with (first | (go_at_call 37; first | (refine (HA.out _ hcur).mono ?_; rintro e Wa ⟨rfl, hWa⟩; replace hcur := bt hcur hWa; have CXWa := (X2.mono hcur).cell; have CBWa := (B1.mono (bt hW2 hcur)).cell; clear HA) | (refine (HB.out _ hcur).mono ?_; rintro e Wb ⟨rfl, hWb⟩; replace hcur := bt hcur hWb; have CXWb := (X2.mono hcur).cell; have CBWb := (B1.mono (bt hW2 hcur)).cell; clear HB)) | (go_at_call 38; (refine (HI.out _ hcur).mono ?_; rintro e Wi ⟨rfl, hWi⟩; replace hcur := bt hcur hWi; have CXWi := (X2.mono hcur).cell; have CBWi := (B1.mono (bt hW2 hcur)).cell; clear HI)))
              go_roundw
              case rel => exact ⟨k + 1, by go_num, by omega, by have := HBA.out; rw [e3, HKA.out, HKB.out, HL.out] at this; simpa using this, bt hW2 hcur⟩
              case measure => simp [intOf]; omega
          | true =>
            go_wp2_with (first | (go_at_call 37; first | (refine (HA.out _ hcur).mono ?_; rintro e Wa ⟨rfl, hWa⟩; replace hcur := bt hcur hWa; have CXWa := (X2.mono hcur).cell; have CBWa := (B1.mono (bt hW2 hcur)).cell; clear HA) | (refine (HB.out _ hcur).mono ?_; rintro e Wb ⟨rfl, hWb⟩; replace hcur := bt hcur hWb; have CXWb := (X2.mono hcur).cell; have CBWb := (B1.mono (bt hW2 hcur)).cell; clear HB)))
            go_ret
            refine ⟨?_, bt hb1 (bt hW2 hcur)⟩
            show Ending.returned (.bool false) = _
            have := HBA.out
            rw [e3, HKA.out, HKB.out] at this
            rw [← this]
            first | rfl | simp
    · have hke : k = b.ops.length := by omega
      have HBA := Lib.hid hba
      clear hba
      go_wp2_with fail
      go_ret
      refine ⟨?_, bt hb1 hW⟩
      show Ending.returned (.bool true) = _
      have := HBA.out
      rw [hke, List.drop_length] at this
      rw [← this]
      rfl
end Go.Proofs.YtoabiignjkcdmaaGreat

namespace Go.Proofs.YtoabiignjkcdmaaGreat
open Go.RowKit
set_option linter.unusedVariables false
set_option linter.unusedSimpArgs false

def ImmOk (o : SOp) : Prop := (0 ≤ o.imm ∧ o.imm < 18446744073709551616) ∧ 0 ≤ o.fn ∧ o.fn < 256
def NumsIn (f : Fx) : Prop := ∀ v x, f.nums v = some x → 0 ≤ x ∧ x < 18446744073709551616
theorem immOk_const {d x : Int} (h : 0 ≤ x ∧ x < 18446744073709551616) : ImmOk (constOp d x) := ⟨h, Int.le_refl _, by show (0 : Int) < 256; decide⟩
theorem foldO_imm {f : Fx} {o : SOp} (hf : NumsIn f) (ho : ImmOk o) : ImmOk (foldO f o) := by
  have h1 : ImmOk (fold1 f o) := ho
  unfold foldO fold2
  split
  · split
    · rename_i x hx; exact immOk_const (hf _ _ hx)
    · exact h1
  · split
    · split
      · rename_i x y hx hy
        exact immOk_const (aluP_range _ _ _ (hf _ _ hx).1 (hf _ _ hx).2 (hf _ _ hy).1 (hf _ _ hy).2)
      · exact h1
    · exact h1
theorem numsIn_set {f : Fx} (hf : NumsIn f) (d : Int) : NumsIn (f.set d) := fun v x h => by
  simp only [Fx.set] at h
  split at h
  · cases h
  · exact hf v x h
theorem foldF_numsIn {f : Fx} {o : SOp} (hf : NumsIn f) (ho : ImmOk o) : NumsIn (foldF f o) := by
  unfold foldF
  split
  · exact hf
  · split
    · intro v x h
      simp only [Fx.num] at h
      split at h
      · cases h; exact ho.1
      · exact numsIn_set hf o.d v x h
    · split
      · split
        · exact numsIn_set hf o.d
        · exact fun v x h => numsIn_set hf o.d v x h
      · exact numsIn_set hf o.d
theorem forwardL_imm : ∀ (l : List SOp) (f : Fx), NumsIn f → (∀ o ∈ l, ImmOk o) → ∀ o ∈ (forwardL f l).1, ImmOk o
  | [], f, hf, h, o, ho => by cases ho
  | x :: l, f, hf, h, o, ho => by
    have hx := foldO_imm hf (h x (List.mem_cons_self ..))
    have e : (forwardL f (x :: l)).1 = foldO f x :: (forwardL (foldF f (foldO f x)) l).1 := rfl
    rw [e] at ho
    rcases List.mem_cons.1 ho with rfl | ho
    · exact hx
    · exact forwardL_imm l _ (foldF_numsIn hf hx) (fun o ho => h o (List.mem_cons_of_mem _ ho)) o ho
theorem fold_imm {p : SIr} (ins : Int → Want) (h : ∀ b ∈ p.blk, ∀ o ∈ b.ops, ImmOk o) : ∀ b ∈ (foldS p ins).blk, ∀ o ∈ b.ops, ImmOk o := by
  intro b hb o ho
  have hb' : b ∈ (p.blk.map forwardS).map (cutB ins) := hb
  obtain ⟨b1, hb1, rfl⟩ := List.mem_map.1 hb'
  obtain ⟨b2, hb2, rfl⟩ := List.mem_map.1 hb1
  have ho1 : o ∈ (forwardS b2).ops := (backL_sub _ _).subset ho
  exact forwardL_imm b2.ops .z (fun v x h => by cases h) (h b2 hb2) o ho1
theorem fold_opslen {p : SIr} (ins : Int → Want) {n : Nat} (h : ∀ b ∈ p.blk, b.ops.length ≤ n) : ∀ b ∈ (foldS p ins).blk, b.ops.length ≤ n := by
  intro b hb
  have hb' : b ∈ (p.blk.map forwardS).map (cutB ins) := hb
  obtain ⟨b1, hb1, rfl⟩ := List.mem_map.1 hb'
  obtain ⟨b2, hb2, rfl⟩ := List.mem_map.1 hb1
  refine Nat.le_trans (backL_sub _ _).length_le ?_
  have e : (forwardS b2).ops.length = b2.ops.length := forwardL_length _ _
  rw [e]
  exact h b2 hb2
theorem opW_of {p : SIr} {o : SOp} (h : opS p o = true) (hi : ImmOk o) : OpW p.sec.length o := by
  obtain ⟨hk, hv, ht⟩ := opS_parts h
  obtain ⟨v1, v2, v3, v4⟩ := opV_parts hv
  obtain ⟨k1, k2, -⟩ := kf_asks' hk
  refine ⟨opIn_of h, fun ha => ?_, fun hb => ?_, hi.1, fun e => ?_⟩
  · have : kf o.k 2 = false := by
      cases hc : kf o.k 2 with
      | false => rfl
      | true => have := k1.1 hc; omega
    rw [this] at v2
    simpa [varB] using v2
  · have : kf o.k 3 = false := by
      cases hc : kf o.k 3 with
      | false => rfl
      | true => have := k2.1 hc; omega
    rw [this] at v3
    simpa [varB] using v3
  · unfold opT at ht
    simp only [Bool.and_eq_true, Bool.not_eq_true'] at ht
    have h1 := ht.1.1
    unfold opE at h1
    rw [e] at h1
    simp at h1
    omega
theorem foldOk_of {p : SIr} (hs : p.sec.length ≤ 100000) (hp : p.par.length ≤ 1000) (ho : ∀ b ∈ p.blk, b.ops.length ≤ 100000) (hb : p.blk.length ≤ 100000) (hi : ∀ b ∈ p.blk, ∀ o ∈ b.ops, ImmOk o) : FoldOk p := by
  refine ⟨hs, hp, ho, hb, fun hc b hbm o hom => ?_⟩
  have h1 : blockS p b = true := by
    unfold checkS at hc
    simp only [Bool.and_eq_true, List.all_eq_true] at hc
    exact hc.2 b hbm
  unfold blockS at h1
  rw [Bool.and_eq_true, List.all_eq_true] at h1
  exact opW_of (h1.2 o hom) (hi b hbm o hom)
theorem FoldOk.fold {p : SIr} (h : FoldOk p) (ins : Int → Want) (hi : ∀ b ∈ p.blk, ∀ o ∈ b.ops, ImmOk o) : FoldOk (foldS p ins) :=
  foldOk_of h.sec h.par (fold_opslen ins h.ops) (by rw [foldS_len]; exact h.blk) (fold_imm ins hi)
theorem RunOk.fold {p : SIr} {inp : SIn} (h : RunOk p inp) (ins : Int → Want) : RunOk (foldS p ins) inp :=
  ⟨h.par, fold_opslen ins h.ops, fold_imm ins h.opw, h.nl, h.bl, h.bz, h.nr⟩
end Go.Proofs.YtoabiignjkcdmaaGreat

namespace Go.Proofs.YtoabiignjkcdmaaGreat
open Go.RowKit
set_option linter.unusedVariables false
set_option linter.unusedSimpArgs false

def sumAlu (fn : Int) : SOp := ⟨3, fn, 0, 0, 1, 0⟩
def sumTail (fn : Int) (l : List Int) : List SOp := l.flatMap fun x => [constOp 1 x, sumAlu fn]
def sumB (fn : Int) (l : List Int) : SBlock := ⟨constOp 0 0 :: sumTail fn l, 3, 0, 0, 0⟩
def sumP (fn : Int) (l : List Int) : SIr := ⟨[false, false], [], [sumB fn l]⟩
theorem sumTail_cons (fn x : Int) (l : List Int) : sumTail fn (x :: l) = constOp 1 x :: sumAlu fn :: sumTail fn l := rfl
theorem sumTail_length (fn : Int) : ∀ l : List Int, (sumTail fn l).length = 2 * l.length
  | [] => rfl
  | x :: l => by rw [sumTail_cons, List.length_cons, List.length_cons, sumTail_length fn l, List.length_cons]; omega
/-- Steps that only set variables: they end. -/
theorem calm_ops : ∀ (l : List SOp) (m : SM), (∀ o ∈ l, o.k = 1 ∨ o.k = 3) → (l.length : Int) ≤ m.fuel - m.steps →
    ∃ m', opsS l m = .go m' ∧ m'.steps = m.steps + l.length ∧ m'.fuel = m.fuel ∧ m'.en = m.en
  | [], m, _, _ => ⟨m, rfl, by simp, rfl, rfl⟩
  | o :: l, m, h, hf => by
    have hk := h o (List.mem_cons_self ..)
    rw [List.length_cons] at hf
    have hc : costS m o = 1 := by
      unfold costS
      rw [if_neg (by omega), if_neg (by omega)]
    have hp : payS m 1 = .go { m with steps := m.steps + 1 } := by
      unfold payS
      rw [if_neg (by omega)]
    have hs : ∃ m1, stepS m o = .go m1 ∧ m1.steps = m.steps + 1 ∧ m1.fuel = m.fuel ∧ m1.en = m.en := by
      unfold stepS
      rw [hc, hp]
      show ∃ m1, opM { m with steps := m.steps + 1 } o = .go m1 ∧ _
      rcases hk with hk | hk
      · exact ⟨_, opM_1 _ hk, rfl, rfl, rfl⟩
      · exact ⟨_, opM_3 _ hk, rfl, rfl, rfl⟩
    obtain ⟨m1, e1, e2, e3, e4⟩ := hs
    obtain ⟨m2, g1, g2, g3, g4⟩ := calm_ops l m1 (fun o' ho' => h o' (List.mem_cons_of_mem _ ho')) (by rw [e2, e3]; omega)
    refine ⟨m2, ?_, by rw [g2, e2, List.length_cons]; omega, by rw [g3, e3], by rw [g4, e4]⟩
    show (stepS m o).bind (opsS l) = _
    rw [e1]
    exact g1
theorem sumTail_k (fn : Int) (l : List Int) : ∀ o ∈ sumTail fn l, o.k = 1 ∨ o.k = 3 := by
  intro o ho
  obtain ⟨x, hx, ho⟩ := List.mem_flatMap.1 ho
  rcases List.mem_cons.1 ho with rfl | ho
  · exact .inl rfl
  · rcases List.mem_singleton.1 ho with rfl
    exact .inr rfl
def inZ : SIn := ⟨[], []⟩
/-- A run of one block of steps that only set variables, and an end. -/
theorem calm_run {p : SIr} {b : SBlock} (hc : checkS p = true) (hp : p.par = []) (hb : p.blk = [b]) (h : ∀ o ∈ b.ops, o.k = 1 ∨ o.k = 3) (he : b.e = 3) (hl : b.ops.length ≤ 900) :
    (runS p inZ 0 1000).2 = 0 ∧ (runS p inZ 0 1000).1.en = 3 ∧ (runS p inZ 0 1000).1.steps = b.ops.length + 1 := by
  have hm : mayRun p inZ 0 1000 = true := by
    unfold mayRun fitsS
    rw [hc, hp]
    decide
  have hbeg : beginS p inZ 0 1000 = mZ p 0 1000 := by unfold beginS; rw [hp]; rfl
  obtain ⟨m', e1, e2, e3, e4⟩ := calm_ops b.ops (mZ p 0 1000) h (by show (b.ops.length : Int) ≤ 1000 - 0; omega)
  have e2' : m'.steps = 0 + b.ops.length := e2
  have e3' : m'.fuel = 1000 := e3
  unfold runS
  rw [hm, if_pos rfl, hbeg]
  have hg : goesS p ((1000 : Int).toNat + 2) 0 (mZ p 0 1000) = (0, { m' with steps := m'.steps + 1, en := 3, ret := if 0 ≤ b.a then m'.get b.a else m'.ret }) := by
    show goesS p (1001 + 1) 0 (mZ p 0 1000) = _
    unfold goesS
    rw [hb]
    show (match (opsS b.ops (mZ p 0 1000)).bind fun m => payS m 1 with | .over e m => (e, m) | .go m => match endM b m with | .inl a2 => goesS p 1001 a2 m | .inr r => r) = _
    rw [e1]
    show (match payS m' 1 with | .over e m => (e, m) | .go m => match endM b m with | .inl a2 => goesS p 1001 a2 m | .inr r => r) = _
    have hpay : payS m' 1 = .go { m' with steps := m'.steps + 1 } := by
      unfold payS
      rw [if_neg (by omega)]
    rw [hpay]
    show (match endM b { m' with steps := m'.steps + 1 } with | .inl a2 => goesS p 1001 a2 _ | .inr r => r) = _
    unfold endM
    rw [if_neg (by omega), if_neg (by omega), if_neg (by omega)]
    rfl
  rw [hg]
  unfold endS'
  rw [if_pos rfl]
  exact ⟨rfl, rfl, by show m'.steps + 1 = _; omega⟩

/-! ### What it is folded to -/
theorem foldO_const (f : Fx) (d x : Int) : foldO f (constOp d x) = constOp d x := by simp [foldO, fold1, fold2, constOp, askN]
theorem foldF_constOp (f : Fx) (d x : Int) : foldF f (constOp d x) = (f.set d).num d x := by simp [foldF, constOp, setsB]
structure SumF (f : Fx) : Prop where
  same : ∀ v, f.same v = none
  zero : ∃ y, f.nums 0 = some y
theorem set_same {f : Fx} (h : ∀ v, f.same v = none) (d : Int) (v : Int) : (f.set d).same v = none := by
  unfold Fx.set
  simp only [h]
  split <;> simp
theorem fold_alu {f : Fx} (h : ∀ v, f.same v = none) (fn y x : Int) (h0 : f.nums 0 = some y) (h1 : f.nums 1 = some x) : foldO f (sumAlu fn) = constOp 0 (aluP fn y x) := by
  have e : fold1 f (sumAlu fn) = sumAlu fn := by simp [fold1, sumAlu, askN, Fx.of, h]
  unfold foldO
  rw [e]
  simp [fold2, sumAlu, h0, h1]
theorem sum_forward (fn : Int) : ∀ (l : List Int) (f : Fx), SumF f → (∀ o ∈ (forwardL f (sumTail fn l)).1, ∃ d x, o = constOp d x) ∧ SumF (forwardL f (sumTail fn l)).2
  | [], f, h => ⟨(fun _ h => by cases h), h⟩
  | x :: l, f, h => by
    obtain ⟨y, hy⟩ := h.zero
    have s1 : ∀ v, ((f.set 1).num 1 x).same v = none := fun v => set_same h.same 1 v
    have n0 : ((f.set 1).num 1 x).nums 0 = some y := by simp [Fx.num, Fx.set, hy]
    have n1 : ((f.set 1).num 1 x).nums 1 = some x := by simp [Fx.num]
    have ea := fold_alu s1 fn y x n0 n1
    have hf : SumF ((((f.set 1).num 1 x).set 0).num 0 (aluP fn y x)) := ⟨fun v => set_same s1 0 v, ⟨aluP fn y x, by simp [Fx.num]⟩⟩
    obtain ⟨g1, g2⟩ := sum_forward fn l _ hf
    have e : forwardL f (sumTail fn (x :: l)) = (constOp 1 x :: constOp 0 (aluP fn y x) :: (forwardL ((((f.set 1).num 1 x).set 0).num 0 (aluP fn y x)) (sumTail fn l)).1, (forwardL ((((f.set 1).num 1 x).set 0).num 0 (aluP fn y x)) (sumTail fn l)).2) := by
      rw [sumTail_cons]
      simp only [forwardL, foldO_const, foldF_constOp, ea]
    rw [e]
    refine ⟨fun o ho => ?_, g2⟩
    rcases List.mem_cons.1 ho with rfl | ho
    · exact ⟨_, _, rfl⟩
    · rcases List.mem_cons.1 ho with rfl | ho
      · exact ⟨_, _, rfl⟩
      · exact g1 o ho
theorem back_const : ∀ (F : List SOp) (w : Want), (∀ o ∈ F, ∃ d x, o = constOp d x) → (∀ v, w v = true → v = 0) →
    (∀ v, (backL F w).2 v = true → v = 0) ∧ (backL F w).1.length + (if (backL F w).2 0 = true then 1 else 0) ≤ 1
  | [], w, _, hw => ⟨hw, by show 0 + _ ≤ 1; split <;> omega⟩
  | o :: F, w, h, hw => by
    obtain ⟨h1, h2⟩ := back_const F w (fun o' ho' => h o' (List.mem_cons_of_mem _ ho')) hw
    obtain ⟨d, x, rfl⟩ := h o (List.mem_cons_self ..)
    unfold backL
    cases hs : stays (backL F w).2 (constOp d x) with
    | false => rw [if_neg (by decide)]; exact ⟨h1, h2⟩
    | true =>
      rw [if_pos rfl]
      have hd : (backL F w).2 d = true := by
        unfold stays at hs
        have : worksB (constOp d x).k = false := rfl
        rw [this, Bool.false_or, Bool.and_eq_true] at hs
        exact hs.1
      have hd0 := h1 d hd
      subst hd0
      have hb : ∀ v, backW (backL F w).2 (constOp 0 x) v = true → False := by
        intro v hv
        rw [backW_iff] at hv
        rcases hv with hv | hv
        · exact hv.2 rfl (h1 v hv.1)
        · have : asksL (constOp 0 x) = [] := by simp [asksL, constOp, askN]
          rw [this] at hv; cases hv
      refine ⟨fun v hv => (hb v hv).elim, ?_⟩
      show (constOp 0 x :: (backL F w).1).length + (if backW (backL F w).2 (constOp 0 x) 0 = true then 1 else 0) ≤ 1
      rw [hd, if_pos rfl] at h2
      rw [if_neg (fun e => (hb 0 e).elim), List.length_cons]
      omega
theorem sum_block (fn : Int) (l : List Int) (ins : Int → Want) : (cutB ins (forwardS (sumB fn l))).ops.length ≤ 1 ∧ (∀ o ∈ (cutB ins (forwardS (sumB fn l))).ops, o.k = 1 ∨ o.k = 3) ∧ (cutB ins (forwardS (sumB fn l))).e = 3 := by
  have s0 : ∀ v, ((Fx.z.set 0).num 0 0).same v = none := fun v => set_same (fun _ => rfl) 0 v
  have e : forwardL .z (sumB fn l).ops = (constOp 0 0 :: (forwardL ((Fx.z.set 0).num 0 0) (sumTail fn l)).1, (forwardL ((Fx.z.set 0).num 0 0) (sumTail fn l)).2) := by
    show forwardL .z (constOp 0 0 :: sumTail fn l) = _
    simp only [forwardL, foldO_const, foldF_constOp]
  obtain ⟨g1, g2⟩ := sum_forward fn l _ ⟨s0, ⟨0, by simp [Fx.num]⟩⟩
  generalize forwardL ((Fx.z.set 0).num 0 0) (sumTail fn l) = F at e g1 g2
  have hops : (forwardS (sumB fn l)).ops = constOp 0 0 :: F.1 := by unfold forwardS; rw [e]
  have ha : (forwardS (sumB fn l)).a = 0 := by
    unfold forwardS
    rw [e]
    show (if (3 : Int) = 2 ∨ (3 : Int) = 3 ∧ (0 : Int) ≤ 0 then F.2.of 0 else 0) = 0
    rw [if_pos (by decide)]
    unfold Fx.of
    rw [g2.same]; rfl
  have hall : ∀ o ∈ (forwardS (sumB fn l)).ops, ∃ d x, o = constOp d x := by
    rw [hops]
    intro o ho
    rcases List.mem_cons.1 ho with rfl | ho
    · exact ⟨_, _, rfl⟩
    · exact g1 o ho
  have hw : ∀ v, endW (forwardS (sumB fn l)) (behindW (forwardS (sumB fn l)) ins) v = true → v = 0 := by
    intro v hv
    rw [endW_iff] at hv
    rcases hv with hv | hv
    · have : behindW (forwardS (sumB fn l)) ins v = false := by
        unfold behindW
        have c : (forwardS (sumB fn l)).e = 3 := rfl
        rw [c, if_neg (by decide), if_neg (by decide)]
      rw [this] at hv; cases hv
    · rw [hv.2, ha]
  obtain ⟨q1, q2⟩ := back_const _ _ hall hw
  refine ⟨?_, fun o ho => ?_, rfl⟩
  · show (backL _ _).1.length ≤ 1
    omega
  · obtain ⟨d, x, rfl⟩ := hall o ((backL_sub _ _).subset ho)
    exact .inl rfl
theorem sum_check (fn : Int) (l : List Int) (h1 : 1 ≤ fn) (h2 : fn ≤ 14) (hl : l.length ≤ 50) : checkS (sumP fn l) = true := by
  have hs : sumOps (sumP fn l).blk = 2 * l.length + 1 := by
    show ([sumB fn l].map fun b => b.ops.length).sum = _
    simp [sumB, sumTail_length]
  have hc : ∀ d x : Int, d = 0 ∨ d = 1 → opS (sumP fn l) (constOp d x) = true := by
    intro d x hd
    refine constOp_opS ?_
    show 0 ≤ d ∧ d < 2
    omega
  have ha : opS (sumP fn l) (sumAlu fn) = true := by
    refine opS_mk (o := sumAlu fn) ⟨show (1 : Int) ≤ 3 by decide, show (3 : Int) ≤ 13 by decide⟩ (show opV 2 3 0 0 1 0 = false from rfl) ?_
    have e1 : secS (sumP fn l) 0 = false := rfl
    have e2 : secS (sumP fn l) 1 = false := rfl
    show opT 3 fn (kf 3 2 && secS (sumP fn l) 0) (kf 3 3 && secS (sumP fn l) 1) (kf 3 1 && secS (sumP fn l) 0) = true
    rw [e1, e2]
    have h : fn = 1 ∨ fn = 2 ∨ fn = 3 ∨ fn = 4 ∨ fn = 5 ∨ fn = 6 ∨ fn = 7 ∨ fn = 8 ∨ fn = 9 ∨ fn = 10 ∨ fn = 11 ∨ fn = 12 ∨ fn = 13 ∨ fn = 14 := by omega
    rcases h with rfl | rfl | rfl | rfl | rfl | rfl | rfl | rfl | rfl | rfl | rfl | rfl | rfl | rfl <;> rfl
  unfold checkS
  rw [Bool.and_eq_true, Bool.and_eq_true]
  refine ⟨⟨rfl, ?_⟩, ?_⟩
  · rw [decide_eq_true_eq, hs]; omega
  · show [sumB fn l].all (blockS (sumP fn l)) = true
    rw [List.all_cons, List.all_nil, Bool.and_true]
    unfold blockS
    rw [Bool.and_eq_true]
    refine ⟨rfl, List.all_eq_true.2 fun o ho => ?_⟩
    have ho : o ∈ constOp 0 0 :: sumTail fn l := ho
    rcases List.mem_cons.1 ho with rfl | ho
    · exact hc 0 0 (.inl rfl)
    · obtain ⟨x, hx, ho⟩ := List.mem_flatMap.1 ho
      rcases List.mem_cons.1 ho with rfl | ho
      · exact hc 1 x (.inr rfl)
      · rcases List.mem_singleton.1 ho with rfl
        exact ha
/-- THE LAW, plainly. -/
theorem fold_sums (fn : Int) (l : List Int) (h1 : 1 ≤ fn) (h2 : fn ≤ 14) (hl : l.length ≤ 50) (ins : Int → Want) (hfix : FixedW (forwardP (sumP fn l)).blk ins) :
    (runS (sumP fn l) inZ 0 1000).2 = 0 ∧ (runS (foldS (sumP fn l) ins) inZ 0 1000).2 = 0 ∧ (foldS (sumP fn l) ins).blk.length = 1 ∧ (cutB ins (forwardS (sumB fn l))).ops.length ≤ 1 ∧
      (runS (sumP fn l) inZ 0 1000).1.ret = (runS (foldS (sumP fn l) ins) inZ 0 1000).1.ret ∧ (runS (foldS (sumP fn l) ins) inZ 0 1000).1.steps ≤ 2 := by
  have hc := sum_check fn l h1 h2 hl
  obtain ⟨b1, b2, b3⟩ := sum_block fn l ins
  obtain ⟨r1, r2, r3⟩ := calm_run (p := sumP fn l) (b := sumB fn l) hc rfl rfl (fun o ho => by
    have ho : o ∈ constOp 0 0 :: sumTail fn l := ho
    rcases List.mem_cons.1 ho with rfl | ho
    · exact .inl rfl
    · exact sumTail_k fn l o ho) rfl (by show (sumTail fn l).length + 1 ≤ 900; rw [sumTail_length]; omega)
  obtain ⟨q1, q2, q3⟩ := calm_run (p := foldS (sumP fn l) ins) (b := cutB ins (forwardS (sumB fn l))) (checkS_fold ins hc) rfl rfl b2 b3 (by omega)
  obtain ⟨s, e, -⟩ := fold_runs hc hfix inZ 0 1000 r1 (by rw [r2]; decide)
  refine ⟨r1, q1, rfl, b1, ?_, by rw [q3]; omega⟩
  rw [e]
end Go.Proofs.YtoabiignjkcdmaaGreat
