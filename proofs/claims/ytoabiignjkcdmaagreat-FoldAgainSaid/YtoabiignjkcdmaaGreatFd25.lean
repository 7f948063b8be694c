/-
  Lemmas (texts FoldG FoldH FoldM FoldN FoldX), each proved without a condition beyond its own hypotheses.
-/
import Derived.Test.YtoabiignjkcdmaaGreatFd24
namespace Go.Proofs.YtoabiignjkcdmaaGreat
open Go.RowKit
set_option linter.unusedVariables false
set_option linter.unusedSimpArgs false

/-- Does a block's end ask a variable? -/
def asksEnd (b : SBlock) : Bool := b.e == 2 || (b.e == 3 && decide (0 ≤ b.a))
def behindW (b : SBlock) (ins : Int → Want) : Want := fun k => if b.e = 2 then ins b.els k || ins b.go k else if b.e = 1 then ins b.go k else false
def endW (b : SBlock) (w : Want) : Want := if asksEnd b = true then w.add b.a else w
def backB (b : SBlock) (ins : Int → Want) : List SOp × Want := backL b.ops (endW b (behindW b ins))
def cutB (ins : Int → Want) (b : SBlock) : SBlock := { b with ops := (backB b ins).1 }
def cutS (p : SIr) (ins : Int → Want) : SIr := { p with blk := p.blk.map (cutB ins) }
/-- May a block be, for what a run looks at? -/
structure BlkOk (n nb : Nat) (b : SBlock) : Prop where
  ops : ∀ o ∈ b.ops, OpIn n o
  e : 1 ≤ b.e ∧ b.e ≤ 4
  a : asksEnd b = true → 0 ≤ b.a ∧ b.a < (n : Int)
  go : b.e = 1 ∨ b.e = 2 → 0 ≤ b.go ∧ b.go < (nb : Int)
  els : b.e = 2 → 0 ≤ b.els ∧ b.els < (nb : Int)
/-- What is asked ahead of each block is what is asked behind those that lead to it. -/
def FixedW (bs : List SBlock) (ins : Int → Want) : Prop := ∀ k (h : k < bs.length), ∀ x, (backB bs[k] ins).2 x = true → ins (k : Int) x = true
theorem endW_iff (b : SBlock) (w : Want) (k : Int) : endW b w k = true ↔ w k = true ∨ (asksEnd b = true ∧ k = b.a) := by
  unfold endW
  cases asksEnd b with
  | true =>
    simp only [if_true, Want.add, true_and]
    by_cases h : k = b.a
    · simp [h]
    · simp [h]
  | false => simp
/-- How a run ends, alike but for steps. -/
def RunsAlike (r r' : Int × SM) : Prop := r.1 = 0 → r.2.en ≠ 0 → ∃ v s, r' = (0, r.2.alt v s) ∧ s ≤ r.2.steps
theorem goes_sim {p : SIr} {n : Nat} {ins : Int → Want} (hok : ∀ b ∈ p.blk, BlkOk n p.blk.length b) (hfix : FixedW p.blk ins) : ∀ (N : Nat) (at' : Int) (m : SM) (v : List Int) (s : Int), (0 ≤ at' ∧ at' < (p.blk.length : Int)) → Ag (ins at') n m v s →
    RunsAlike (goesS p N at' m) (goesS (cutS p ins) N at' (m.alt v s))
  | 0, at', m, v, s, ha, h => by
    intro _ hen
    exact absurd h.en hen
  | N + 1, at', m, v, s, ha, h => by
    have hlt : at'.toNat < p.blk.length := by omega
    obtain ⟨b, hb⟩ : ∃ b, p.blk.getD at'.toNat blockZ = b := ⟨_, rfl⟩
    have hb' : p.blk[at'.toNat] = b := by rw [← hb]; simp [List.getD_eq_getElem?_getD, hlt]
    have hbc : (cutS p ins).blk.getD at'.toNat blockZ = cutB ins b := by
      unfold cutS
      simp [List.getD_eq_getElem?_getD, hlt, hb']
    have hB := hok b (by rw [← hb']; exact List.getElem_mem hlt)
    have hA : Ag (backB b ins).2 n m v s := by
      refine h.mono fun x hx => ?_
      have h1 := hfix at'.toNat hlt x (by rw [hb']; exact hx)
      rwa [show ((at'.toNat : Nat) : Int) = at' by omega] at h1
    have hs := ops_sim b.ops (endW b (behindW b ins)) m v s hB.ops hA
    unfold goesS
    rw [hb, hbc]
    show RunsAlike _ (match (opsS (backB b ins).1 (m.alt v s)).bind fun m => payS m 1 with | .over e m => (e, m) | .go m => match endM (cutB ins b) m with | .inl a2 => goesS (cutS p ins) N a2 m | .inr r => r)
    have hbb : (backL b.ops (endW b (behindW b ins))).1 = (backB b ins).1 := rfl
    rw [hbb] at hs
    cases hr : opsS b.ops m with
    | over e m1 =>
      rw [hr] at hs
      intro h0 h1
      obtain ⟨v', s', e1, e2⟩ := hs h0 h1
      rw [e1]
      have h0' : e = 0 := h0
      exact ⟨v', s', rfl, e2⟩
    | go m1 =>
      rw [hr] at hs
      obtain ⟨m1', e1, v1, s1, rfl, hA1⟩ := hs
      rw [e1]
      show RunsAlike (match payS m1 1 with | .over e m => (e, m) | .go m => match endM b m with | .inl a2 => goesS p N a2 m | .inr r => r) (match payS (m1.alt v1 s1) 1 with | .over e m => (e, m) | .go m => match endM (cutB ins b) m with | .inl a2 => goesS (cutS p ins) N a2 m | .inr r => r)
      have hp := payS_alt hA1 1
      cases hpe : payS m1 1 with
      | over e m2 =>
        rw [hpe] at hp
        intro h0 h1
        obtain ⟨v', s', e1, e2⟩ := hp h0 h1
        rw [e1]
        exact ⟨v', s', rfl, e2⟩
      | go m2 =>
        rw [hpe] at hp
        obtain ⟨m2', e2, s2, rfl, hA2⟩ := hp
        rw [e2]
        simp only
        have hga : asksEnd b = true → (m2.alt v1 s2).get b.a = m2.get b.a := fun e => hA2.g b.a (hB.a e) ((endW_iff _ _ _).2 (.inr ⟨e, rfl⟩))
        have hend : ∀ x, behindW b ins x = true → endW b (behindW b ins) x = true := fun x hx => (endW_iff _ _ _).2 (.inl hx)
        unfold endM
        have c1 : (cutB ins b).e = b.e := rfl
        have c2 : (cutB ins b).a = b.a := rfl
        have c3 : (cutB ins b).go = b.go := rfl
        have c4 : (cutB ins b).els = b.els := rfl
        rw [c1, c2, c3, c4]
        by_cases e1 : b.e = 1
        · rw [if_pos e1, if_pos e1]
          refine goes_sim hok hfix N _ _ _ _ (hB.go (.inl e1)) (hA2.mono fun x hx => hend x ?_)
          unfold behindW
          rw [if_neg (by omega), if_pos e1]; exact hx
        rw [if_neg e1, if_neg e1]
        by_cases e2 : b.e = 2
        · rw [if_pos e2, if_pos e2, hga (by simp [asksEnd, e2])]
          simp only
          by_cases hz : m2.get b.a = 0
          · rw [if_pos hz]
            refine goes_sim hok hfix N _ _ _ _ (hB.els e2) (hA2.mono fun x hx => hend x ?_)
            unfold behindW
            rw [if_pos e2, hx]; rfl
          · rw [if_neg hz]
            refine goes_sim hok hfix N _ _ _ _ (hB.go (.inr e2)) (hA2.mono fun x hx => hend x ?_)
            unfold behindW
            rw [if_pos e2, hx, Bool.or_true]
        rw [if_neg e2, if_neg e2]
        by_cases e4 : b.e = 4
        · rw [if_pos e4, if_pos e4]
          intro _ _
          exact ⟨v1, s2, rfl, hA2.s⟩
        rw [if_neg e4, if_neg e4]
        intro _ _
        refine ⟨v1, s2, ?_, hA2.s⟩
        have e3 : b.e = 3 := by have := hB.e; omega
        by_cases h0 : 0 ≤ b.a
        · rw [if_pos h0, if_pos h0, hga (by simp [asksEnd, e3, h0])]; rfl
        · rw [if_neg h0, if_neg h0]; rfl
end Go.Proofs.YtoabiignjkcdmaaGreat

namespace Go.Proofs.YtoabiignjkcdmaaGreat
open Go.RowKit
set_option linter.unusedVariables false
set_option linter.unusedSimpArgs false

def forwardP (p : SIr) : SIr := { p with blk := p.blk.map forwardS }
theorem forward_goes {p : SIr} {n : Nat} (hok : ∀ b ∈ p.blk, BlkOk n p.blk.length b) : ∀ (N : Nat) (at' : Int) (m : SM), m.v.length = n → (0 ≤ at' ∧ at' < (p.blk.length : Int)) → goesS (forwardP p) N at' m = goesS p N at' m
  | 0, at', m, h, ha => rfl
  | N + 1, at', m, h, ha => by
    have hlt : at'.toNat < p.blk.length := by omega
    obtain ⟨b, hb⟩ : ∃ b, p.blk.getD at'.toNat blockZ = b := ⟨_, rfl⟩
    have hb' : p.blk[at'.toNat] = b := by rw [← hb]; simp [List.getD_eq_getElem?_getD, hlt]
    have hbc : (forwardP p).blk.getD at'.toNat blockZ = forwardS b := by
      unfold forwardP
      simp [List.getD_eq_getElem?_getD, hlt, hb']
    have hB := hok b (by rw [← hb']; exact List.getElem_mem hlt)
    obtain ⟨h1, h2⟩ := forwardL_ops b.ops .z m (Fx.Valid.z h) hB.ops
    unfold goesS
    rw [hb, hbc]
    have e1 : opsS (forwardS b).ops m = opsS b.ops m := h1
    rw [e1]
    cases hr : opsS b.ops m with
    | over e m1 => rfl
    | go m1 =>
      have hv := h2 m1 hr
      show (match payS m1 1 with | .over e m => (e, m) | .go m => match endM (forwardS b) m with | .inl a2 => goesS (forwardP p) N a2 m | .inr r => r) = (match payS m1 1 with | .over e m => (e, m) | .go m => match endM b m with | .inl a2 => goesS p N a2 m | .inr r => r)
      cases hp : payS m1 1 with
      | over e m2 => rfl
      | go m2 =>
        simp only
        have hv2 := hv.v (payS_v hp)
        have hlen : m2.v.length = n := hv2.len
        have c1 : (forwardS b).e = b.e := rfl
        have c3 : (forwardS b).go = b.go := rfl
        have c4 : (forwardS b).els = b.els := rfl
        have hga : m2.get (forwardS b).a = m2.get b.a := by
          unfold forwardS
          simp only
          split
          · exact hv2.of _
          · rfl
        have hpos : b.e = 3 → (0 ≤ (forwardS b).a ↔ 0 ≤ b.a) := by
          intro e3
          unfold forwardS
          simp only
          by_cases h0 : 0 ≤ b.a
          · rw [if_pos (.inr ⟨e3, h0⟩)]
            have := hv2.of_in (hB.a (by simp [asksEnd, e3, h0]))
            exact ⟨fun _ => h0, fun _ => this.1⟩
          · rw [if_neg (by rintro (h | h); omega; exact h0 h.2)]
        unfold endM
        rw [c1, c3, c4, hga]
        by_cases e1 : b.e = 1
        · rw [if_pos e1, if_pos e1]
          exact forward_goes hok N _ _ hlen (hB.go (.inl e1))
        rw [if_neg e1, if_neg e1]
        by_cases e2 : b.e = 2
        · rw [if_pos e2, if_pos e2]
          simp only
          by_cases hz : m2.get b.a = 0
          · rw [if_pos hz]; exact forward_goes hok N _ _ hlen (hB.els e2)
          · rw [if_neg hz]; exact forward_goes hok N _ _ hlen (hB.go (.inr e2))
        rw [if_neg e2, if_neg e2]
        by_cases e4 : b.e = 4
        · rw [if_pos e4, if_pos e4]
        rw [if_neg e4, if_neg e4]
        have e3 : b.e = 3 := by have := hB.e; omega
        by_cases h0 : 0 ≤ b.a
        · rw [if_pos h0, if_pos ((hpos e3).2 h0)]
        · rw [if_neg h0, if_neg (fun h => h0 ((hpos e3).1 h))]

/-! ### What stays so -/
/-- What is the same as what may stand for it: as secret at least. -/
structure Fx.Rng (f : Fx) (sec : Int → Bool) (n : Nat) : Prop where
  same : ∀ k x, f.same k = some x → (0 ≤ x ∧ x < (n : Int)) ∧ (sec x = true → sec k = true)
theorem Fx.Rng.z {sec : Int → Bool} {n : Nat} : Fx.z.Rng sec n := ⟨fun _ _ h => by cases h⟩
theorem Fx.Rng.of {f : Fx} {sec : Int → Bool} {n : Nat} (h : f.Rng sec n) (v : Int) : (0 ≤ v ∧ v < (n : Int) → 0 ≤ f.of v ∧ f.of v < (n : Int)) ∧ (sec (f.of v) = true → sec v = true) := by
  unfold Fx.of
  cases e : f.same v with
  | none => exact ⟨id, id⟩
  | some x => exact ⟨fun _ => (h.same v x e).1, (h.same v x e).2⟩
theorem Fx.Rng.set {f : Fx} {sec : Int → Bool} {n : Nat} (h : f.Rng sec n) (d : Int) : (f.set d).Rng sec n where
  same := fun k x hk => by
    unfold Fx.set at hk
    simp only at hk
    split at hk
    · cases hk
    · split at hk
      · cases hk
      · exact h.same k x hk
theorem foldF_rng {f : Fx} {sec : Int → Bool} {n : Nat} (h : f.Rng sec n) {o : SOp} (h2 : o.k = 2 → (0 ≤ o.a ∧ o.a < (n : Int)) ∧ (sec o.a = true → sec o.d = true)) : (foldF f o).Rng sec n := by
  unfold foldF
  split
  · exact h
  · split
    · exact ⟨(h.set o.d).same⟩
    · split
      · rename_i e2
        split
        · exact h.set _
        · refine ⟨fun k x hk => ?_⟩
          unfold Fx.sam at hk
          simp only at hk
          split at hk
          · rename_i hkd
            cases hk
            subst hkd
            exact h2 e2
          · exact (h.set o.d).same k x hk
      · exact h.set _
end Go.Proofs.YtoabiignjkcdmaaGreat

namespace Go.Proofs.YtoabiignjkcdmaaGreat
open Go.RowKit
set_option linter.unusedVariables false
set_option linter.unusedSimpArgs false

theorem opT_mono {k fn : Int} {a b d a' b' : Bool} (h : opT k fn a b d = true) (ha : a' = true → a = true) (hb : b' = true → b = true) : opT k fn a' b' d = true := by
  cases a <;> cases a' <;> cases b <;> cases b' <;> first | exact h | (exact absurd (ha rfl) (by decide)) | (exact absurd (hb rfl) (by decide)) | skip
  all_goals
    revert h
    unfold opT opE
    generalize opG k fn = g
    generalize kf k 5 = f5
    generalize kf k 6 = f6
    generalize kf k 7 = f7
    generalize kf k 8 = f8
    generalize (k == 3) = k3
    generalize (k == 4) = k4
    generalize (k == 5) = k5
    generalize (fn == 1) = n1
    generalize (fn == 0) = n0
    generalize decide (fn < 1) = l1
    generalize decide (14 < fn) = l14
    generalize decide (13 ≤ fn) = l13
    revert g f5 f6 f7 f8 k3 k4 k5 n1 n0 l1 l14 l13 d
    decide
theorem kf_asks : ∀ k ∈ [(1:Int), 2, 3, 4, 5, 6, 7, 8, 9, 10, 11, 12, 13], (kf k 2 = true ↔ 0 < askN k) ∧ (kf k 3 = true ↔ 1 < askN k) ∧ (setsB k = true ↔ kf k 1 = true) := by decide
theorem kf_asks' {k : Int} (h : 1 ≤ k ∧ k ≤ 13) : (kf k 2 = true ↔ 0 < askN k) ∧ (kf k 3 = true ↔ 1 < askN k) ∧ (setsB k = true ↔ kf k 1 = true) :=
  kf_asks k (by simp only [List.mem_cons, List.not_mem_nil, or_false]; omega)
theorem opS_parts {p : SIr} {o : SOp} (h : opS p o = true) : (1 ≤ o.k ∧ o.k ≤ 13) ∧ opV p.sec.length o.k o.d o.a o.b o.imm = false ∧ opT o.k o.fn (kf o.k 2 && secS p o.a) (kf o.k 3 && secS p o.b) (kf o.k 1 && secS p o.d) = true := by
  unfold opS at h
  by_cases hk : o.k < 1 ∨ 13 < o.k
  · rw [if_pos hk] at h; cases h
  rw [if_neg hk] at h
  cases hv : opV p.sec.length o.k o.d o.a o.b o.imm with
  | true => rw [hv, if_pos rfl] at h; cases h
  | false => rw [hv, if_neg (by decide)] at h; exact ⟨by omega, rfl, h⟩
theorem opS_mk {p : SIr} {o : SOp} (hk : 1 ≤ o.k ∧ o.k ≤ 13) (hv : opV p.sec.length o.k o.d o.a o.b o.imm = false) (ht : opT o.k o.fn (kf o.k 2 && secS p o.a) (kf o.k 3 && secS p o.b) (kf o.k 1 && secS p o.d) = true) : opS p o = true := by
  unfold opS
  rw [if_neg (by omega), hv, if_neg (by decide)]
  exact ht
theorem opV_parts {n : Nat} {k d a b imm : Int} (h : opV n k d a b imm = false) : varB n d (kf k 1) = true ∧ varB n a (kf k 2) = true ∧ varB n b (kf k 3) = true ∧ (!kf k 4 && imm != 0) = false := by
  unfold opV at h
  simp only [Bool.or_eq_false_iff, Bool.not_eq_false'] at h
  exact ⟨h.1.1.1, h.1.1.2, h.1.2, h.2⟩
theorem opV_mk {n : Nat} {k d a b imm : Int} (h1 : varB n d (kf k 1) = true) (h2 : varB n a (kf k 2) = true) (h3 : varB n b (kf k 3) = true) (h4 : (!kf k 4 && imm != 0) = false) : opV n k d a b imm = false := by
  unfold opV
  rw [h1, h2, h3, h4]; rfl
theorem opIn_of {p : SIr} {o : SOp} (h : opS p o = true) : OpIn p.sec.length o := by
  obtain ⟨hk, hv, -⟩ := opS_parts h
  obtain ⟨v1, v2, v3, -⟩ := opV_parts hv
  obtain ⟨a1, a2, a3⟩ := kf_asks' hk
  exact ⟨hk.1, hk.2, fun e => varB_in (by rw [a3.1 e] at v1; exact v1), fun e => varB_in (by rw [a1.2 e] at v2; exact v2), fun e => varB_in (by rw [a2.2 e] at v3; exact v3)⟩
theorem varB_mk {n : Nat} {v : Int} (h : 0 ≤ v ∧ v < (n : Int)) : varB n v true = true := by simp [varB, h]
theorem fold1_opS {p : SIr} {f : Fx} (hf : f.Rng (secS p) p.sec.length) {o : SOp} (h : opS p o = true) : opS p (fold1 f o) = true := by
  obtain ⟨hk, hv, ht⟩ := opS_parts h
  obtain ⟨v1, v2, v3, v4⟩ := opV_parts hv
  obtain ⟨a1, a2, -⟩ := kf_asks' hk
  refine opS_mk hk (opV_mk v1 ?_ ?_ v4) (opT_mono ht ?_ ?_)
  · show varB p.sec.length (if 0 < askN o.k then f.of o.a else o.a) (kf o.k 2) = true
    by_cases e : 0 < askN o.k
    · rw [if_pos e, a1.2 e]
      rw [a1.2 e] at v2
      exact varB_mk ((hf.of o.a).1 (varB_in v2))
    · rw [if_neg e]; exact v2
  · show varB p.sec.length (if 1 < askN o.k then f.of o.b else o.b) (kf o.k 3) = true
    by_cases e : 1 < askN o.k
    · rw [if_pos e, a2.2 e]
      rw [a2.2 e] at v3
      exact varB_mk ((hf.of o.b).1 (varB_in v3))
    · rw [if_neg e]; exact v3
  · intro e
    rw [Bool.and_eq_true] at e ⊢
    refine ⟨e.1, ?_⟩
    have e2 : secS p (if 0 < askN o.k then f.of o.a else o.a) = true := e.2
    split at e2
    · exact (hf.of _).2 e2
    · exact e2
  · intro e
    rw [Bool.and_eq_true] at e ⊢
    refine ⟨e.1, ?_⟩
    have e2 : secS p (if 1 < askN o.k then f.of o.b else o.b) = true := e.2
    split at e2
    · exact (hf.of _).2 e2
    · exact e2
theorem constOp_opS {p : SIr} {d x : Int} (hd : 0 ≤ d ∧ d < (p.sec.length : Int)) : opS p (constOp d x) = true := by
  refine opS_mk (o := constOp d x) ⟨Int.le_refl 1, show (1 : Int) ≤ 13 by decide⟩ (opV_mk (varB_mk hd) rfl rfl rfl) ?_
  show opT 1 0 (false && _) (false && _) (true && secS p d) = true
  cases secS p d <;> rfl
theorem foldO_opS {p : SIr} {f : Fx} (hf : f.Rng (secS p) p.sec.length) {o : SOp} (h : opS p o = true) : opS p (foldO f o) = true := by
  have h1 := fold1_opS hf h
  have hi := opIn_of h1
  unfold foldO fold2
  split
  · rename_i e2
    split
    · exact constOp_opS (hi.d (by rw [e2]; rfl))
    · exact h1
  · split
    · rename_i e3
      split
      · exact constOp_opS (hi.d (by rw [e3]; rfl))
      · exact h1
    · exact h1
theorem move_flow {p : SIr} {o : SOp} (h : opS p o = true) (e : o.k = 2) : (0 ≤ o.a ∧ o.a < (p.sec.length : Int)) ∧ (secS p o.a = true → secS p o.d = true) := by
  refine ⟨(opIn_of h).a (by rw [e]; decide), fun ha => ?_⟩
  obtain ⟨-, -, ht⟩ := opS_parts h
  rw [e, ha] at ht
  cases hd : secS p o.d with
  | true => rfl
  | false =>
    rw [hd] at ht
    unfold opT at ht
    rw [show kf 2 7 = true from rfl, show kf 2 2 = true from rfl] at ht
    simp at ht
theorem forwardL_all {p : SIr} : ∀ (l : List SOp) (f : Fx), f.Rng (secS p) p.sec.length → (∀ o ∈ l, opS p o = true) → (∀ o ∈ (forwardL f l).1, opS p o = true) ∧ (forwardL f l).2.Rng (secS p) p.sec.length ∧ (forwardL f l).1.length = l.length
  | [], f, hf, _ => ⟨(fun _ h => by cases h), hf, rfl⟩
  | o :: l, f, hf, h => by
    have h1 := foldO_opS hf (h o (List.mem_cons_self ..))
    have hf2 : (foldF f (foldO f o)).Rng (secS p) p.sec.length := foldF_rng hf (fun e => move_flow h1 e)
    obtain ⟨g1, g2, g3⟩ := forwardL_all l _ hf2 (fun o' ho' => h o' (List.mem_cons_of_mem _ ho'))
    refine ⟨fun o' ho' => ?_, g2, congrArg (· + 1) g3⟩
    rcases List.mem_cons.1 ho' with rfl | ho'
    · exact h1
    · exact g1 o' ho'
theorem backL_sub : ∀ (l : List SOp) (w : Want), (backL l w).1.Sublist l
  | [], w => List.Sublist.refl _
  | o :: l, w => by
    unfold backL
    split
    · exact (backL_sub l w).cons_cons o
    · exact (backL_sub l w).cons o
theorem blkOk_of {p : SIr} {b : SBlock} (h : blockS p b = true) : BlkOk p.sec.length p.blk.length b := by
  unfold blockS at h
  rw [Bool.and_eq_true, List.all_eq_true] at h
  obtain ⟨he, ho⟩ := h
  have hops : ∀ o ∈ b.ops, OpIn p.sec.length o := fun o h => opIn_of (ho o h)
  unfold endS at he
  by_cases e1 : b.e = 1
  · rw [if_pos e1] at he
    simp only [blkB, Bool.and_eq_true, beq_iff_eq, decide_eq_true_eq] at he
    exact ⟨hops, by omega, (fun h => by simp [asksEnd, e1] at h), fun _ => he.1.2, fun h => by omega⟩
  rw [if_neg e1] at he
  by_cases e2 : b.e = 2
  · rw [if_pos e2] at he
    simp only [blkB, Bool.and_eq_true, decide_eq_true_eq] at he
    exact ⟨hops, by omega, fun _ => varB_in he.1.1.1, fun _ => he.1.2, fun _ => he.2⟩
  rw [if_neg e2] at he
  by_cases e3 : b.e = 3
  · rw [if_pos e3] at he
    simp only [Bool.and_eq_true, Bool.or_eq_true, beq_iff_eq] at he
    refine ⟨hops, by omega, fun h => ?_, fun h => by omega, fun h => by omega⟩
    have h0 : 0 ≤ b.a := by simpa [asksEnd, e3] using h
    rcases he.1.1 with h1 | h1
    · omega
    · exact varB_in h1
  rw [if_neg e3] at he
  by_cases e4 : b.e = 4
  · exact ⟨hops, by omega, (fun h => by simp [asksEnd, e4] at h), fun h => by omega, fun h => by omega⟩
  rw [if_neg e4] at he
  cases he
/-- A block that stands in a program that is as long, with the same variables. -/
theorem blockS_like {p q : SIr} (hs : q.sec = p.sec) (hl : q.blk.length = p.blk.length) (b : SBlock) : blockS q b = blockS p b := by
  unfold blockS endS
  have h1 : ∀ o, opS q o = opS p o := fun o => by unfold opS secS; rw [hs]
  have h2 : secS q b.a = secS p b.a := by unfold secS; rw [hs]
  rw [hs, hl, h2, funext h1]
theorem forwardS_block {p : SIr} {b : SBlock} (h : blockS p b = true) : blockS p (forwardS b) = true := by
  have h0 := h
  unfold blockS at h ⊢
  rw [Bool.and_eq_true, List.all_eq_true] at h ⊢
  obtain ⟨he, ho⟩ := h
  obtain ⟨g1, g2, g3⟩ := forwardL_all b.ops .z Fx.Rng.z ho
  refine ⟨?_, g1⟩
  have hB := blkOk_of h0
  unfold endS at he ⊢
  have c1 : (forwardS b).e = b.e := rfl
  have c3 : (forwardS b).go = b.go := rfl
  have c4 : (forwardS b).els = b.els := rfl
  rw [c1, c3, c4]
  by_cases e1 : b.e = 1
  · rw [if_pos e1] at he ⊢
    have : (forwardS b).a = b.a := by
      unfold forwardS
      simp only
      rw [if_neg (by omega)]
    rw [this]; exact he
  rw [if_neg e1] at he ⊢
  by_cases e2 : b.e = 2
  · rw [if_pos e2] at he ⊢
    have ea : (forwardS b).a = (forwardL .z b.ops).2.of b.a := by
      unfold forwardS
      simp only
      rw [if_pos (.inl e2)]
    simp only [Bool.and_eq_true, Bool.not_eq_true'] at he ⊢
    rw [ea]
    refine ⟨⟨⟨varB_mk ((g2.of _).1 (varB_in he.1.1.1)), ?_⟩, he.1.2⟩, he.2⟩
    cases hx : secS p ((forwardL Fx.z b.ops).2.of b.a) with
    | false => rfl
    | true => rw [(g2.of _).2 hx] at he; exact absurd he.1.1.2 (by decide)
  rw [if_neg e2] at he ⊢
  by_cases e3 : b.e = 3
  · rw [if_pos e3] at he ⊢
    by_cases h0 : 0 ≤ b.a
    · have ea : (forwardS b).a = (forwardL .z b.ops).2.of b.a := by
        unfold forwardS
        simp only
        rw [if_pos (.inr ⟨e3, h0⟩)]
      rw [ea]
      simp only [Bool.and_eq_true, Bool.or_eq_true] at he ⊢
      exact ⟨⟨.inr (varB_mk ((g2.of _).1 (hB.a (by simp [asksEnd, e3, h0])))), he.1.2⟩, he.2⟩
    · have ea : (forwardS b).a = b.a := by
        unfold forwardS
        simp only
        rw [if_neg (by rintro (h | h); omega; exact h0 h.2)]
      rw [ea]; exact he
  rw [if_neg e3] at he ⊢
  by_cases e4 : b.e = 4
  · rw [if_pos e4] at he ⊢
    have : (forwardS b).a = b.a := by
      unfold forwardS
      simp only
      rw [if_neg (by omega)]
    rw [this]; exact he
  rw [if_neg e4] at he
  cases he
theorem cutB_block {p : SIr} {ins : Int → Want} {b : SBlock} (h : blockS p b = true) : blockS p (cutB ins b) = true := by
  unfold blockS at h ⊢
  rw [Bool.and_eq_true, List.all_eq_true] at h ⊢
  exact ⟨h.1, fun o ho => h.2 o ((backL_sub _ _).subset ho)⟩
def foldS (p : SIr) (ins : Int → Want) : SIr := cutS (forwardP p) ins
theorem foldS_len (p : SIr) (ins : Int → Want) : (foldS p ins).blk.length = p.blk.length := by simp [foldS, cutS, forwardP]
theorem sum_fold (ins : Int → Want) : ∀ bs : List SBlock, sumOps ((bs.map forwardS).map (cutB ins)) ≤ sumOps bs
  | [] => Nat.le_refl _
  | b :: bs => by
    have h1 : ∀ (l : List SOp) (f : Fx), (forwardL f l).1.length = l.length := by
      intro l
      induction l with
      | nil => intro f; rfl
      | cons o l ih => intro f; exact congrArg (· + 1) (ih _)
    have h2 : (cutB ins (forwardS b)).ops.length ≤ b.ops.length := by
      have := (backL_sub (forwardS b).ops (endW (forwardS b) (behindW (forwardS b) ins))).length_le
      have e : (forwardS b).ops.length = b.ops.length := h1 b.ops .z
      rw [e] at this
      exact this
    have h3 := sum_fold ins bs
    have e1 : sumOps ((b :: bs).map forwardS |>.map (cutB ins)) = (cutB ins (forwardS b)).ops.length + sumOps ((bs.map forwardS).map (cutB ins)) := by simp [sumOps]
    have e2 : sumOps (b :: bs) = b.ops.length + sumOps bs := by simp [sumOps]
    omega
/-- What was folded may be. -/
theorem checkS_fold {p : SIr} (ins : Int → Want) (h : checkS p = true) : checkS (foldS p ins) = true := by
  unfold checkS at h ⊢
  rw [Bool.and_eq_true, Bool.and_eq_true, List.all_eq_true, decide_eq_true_eq] at h ⊢
  obtain ⟨⟨hh, hs⟩, hb⟩ := h
  refine ⟨⟨?_, Nat.le_trans (sum_fold ins p.blk) hs⟩, fun b hbm => ?_⟩
  · unfold headS at hh ⊢
    rw [foldS_len]
    exact hh
  · have hbm : b ∈ (p.blk.map forwardS).map (cutB ins) := hbm
    obtain ⟨b1, h1, rfl⟩ := List.mem_map.1 hbm
    obtain ⟨b2, h2, rfl⟩ := List.mem_map.1 h1
    rw [blockS_like (p := p) (q := foldS p ins) rfl (foldS_len p ins)]
    exact cutB_block (forwardS_block (hb b2 h2))
end Go.Proofs.YtoabiignjkcdmaaGreat

namespace Go.Proofs.YtoabiignjkcdmaaGreat
open Go.RowKit
set_option linter.unusedVariables false
set_option linter.unusedSimpArgs false

theorem layIn_vlen : ∀ (l : List SHanded) (ns : List Int) (bs : List ByteArray) (m : SM), (layIn l ns bs m).v.length = m.v.length ∧ (layIn l ns bs m).en = m.en
  | [], _, _, m => ⟨rfl, rfl⟩
  | h :: l, ns, bs, m => by
    unfold layIn
    split
    · have := layIn_vlen l ns bs.tail { m with handed := m.handed ++ [⟨bufBase + (m.handed.length : Int) * 65536, bytesI (bs.headD ⟨#[]⟩), h.sec, !h.mu⟩], v := (m.v.set h.d.toNat (bufBase + (m.handed.length : Int) * 65536)).set h.len.toNat ((bs.headD ⟨#[]⟩).size : Int) }
      exact ⟨this.1.trans (by simp), this.2⟩
    · have := layIn_vlen l ns.tail bs { m with v := m.v.set h.d.toNat (ns.headD 0) }
      exact ⟨this.1.trans (by simp), this.2⟩
theorem checkS_blk {p : SIr} (h : checkS p = true) : (∀ b ∈ p.blk, BlkOk p.sec.length p.blk.length b) ∧ 0 < p.blk.length := by
  unfold checkS headS at h
  simp only [Bool.and_eq_true, List.all_eq_true, decide_eq_true_eq] at h
  exact ⟨fun b hb => blkOk_of (h.2 b hb), by omega⟩
theorem alt_self (m : SM) : m.alt m.v m.steps = m := rfl
/-- What a run of a program that was folded comes to. -/
theorem fold_goes {p : SIr} {ins : Int → Want} (h : checkS p = true) (hfix : FixedW (forwardP p).blk ins) (inp : SIn) (arena fuel : Int) (N : Nat) : RunsAlike (goesS p N 0 (beginS p inp arena fuel)) (goesS (foldS p ins) N 0 (beginS p inp arena fuel)) := by
  obtain ⟨hok, hpos⟩ := checkS_blk h
  have hl := layIn_vlen p.par inp.nums inp.bufs (mZ p arena fuel)
  have hlen : (beginS p inp arena fuel).v.length = p.sec.length := hl.1.trans (by simp [mZ])
  have hen : (beginS p inp arena fuel).en = 0 := hl.2
  have e1 := forward_goes hok N 0 (beginS p inp arena fuel) hlen ⟨Int.le_refl 0, by omega⟩
  have hfl : (forwardP p).blk.length = p.blk.length := by simp [forwardP]
  have hall : ∀ b ∈ (forwardP p).blk, BlkOk p.sec.length (forwardP p).blk.length b := by
    intro b hb
    have hb : b ∈ p.blk.map forwardS := hb
    obtain ⟨b1, h1, rfl⟩ := List.mem_map.1 hb
    rw [hfl]
    have hb1 : blockS p b1 = true := by
      unfold checkS at h
      simp only [Bool.and_eq_true, List.all_eq_true] at h
      exact h.2 b1 h1
    exact blkOk_of (p := p) (forwardS_block hb1)
  have e2 := goes_sim hall hfix N 0 (beginS p inp arena fuel) (beginS p inp arena fuel).v (beginS p inp arena fuel).steps ⟨Int.le_refl 0, by rw [hfl]; omega⟩ ⟨hlen, hlen, fun _ _ _ => rfl, Int.le_refl _, hen⟩
  rw [alt_self, e1] at e2
  exact e2
/-- THE LAW: where a run of a program is not at fault, and ends, one of what it was folded to ends alike, in no more steps. -/
theorem fold_runs {p : SIr} {ins : Int → Want} (h : checkS p = true) (hfix : FixedW (forwardP p).blk ins) (inp : SIn) (arena fuel : Int) (h0 : (runS p inp arena fuel).2 = 0) (h1 : (runS p inp arena fuel).1.en ≠ 0) :
    ∃ s, runS (foldS p ins) inp arena fuel = ({ (runS p inp arena fuel).1 with steps := s }, 0) ∧ s ≤ (runS p inp arena fuel).1.steps := by
  have hm : mayRun (foldS p ins) inp arena fuel = mayRun p inp arena fuel := by
    unfold mayRun
    rw [checkS_fold ins h, h]
    rfl
  unfold runS at h0 h1 ⊢
  rw [hm]
  cases hmr : mayRun p inp arena fuel with
  | false => rw [hmr] at h0; cases h0
  | true =>
    rw [hmr, if_pos rfl] at h0 h1
    rw [if_pos rfl, if_pos rfl]
    have hg := fold_goes h hfix inp arena fuel (fuel.toNat + 2)
    have hb : beginS (foldS p ins) inp arena fuel = beginS p inp arena fuel := rfl
    rw [hb]
    generalize goesS p (fuel.toNat + 2) 0 (beginS p inp arena fuel) = r at *
    obtain ⟨e, m⟩ := r
    unfold endS' at h0 h1 ⊢
    by_cases he : e = 0
    · simp only [he, if_true] at h0 h1 ⊢
      obtain ⟨v, s, e2, hs⟩ := hg he h1
      rw [e2]
      exact ⟨s, rfl, hs⟩
    · simp only [he, if_false] at h0
end Go.Proofs.YtoabiignjkcdmaaGreat

namespace Go.Proofs.YtoabiignjkcdmaaGreat
open Go.RowKit
set_option linter.unusedVariables false
set_option linter.unusedSimpArgs false

theorem stays_mono {w w' : Want} (h : ∀ x, w x = true → w' x = true) {o : SOp} (hs : stays w o = true) : stays w' o = true := by
  unfold stays at hs ⊢
  rw [Bool.or_eq_true] at hs ⊢
  rcases hs with hs | hs
  · exact .inl hs
  · rw [Bool.and_eq_true] at hs ⊢
    exact .inr ⟨h _ hs.1, hs.2⟩
theorem backL_mono : ∀ (l : List SOp) (w w' : Want), (∀ x, w x = true → w' x = true) → ∀ x, (backL l w).2 x = true → (backL l w').2 x = true
  | [], w, w', h, x, hx => h x hx
  | o :: l, w, w', h, x, hx => by
    have ih := backL_mono l w w' h
    unfold backL at hx ⊢
    cases hs : stays (backL l w).2 o with
    | true =>
      rw [hs, if_pos rfl] at hx
      rw [stays_mono ih hs, if_pos rfl]
      have hx : backW (backL l w).2 o x = true := hx
      show backW (backL l w').2 o x = true
      rw [backW_iff] at hx ⊢
      rcases hx with hx | hx
      · exact .inl ⟨ih x hx.1, hx.2⟩
      · exact .inr hx
    | false =>
      rw [hs, if_neg (by decide)] at hx
      cases hs' : stays (backL l w').2 o with
      | false => rw [if_neg (by decide)]; exact ih x hx
      | true =>
        rw [if_pos rfl]
        show backW (backL l w').2 o x = true
        rw [backW_iff]
        refine .inl ⟨ih x hx, fun _ e => ?_⟩
        unfold stays at hs hs'
        rw [Bool.or_eq_false_iff] at hs
        rw [Bool.or_eq_true, hs.1] at hs'
        rcases hs' with h1 | h1
        · cases h1
        · rw [Bool.and_eq_true] at h1
          rw [h1.2, Bool.and_true] at hs
          rw [e, hs.2] at hx
          cases hx
theorem backB_mono {ins ins' : Int → Want} (h : ∀ k x, ins k x = true → ins' k x = true) (b : SBlock) : ∀ x, (backB b ins).2 x = true → (backB b ins').2 x = true := by
  refine backL_mono _ _ _ fun x hx => ?_
  rw [endW_iff] at hx ⊢
  rcases hx with hx | hx
  · left
    unfold behindW at hx ⊢
    split
    · rename_i e
      rw [if_pos e, Bool.or_eq_true] at hx
      rw [Bool.or_eq_true]
      exact hx.imp (h _ _) (h _ _)
    · rename_i e
      rw [if_neg e] at hx
      split
      · rename_i e1
        rw [if_pos e1] at hx
        exact h _ _ hx
      · rename_i e1
        rw [if_neg e1] at hx
        exact hx
  · exact .inr hx
/-- Wants that are variables. -/
def Want.In (w : Want) (n : Nat) : Prop := ∀ x, w x = true → 0 ≤ x ∧ x < (n : Int)
theorem backW_in {w : Want} {n : Nat} {o : SOp} (h : w.In n) (hi : OpIn n o) : (backW w o).In n := by
  intro x hx
  rw [backW_iff] at hx
  rcases hx with hx | hx
  · exact h x hx.1
  · unfold asksL at hx
    split at hx
    · rename_i e
      rcases List.mem_singleton.1 hx with rfl
      exact hi.a (by omega)
    · split at hx
      · rename_i e
        rcases List.mem_cons.1 hx with rfl | hx
        · exact hi.a (by omega)
        · rcases List.mem_singleton.1 hx with rfl
          exact hi.b (by omega)
      · cases hx
theorem backL_in {n : Nat} : ∀ (l : List SOp) (w : Want), (∀ o ∈ l, OpIn n o) → w.In n → (backL l w).2.In n
  | [], w, _, h => h
  | o :: l, w, hi, h => by
    have ih := backL_in l w (fun o' ho' => hi o' (List.mem_cons_of_mem _ ho')) h
    unfold backL
    split
    · exact backW_in ih (hi o (List.mem_cons_self ..))
    · exact ih
theorem backB_in {n nb : Nat} {b : SBlock} {ins : Int → Want} (hb : BlkOk n nb b) (h : ∀ k, (ins k).In n) : (backB b ins).2.In n := by
  refine backL_in _ _ hb.ops fun x hx => ?_
  rw [endW_iff] at hx
  rcases hx with hx | ⟨h1, rfl⟩
  · unfold behindW at hx
    split at hx
    · rw [Bool.or_eq_true] at hx
      exact hx.elim (h _ x) (h _ x)
    · split at hx
      · exact h _ x hx
      · cases hx
  · exact hb.a h1
/-- How many variables are wanted. -/
def Want.sz (w : Want) (n : Nat) : Nat := ((List.range n).filter fun (i : Nat) => w (i : Int)).length
theorem filter_le {α : Type} {p q : α → Bool} (h : ∀ x, p x = true → q x = true) : ∀ l : List α, (l.filter p).length ≤ (l.filter q).length ∧ ((l.filter p).length = (l.filter q).length → ∀ x ∈ l, q x = true → p x = true)
  | [] => ⟨Nat.le_refl _, fun _ _ h => by cases h⟩
  | y :: l => by
    obtain ⟨h1, h2⟩ := filter_le h l
    cases hp : p y with
    | true =>
      rw [List.filter_cons_of_pos hp, List.filter_cons_of_pos (h y hp), List.length_cons, List.length_cons]
      refine ⟨by omega, fun e x hx hq => ?_⟩
      rcases List.mem_cons.1 hx with rfl | hx
      · exact hp
      · exact h2 (by omega) x hx hq
    | false =>
      rw [List.filter_cons_of_neg (by simp [hp])]
      cases hq : q y with
      | true =>
        rw [List.filter_cons_of_pos hq, List.length_cons]
        exact ⟨by omega, fun e => by omega⟩
      | false =>
        rw [List.filter_cons_of_neg (by simp [hq])]
        refine ⟨h1, fun e x hx hqx => ?_⟩
        rcases List.mem_cons.1 hx with rfl | hx
        · rw [hq] at hqx; cases hqx
        · exact h2 e x hx hqx
theorem sz_le {w w' : Want} (h : ∀ x, w x = true → w' x = true) (n : Nat) : w.sz n ≤ w'.sz n := (filter_le (fun i hi => h _ hi) _).1
theorem sz_eq {w w' : Want} {n : Nat} (h : ∀ x, w x = true → w' x = true) (hi : w'.In n) (e : w.sz n = w'.sz n) : ∀ x, w' x = true → w x = true := by
  intro x hx
  obtain ⟨h0, h1⟩ := hi x hx
  have h2 := (filter_le (p := fun i : Nat => w (i : Int)) (q := fun i : Nat => w' (i : Int)) (fun i hi => h _ hi) (List.range n)).2 e x.toNat (List.mem_range.2 (by omega))
  have e2 : ((x.toNat : Nat) : Int) = x := by omega
  simp only [e2] at h2
  exact h2 hx
/-- What is asked ahead, reckoned so far. -/
structure SoFar (bs : List SBlock) (n : Nat) (ins : Int → Want) : Prop where
  i : ∀ k, (ins k).In n
  g : ∀ k (h : k < bs.length), ∀ x, ins (k : Int) x = true → (backB bs[k] ins).2 x = true
theorem SoFar.z (bs : List SBlock) (n : Nat) : SoFar bs n fun _ _ => false := ⟨(fun _ _ h => by cases h), (fun _ _ _ h => by cases h)⟩
def putW (ins : Int → Want) (k : Nat) (w : Want) : Int → Want := fun j => if j = (k : Int) then w else ins j
theorem SoFar.put {bs : List SBlock} {n nb : Nat} {ins : Int → Want} (h : SoFar bs n ins) (hok : ∀ b ∈ bs, BlkOk n nb b) {k : Nat} (hk : k < bs.length) : SoFar bs n (putW ins k (backB bs[k] ins).2) := by
  have hle : ∀ j x, ins j x = true → putW ins k (backB bs[k] ins).2 j x = true := by
    intro j x hx
    unfold putW
    split
    · rename_i e
      subst e
      exact h.g k hk x hx
    · exact hx
  refine ⟨fun j => ?_, fun j hj x hx => ?_⟩
  · unfold putW
    split
    · exact backB_in (hok _ (List.getElem_mem hk)) h.i
    · exact h.i j
  · unfold putW at hx
    split at hx
    · rename_i e
      have e : j = k := by omega
      subst e
      exact backB_mono hle _ x hx
    · exact backB_mono hle _ x (h.g j hj x hx)
/-- Where no size is another one, nothing is to be added. -/
theorem SoFar.fixed {bs : List SBlock} {n nb : Nat} {ins : Int → Want} (h : SoFar bs n ins) (hok : ∀ b ∈ bs, BlkOk n nb b) (he : ∀ k (hk : k < bs.length), (backB bs[k] ins).2.sz n = (ins (k : Int)).sz n) : FixedW bs ins :=
  fun k hk => sz_eq (h.g k hk) (backB_in (hok _ (List.getElem_mem hk)) h.i) (he k hk).symm
end Go.Proofs.YtoabiignjkcdmaaGreat
