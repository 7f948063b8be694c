/-
  What comes in, opened: data that can be read as a type says lie as the kinds of the walks say.
-/
import Derived.Test.YtoabiignjkcdmaaGreatRows
import Derived.Test.YtoabiignjkcdmaaGreatIrBase
import Derived.OpenShut
import Derived.ShutString
import Derived.ChangeOld
import Derived.Below
import Derived.SizedLaws
import Derived.Carry
import Derived.Deep.DeepHandedRow
import Derived.ProofKit
namespace Go.Proofs.YtoabiignjkcdmaaGreat
open Go.RowKit Go.ChangeShapes Go.WideShapes Go.ChangeAt
set_option linter.unusedVariables false
set_option linter.unusedSimpArgs false

/-- Data of a type lie as a kind says, and have a property. -/
def Opens {α : Type} (P : Program) (t : TypeId) (k : Kd α) (Q : α → Prop) : Prop :=
  ∀ {H : Type} (enc : TypeId × Value → H) (w : World) (sp : Nat → Bool) (fuel : Nat) (cs : List Value) (x : DataW H × List MemPlace),
    DataW.trod enc P w 0 sp true fuel t cs = some x → (∀ n ∈ x.1.weights P t, n ≤ reachBytes) → ∃ a, k.K w a cs ∧ Q a

section
variable {P : Program} {t e : TypeId}
theorem opens_int {K : IntKind} (f : Int → List Value) (hf : ∀ x, (f x).length = 1) (he : ∀ x, f x = [.int K x]) (ht : P.underlying t = some (.int K)) : Opens P t (Kd.flat 1 f hf) (fun x => (Lit.int K x).wf = true) := by
  intro H enc w sp fuel cs x h _
  obtain ⟨n, rfl, _, hw⟩ := DataW.trod_int ht h
  exact ⟨n, (he n).symm, hw⟩
theorem opens_bool (ht : P.underlying t = some .bool) : Opens P t kBool (fun _ => True) := by
  intro H enc w sp fuel cs x h _
  obtain ⟨b, rfl, _⟩ := DataW.trod_bool ht h
  exact ⟨b, rfl, trivial⟩
theorem opens_str (ht : P.underlying t = some .string) : Opens P t kStr (fun s => s.size ≤ reachBytes) := by
  intro H enc w sp fuel cs x h hw
  obtain ⟨s, rfl, rfl, _⟩ := DataW.trod_string ht h
  refine ⟨s, rfl, ?_⟩
  have := hw s.data.toList.length (by simp [DataW.weights])
  simpa using this
theorem weights_all {H : Type} {l : List (DataW H)} {d : DataW H} (hd : d ∈ l) : ∀ n ∈ d.weights P e, n ∈ DataW.weightsAll P e l := by
  induction l with
  | nil => cases hd
  | cons a r ih =>
    intro n hn
    rw [DataW.weightsAll, List.mem_append]
    rcases List.mem_cons.1 hd with rfl | h
    · exact .inl hn
    · exact .inr (ih h n hn)
theorem addr_add2 (b o i j : Nat) : ((⟨b, o, none⟩ : Addr).add i).add j = ⟨b, o + i + j, none⟩ := by
  simp only [Addr.add]
  split <;> split <;> simp_all
theorem spot_none {w : World} {a : Addr} {v : Value} (h : w.cell? a = some v) : a.spot = none := by
  unfold World.cell? at h
  split at h
  · split at h
    · cases h
    · rename_i hs; simpa using hs
  · cases h
theorem collect {α : Type} {R : Nat → α → Prop} : ∀ (n : Nat), (∀ i (hi : i < n), ∃ z, R i z) → ∃ L : List α, L.length = n ∧ ∀ i (hi : i < L.length), R i L[i]
  | 0, _ => ⟨[], rfl, fun i hi => absurd hi (by simp)⟩
  | m + 1, hex => by
    obtain ⟨L, h1, h2⟩ := collect m (fun i hi => hex i (by omega))
    obtain ⟨z, h3⟩ := hex m (by omega)
    refine ⟨L ++ [z], by simp [h1], fun i hi => ?_⟩
    by_cases he : i < L.length
    · rw [List.getElem_append_left he]; exact h2 i he
    · have : i = L.length := by simp at hi; omega
      subst this
      simp only [List.getElem_append_right (Nat.le_refl _), Nat.sub_self, List.getElem_cons_zero]
      rw [h1]; exact h3
theorem opens_slice {α : Type} {k : Kd α} {Q : α → Prop} (hsz : 0 < k.sz) (hk : Opens P e k Q) (ht : P.underlying t = some (.slice e)) (hs : P.cellsOf e = k.sz) :
    Opens P t k.slice (fun l => l.length * P.bytesOf e ≤ reachBytes ∧ ∀ a ∈ l, Q a) := by
  intro H enc w sp fuel cs x h hw
  rcases DataW.trod_slice ht h with ⟨rfl, rfl⟩ | ⟨a, len, cap, elems, rest, n, rfl, rfl, rfl, _, hl, hc, hel, hat, _, _⟩
  · exact ⟨[], ⟨none, 0, rfl, by unfold maxLen; simp, .inl rfl⟩, by simp, by simp⟩
  · have hwt : (elems.length + rest.length) * P.bytesOf e ≤ reachBytes := by
      have := hw ((elems.length + rest.length) * P.bytesOf e) (by simp [DataW.weights, ht])
      exact this
    have hwe : ∀ y ∈ elems, ∀ n ∈ y.1.weights P e, n ≤ reachBytes := fun y hy n hn => hw n (by
      simp only [DataW.weights, ht, List.mem_cons, List.mem_append]
      exact .inr (.inl (weights_all (List.mem_map_of_mem hy) n hn)))
    have hex : ∀ i (hi : i < len), ∃ z, (∃ ds, w.cells? 0 (a.add (i * P.cellsOf e)) (P.cellsOf e) = some ds ∧ k.K w z ds) ∧ Q z := by
      intro i hi
      have h1 := hat i hi
      rw [List.getElem?_eq_getElem (by omega), Option.bind_eq_some_iff] at h1
      obtain ⟨ds, h2, h3⟩ := h1
      obtain ⟨z, hz, hq⟩ := hk enc w sp n ds _ h3 (hwe _ (List.getElem_mem _))
      exact ⟨z, ⟨ds, h2, hz⟩, hq⟩
    obtain ⟨L, hLl, hL⟩ := collect len hex
    refine ⟨L, ⟨some a, cap, by rw [hLl], by omega, ?_⟩, ?_, ?_⟩
    · by_cases h0 : L = []
      · exact .inl h0
      · have hpos : 0 < L.length := List.length_pos_iff.2 h0
        right
        obtain ⟨ds0, h1, h2⟩ := (hL 0 hpos).1
        obtain ⟨_, h3, h4⟩ := World.cells?_some h1
        have h5 := h4 0 (by omega)
        rw [Nat.zero_mul] at h5
        have h6 : ((a.add 0).add 0) = a := by simp [Addr.add]
        rw [h6, List.getElem?_eq_getElem (by omega)] at h5
        have hsp := spot_none h5
        obtain ⟨b, o, s⟩ := a
        cases hsp
        refine ⟨b, o, rfl, fun i hi => ?_⟩
        obtain ⟨ds, g1, g2⟩ := (hL i hi).1
        obtain ⟨_, g3, g4⟩ := World.cells?_some g1
        refine ⟨ds, g2, fun j hj => ?_⟩
        have g5 := g4 j (by omega)
        rw [addr_add2, List.getElem?_eq_getElem hj] at g5
        rw [← hs]
        exact g5
    · have : L.length * P.bytesOf e ≤ (elems.length + rest.length) * P.bytesOf e := Nat.mul_le_mul_right _ (by omega)
      omega
    · intro b hb
      obtain ⟨i, hi, rfl⟩ := List.getElem_of_mem hb
      exact (hL i hi).2

/-- A struct's field, by its place. -/
theorem open_struct {H : Type} {enc : TypeId × Value → H} {w : World} {sp : Nat → Bool} {fs : Array Field} {fuel : Nat} {cs : List Value} {x : DataW H × List MemPlace} (ht : P.underlying t = some (.struct fs))
    (h : DataW.trod enc P w 0 sp true fuel t cs = some x) (hw : ∀ n ∈ x.1.weights P t, n ≤ reachBytes) :
    cs.length = P.cellsOf t ∧ ∃ n, ∀ (i : Nat) (f : Field), fs[i]? = some f → ∃ y, DataW.trod enc P w 0 sp true n f.type ((cs.drop f.offset).take (P.cellsOf f.type)) = some y ∧ ∀ n ∈ y.1.weights P f.type, n ≤ reachBytes := by
  obtain ⟨xs, n, rfl, rfl, hl, hx, hf⟩ := DataW.trod_struct ht h
  refine ⟨hl, n, fun i f hi => ?_⟩
  have h1 := hf i f hi
  have hi' : i < xs.length := by rw [hx]; exact (Array.getElem?_eq_some_iff.1 hi).1
  rw [List.getElem?_eq_getElem hi'] at h1
  refine ⟨_, h1, fun m hm => hw m ?_⟩
  simp only [DataW.weights, ht]
  exact DataW.weights_mem_each (j := i) (by simp [List.getElem?_map, hi]) (by simp [List.getElem?_map, List.getElem?_eq_getElem hi']) m hm
theorem fld {H : Type} {enc : TypeId × Value → H} {w : World} {sp : Nat → Bool} {fs : Array Field} {n : Nat} {cs : List Value}
    (hf : ∀ (i : Nat) (f : Field), fs[i]? = some f → ∃ y, DataW.trod enc P w 0 sp true n f.type ((cs.drop f.offset).take (P.cellsOf f.type)) = some y ∧ ∀ n ∈ y.1.weights P f.type, n ≤ reachBytes)
    (i : Nat) (f : Field) (hi : fs[i]? = some f) (ty off c : Nat) (h1 : f.type = ty) (h2 : f.offset = off) (h3 : P.cellsOf ty = c) :
    ∃ y, DataW.trod enc P w 0 sp true n ty ((cs.drop off).take c) = some y ∧ ∀ n ∈ y.1.weights P ty, n ≤ reachBytes := by
  subst h1; subst h2; subst h3
  exact hf i f hi
end

/-! ### This seat's types -/
theorem list6 {α : Type} {l : List α} (h : l.length = 6) : ∃ a b c d e f, l = [a, b, c, d, e, f] := by
  match l, h with
  | [a, b, c, d, e, f], _ => exact ⟨a, b, c, d, e, f, rfl⟩
theorem list5 {α : Type} {l : List α} (h : l.length = 5) : ∃ a b c d e, l = [a, b, c, d, e] := by
  match l, h with
  | [a, b, c, d, e], _ => exact ⟨a, b, c, d, e, rfl⟩
theorem list3 {α : Type} {l : List α} (h : l.length = 3) : ∃ a b c, l = [a, b, c] := by
  match l, h with
  | [a, b, c], _ => exact ⟨a, b, c, rfl⟩

theorem cellsOp : Tryz.prog.cellsOf 54 = 6 := by kernel_rfl
theorem cellsU8 : Tryz.prog.cellsOf 5 = 1 := by kernel_rfl
theorem cellsInt : Tryz.prog.cellsOf 3 = 1 := by kernel_rfl
theorem cellsU64 : Tryz.prog.cellsOf 46 = 1 := by kernel_rfl
theorem cellsBool : Tryz.prog.cellsOf 4 = 1 := by kernel_rfl

def SOp.wf (o : SOp) : Prop := (Lit.int .u8 o.k).wf = true ∧ (Lit.int .u8 o.fn).wf = true ∧ (Lit.int .i64 o.d).wf = true ∧ (Lit.int .i64 o.a).wf = true ∧ (Lit.int .i64 o.b).wf = true ∧ (Lit.int .u64 o.imm).wf = true

theorem opens_op : Opens Tryz.prog 54 kOp SOp.wf := by
  intro H enc w sp fuel cs x h hw
  obtain ⟨hl, n, hf⟩ := open_struct Tryz.underlying54 h hw
  obtain ⟨c0, c1, c2, c3, c4, c5, rfl⟩ := list6 (hl.trans cellsOp)
  obtain ⟨y0, h0, -⟩ := fld hf 0 _ rfl 5 0 1 rfl rfl cellsU8
  obtain ⟨y1, h1, -⟩ := fld hf 1 _ rfl 5 1 1 rfl rfl cellsU8
  obtain ⟨y2, h2, -⟩ := fld hf 2 _ rfl 3 2 1 rfl rfl cellsInt
  obtain ⟨y3, h3, -⟩ := fld hf 3 _ rfl 3 3 1 rfl rfl cellsInt
  obtain ⟨y4, h4, -⟩ := fld hf 4 _ rfl 3 4 1 rfl rfl cellsInt
  obtain ⟨y5, h5, -⟩ := fld hf 5 _ rfl 46 5 1 rfl rfl cellsU64
  simp only [List.drop_succ_cons, List.drop_zero, List.take_succ_cons, List.take_zero] at h0 h1 h2 h3 h4 h5
  obtain ⟨k, e0, -, w0⟩ := DataW.trod_int Tryz.underlying5 h0
  obtain ⟨fn, e1, -, w1⟩ := DataW.trod_int Tryz.underlying5 h1
  obtain ⟨d, e2, -, w2⟩ := DataW.trod_int Tryz.underlying3 h2
  obtain ⟨a, e3, -, w3⟩ := DataW.trod_int Tryz.underlying3 h3
  obtain ⟨b, e4, -, w4⟩ := DataW.trod_int Tryz.underlying3 h4
  obtain ⟨imm, e5, -, w5⟩ := DataW.trod_int Tryz.underlying46 h5
  simp only [List.cons.injEq, and_true] at e0 e1 e2 e3 e4 e5
  subst e0; subst e1; subst e2; subst e3; subst e4; subst e5
  exact ⟨⟨k, fn, d, a, b, imm⟩, rfl, w0, w1, w2, w3, w4, w5⟩

/-! ### The frame of a law's row -/
theorem trodAll_below {H : Type} {enc : TypeId × Value → H} {P : Program} (hl : laidOutB P = true) {W W' : World} (hb : Below W.heap.size W W') : ∀ {ts : List TypeId} {vs : List Value} {ds : List (DataW H)} {ps : List MemPlace},
    (∀ t ∈ ts, P.readableRec t = true ∧ t < P.types.size) → DataW.TrodAll enc P W 0 (fun _ => true) true ts vs ds ps →
    DataW.TrodAll enc P W' 0 (fun b => decide (b < W.heap.size)) true ts vs ds ps
  | [], [], [], _, _, h => h
  | t :: ts, v :: vs, d :: ds, _, ht, h => by
    obtain ⟨p, q, h1, h2, rfl⟩ := h
    refine ⟨p, q, Below.trod hl (ht t (by simp)).1 (ht t (by simp)).2 h1 hb ?_, trodAll_below hl hb (fun t' h' => ht t' (by simp [h'])) h2, rfl⟩
    obtain ⟨m, hm⟩ := h1
    exact DataW.trod_lt m _ _ _ hm
  | [], [], _ :: _, _, _, h => h.elim
  | [], _ :: _, _, _, _, h => h.elim
  | _ :: _, [], _, _, _, h => h.elim
  | _ :: _, _ :: _, [], _, _, h => h.elim
theorem laidOut : laidOutB Tryz.prog = true := by kernel_rfl
theorem own : ownKnob Tryz.prog.godebug = none := by kernel_rfl
end Go.Proofs.YtoabiignjkcdmaaGreat
