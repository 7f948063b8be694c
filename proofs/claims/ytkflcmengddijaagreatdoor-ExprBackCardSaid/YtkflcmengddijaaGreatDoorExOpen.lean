/-
  An expression that comes in, opened.
-/
import Derived.Test.YtkflcmengddijaaGreatDoorOpenG
import Derived.Test.YtkflcmengddijaaGreatDoorExOwn
namespace Go.Proofs.YtkflcmengddijaaGreatDoor
open Go.ChangeShapes Go.WideShapes Go.ChangeAt Go.RowKit
set_option linter.unusedVariables false
set_option linter.unusedSimpArgs false

/-- Data of a type, met within so much fuel, lie as a kind says. -/
def OpensF {α : Type} (P : Program) (t : TypeId) (k : Kd α) (Q : α → Prop) (m : Nat) : Prop :=
  ∀ {H : Type} (enc : TypeId × Value → H) (w : World) (sp : Nat → Bool) (fuel : Nat) (cs : List Value) (x : DataW H × List MemPlace), fuel ≤ m →
    DataW.trod enc P w 0 sp true fuel t cs = some x → (∀ n ∈ x.1.weights P t, n ≤ reachBytes) → ∃ a, k.K w a cs ∧ Q a

section
variable {P : Program} {t e : TypeId}
theorem opensF_slice {α : Type} {k : Kd α} {Q : α → Prop} {m : Nat} (hsz : 0 < k.sz) (hk : OpensF P e k Q m) (ht : P.underlying t = some (.slice e)) (hs : P.cellsOf e = k.sz) {H : Type} (enc : TypeId × Value → H) (w : World) (sp : Nat → Bool) (fuel : Nat) (cs : List Value) (x : DataW H × List MemPlace) (hf : fuel ≤ m + 1)
    (h : DataW.trod enc P w 0 sp true fuel t cs = some x) (hw : ∀ n ∈ x.1.weights P t, n ≤ reachBytes) :
    ∃ (L : List α) (A : Option Addr) (cap : Nat), cs = [.slice A L.length cap] ∧ (A = none → cap = 0) ∧ L.length ≤ maxLen ∧ k.Row w A L ∧ L.length * P.bytesOf e ≤ reachBytes ∧ ∀ a ∈ L, Q a := by
  rcases DataW.trod_slice ht h with ⟨rfl, rfl⟩ | ⟨a, len, cap, elems, rest, n, hfn, rfl, rfl, _, hl, hc, hel, hat, _, _⟩
  · exact ⟨[], none, 0, rfl, fun _ => rfl, by unfold maxLen; simp, .inl rfl, by simp, by simp⟩
  · have hwt : (elems.length + rest.length) * P.bytesOf e ≤ reachBytes := by
      have := hw ((elems.length + rest.length) * P.bytesOf e) (by simp [DataW.weights, ht])
      exact this
    have hwe : ∀ y ∈ elems, ∀ n ∈ y.1.weights P e, n ≤ reachBytes := fun y hy n hn => hw n (by
      simp only [DataW.weights, ht, List.mem_cons, List.mem_append]
      exact .inr (.inl (weights_all (List.mem_map_of_mem hy) n hn)))
    have hex : ∀ i (hi : i < len), ∃ z, (∃ ds, w.cells? 0 (a.add (i * P.cellsOf e)) (P.cellsOf e) = some ds ∧ k.K w z ds) ∧ Q z := by
      intro i hi
      have h1 := hat i hi
      rw [List.getElem?_eq_getElem (by omega), Option.bind_eq_some_iff] at h1
      obtain ⟨ds, h2, h3⟩ := h1
      obtain ⟨z, hz, hq⟩ := hk enc w sp n ds _ (by omega) h3 (hwe _ (List.getElem_mem _))
      exact ⟨z, ⟨ds, h2, hz⟩, hq⟩
    obtain ⟨L, hLl, hL⟩ := collect len hex
    refine ⟨L, some a, cap, by rw [hLl], (fun e => by cases e), by omega, ?_, ?_, ?_⟩
    · by_cases h0 : L = []
      · exact .inl h0
      · have hpos : 0 < L.length := List.length_pos_iff.2 h0
        right
        obtain ⟨ds0, h1, h2⟩ := (hL 0 hpos).1
        obtain ⟨_, h3, h4⟩ := World.cells?_some h1
        have h5 := h4 0 (by omega)
        rw [Nat.zero_mul] at h5
        have h6 : ((a.add 0).add 0) = a := by simp [Addr.add]
        rw [h6, List.getElem?_eq_getElem (by omega)] at h5
        have hsp := spot_none h5
        obtain ⟨b, o, s⟩ := a
        cases hsp
        refine ⟨b, o, rfl, fun i hi => ?_⟩
        obtain ⟨ds, g1, g2⟩ := (hL i hi).1
        obtain ⟨_, g3, g4⟩ := World.cells?_some g1
        refine ⟨ds, g2, fun j hj => ?_⟩
        have g5 := g4 j (by omega)
        rw [addr_add2, List.getElem?_eq_getElem hj] at g5
        rw [← hs]
        exact g5
    · have : L.length * P.bytesOf e ≤ (elems.length + rest.length) * P.bytesOf e := Nat.mul_le_mul_right _ (by omega)
      omega
    · intro b hb
      obtain ⟨i, hi, rfl⟩ := List.getElem_of_mem hb
      exact (hL i hi).2

/-- A struct's fields, their fuel told. -/
theorem open_structF {H : Type} {enc : TypeId × Value → H} {w : World} {sp : Nat → Bool} {fs : Array Field} {fuel : Nat} {cs : List Value} {x : DataW H × List MemPlace} (ht : P.underlying t = some (.struct fs))
    (h : DataW.trod enc P w 0 sp true fuel t cs = some x) (hw : ∀ n ∈ x.1.weights P t, n ≤ reachBytes) :
    cs.length = P.cellsOf t ∧ ∃ n, fuel = n + 1 ∧ ∀ (i : Nat) (f : Field), fs[i]? = some f → ∃ y, DataW.trod enc P w 0 sp true n f.type ((cs.drop f.offset).take (P.cellsOf f.type)) = some y ∧ ∀ n ∈ y.1.weights P f.type, n ≤ reachBytes := by
  obtain ⟨xs, n, hfn, rfl, hl, hx, hf⟩ := DataW.trod_struct ht h
  refine ⟨hl, n, hfn, fun i f hi => ?_⟩
  have h1 := hf i f hi
  have hi' : i < xs.length := by rw [hx]; exact (Array.getElem?_eq_some_iff.1 hi).1
  rw [List.getElem?_eq_getElem hi'] at h1
  refine ⟨_, h1, fun m hm => hw m ?_⟩
  simp only [DataW.weights, ht]
  exact DataW.weights_mem_each (j := i) (by simp [List.getElem?_map, hi]) (by simp [List.getElem?_map, List.getElem?_eq_getElem hi']) m hm
end

theorem cEx : Tryz.prog.cellsOf 40 = 5 := by kernel_rfl
theorem cU8 : Tryz.prog.cellsOf 5 = 1 := by kernel_rfl
theorem cU64 : Tryz.prog.cellsOf 37 = 1 := by kernel_rfl
theorem cStr : Tryz.prog.cellsOf 9 = 1 := by kernel_rfl
theorem cExs : Tryz.prog.cellsOf 38 = 1 := by kernel_rfl
theorem bEx : Tryz.prog.bytesOf 40 = 64 := by kernel_rfl
set_option maxRecDepth 100000 in
theorem opens_ex : ∀ m, OpensF Tryz.prog 40 kEx NamesOk m
  | 0 => by
    intro enc w sp fuel cs x hf h hw
    obtain ⟨_, n, hfn, _⟩ := open_structF Tryz.underlying40 h hw
    omega
  | m + 1 => by
    have ih := @opens_ex m
    intro enc w sp fuel cs x hf h hw
    obtain ⟨hl, n, hfn, hfs⟩ := open_structF Tryz.underlying40 h hw
    rw [cEx] at hl
    obtain ⟨c0, c1, c2, c3, c4, rfl⟩ : ∃ c0 c1 c2 c3 c4, cs = [c0, c1, c2, c3, c4] := by
      match cs, hl with
      | [a, b, c, d, e], _ => exact ⟨a, b, c, d, e, rfl⟩
    obtain ⟨y0, h0, w0⟩ := fld hfs 0 _ rfl 5 0 1 rfl rfl cU8
    obtain ⟨y1, h1, w1⟩ := fld hfs 1 _ rfl 37 1 1 rfl rfl cU64
    obtain ⟨y2, h2, w2⟩ := fld hfs 2 _ rfl 9 2 1 rfl rfl cStr
    obtain ⟨y3, h3, w3⟩ := fld hfs 3 _ rfl 5 3 1 rfl rfl cU8
    obtain ⟨y4, h4, w4⟩ := fld hfs 4 _ rfl 38 4 1 rfl rfl cExs
    obtain ⟨k, hk, _, hkw⟩ := DataW.trod_int Tryz.underlying5 h0
    obtain ⟨num, hnum, _, _⟩ := DataW.trod_int Tryz.underlying37 h1
    obtain ⟨s, hs, hsx, _⟩ := DataW.trod_string Tryz.underlying9 h2
    obtain ⟨o, ho, _, how⟩ := DataW.trod_int Tryz.underlying5 h3
    obtain ⟨L, A, cap, hL, hnil, hLm, hrow, hb, hq⟩ := opensF_slice (k := kEx) (by decide) @ih Tryz.underlying38 cEx enc w sp n _ y4 (by omega) h4 w4
    simp only [List.drop_zero, List.drop_succ_cons, List.take_succ_cons, List.take_zero, List.cons.injEq, and_true] at hk hnum hs ho hL
    subst hk hnum hs ho hL
    rw [bEx] at hb
    have hsz : s.size ≤ reachBytes := by
      have := w2 s.data.toList.length (by rw [hsx]; simp [DataW.weights])
      simpa using this
    refine ⟨.mk k num s o L, kEx_iff.2 ⟨A, cap, rfl, hLm, hnil, hrow⟩, (namesOk_iff _).2 ⟨?_, ⟨?_, ?_⟩, hq⟩⟩
    · show s.size ≤ 140737488355328
      have : reachBytes ≤ 140737488355328 := by decide
      omega
    · show L.length ≤ 4503599627370496
      have : reachBytes ≤ 140737488355328 := by decide
      omega
    · simp [Lit.wf, IntKind.min, IntKind.max, IntKind.signed, IntKind.bits] at how
      show 0 ≤ o ∧ o < 256
      omega
end Go.Proofs.YtkflcmengddijaaGreatDoor
