/-
  load and store, joined.
-/
import Derived.Test.YtoabiignjkcdmaaGreatRunO3
namespace Go.Proofs.YtoabiignjkcdmaaGreat
open Go.RowKit
set_option linter.unusedVariables false
set_option linter.unusedSimpArgs false

theorem mem_modify {f : SObj → SObj} {xs : List SObj} {i : Nat} {y : SObj} (h : y ∈ xs.modify i f) : y ∈ xs ∨ ∃ x ∈ xs, y = f x := by
  obtain ⟨j, hj, rfl⟩ := List.getElem_of_mem h
  rw [List.getElem_modify]
  simp only [List.length_modify] at hj
  split
  · exact .inr ⟨_, List.getElem_mem hj, rfl⟩
  · exact .inl (List.getElem_mem hj)
def ObOk (x : SObj) : Prop := 0 ≤ x.at' ∧ x.at' < 18446744073709551616 ∧ x.b.length ≤ 65536 ∧ ∀ c ∈ x.b, 0 ≤ c ∧ c < 256
theorem ObOk.put {x : SObj} (h : ObOk x) (i v : Int) (h0 : 0 ≤ v) (h1 : v < 256) : ObOk (x.put i v) := by
  refine ⟨h.1, h.2.1, ?_, fun c hc => ?_⟩
  · show (x.b.set _ _).length ≤ _
    rw [List.length_set]
    exact h.2.2.1
  · rcases List.mem_or_eq_of_mem_set (show c ∈ x.b.set _ _ from hc) with h2 | h2
    · exact h.2.2.2 c h2
    · subst h2; exact ⟨h0, h1⟩
theorem ObOk.wiped {x : SObj} (h : ObOk x) : ObOk x.wiped := by
  refine ⟨h.1, h.2.1, ?_, fun c hc => ?_⟩
  · show (List.replicate _ _).length ≤ _
    rw [List.length_replicate]
    exact h.2.2.1
  · obtain ⟨_, rfl⟩ := List.mem_replicate.1 (show c ∈ List.replicate _ _ from hc)
    omega
theorem MWf.modH {m : SM} {nv : Nat} (h : MWf m nv) (i : Nat) (f : SObj → SObj) (hf : ∀ x, ObOk x → ObOk (f x)) : MWf { m with handed := m.handed.modify i f } nv :=
  { h with
    ob := fun y hy => by
      rcases List.mem_append.1 hy with h1 | h1
      · rcases mem_modify h1 with h2 | ⟨x, h2, rfl⟩
        · exact h.ob y (List.mem_append_left _ h2)
        · exact hf x (h.ob x (List.mem_append_left _ h2))
      · exact h.ob y (List.mem_append_right _ h1) }
theorem MWf.modA {m : SM} {nv : Nat} (h : MWf m nv) (i : Nat) (f : SObj → SObj) (hf : ∀ x, ObOk x → ObOk (f x)) : MWf { m with arena := m.arena.modify i f } nv :=
  { h with
    al := by simpa using h.al
    am := by simpa using h.am
    ob := fun y hy => by
      rcases List.mem_append.1 hy with h1 | h1
      · exact h.ob y (List.mem_append_left _ h1)
      · rcases mem_modify h1 with h2 | ⟨x, h2, rfl⟩
        · exact h.ob y (List.mem_append_right _ h2)
        · exact hf x (h.ob x (List.mem_append_right _ h2)) }
theorem load_c (o : SOp) (m : SM) (w : World) (base B2 mb nv : Nat) (h : MA w base B2 mb nv m) (hd0 : 0 ≤ o.d) (hd1 : o.d < nv) (ha0 : 0 ≤ o.a) (ha1 : o.a < nv) :
    Calls Tryz.prog 85 #[.pointer (some ⟨mb, 0, none⟩), o.val] w (OpPost w base B2 mb nv (loadS m o)) := by
  obtain ⟨w1, hw1, h1, hbA, BO, hBase⟩ := op_begin (o := o) h
  obtain ⟨vv, hv, av, lv, tv, hbs, abs, hR, hM⟩ := h1.ex
  have hra := get_range h.wf ha0 ha1
  have HAT : ∀ W, Below w1.heap.size w1 W → Calls Tryz.prog 111 #[.pointer (some ⟨mb, 0, none⟩), .int .u64 (m.get o.a), .int .u8 o.fn, .bool false] W fun e w' => AtR m hbs abs (m.get o.a) o.fn false e ∧ Below W.heap.size W w' :=
    fun W hW => at_c m W base B2 mb nv vv hv av lv tv hbs abs (hR.below hW) (hM.mono hW) h1.wf _ _ _ hra.1 hra.2
  cases e1 : m.handed.findIdx? (hits (m.get o.a) o.fn false) with
  | some i =>
    obtain ⟨hi, hh⟩ := findIdx_hit e1
    obtain ⟨hin1, hin2⟩ := hits_in hh
    have hi2 : i < hbs.length := by rw [hR.hl]; exact hi
    obtain ⟨g, cap, e2, hg, hg2, hcell, hfr⟩ := (hR.hb i hi hi2).1.shape
    have hk : (m.get o.a - m.handed[i].at').toNat < m.handed[i].b.length := by omega
    have hrange := (h1.wf.ob _ (List.mem_append_left _ (List.getElem_mem hi))).2.2.2 _ (List.getElem_mem hk)
    have hS : loadS m o = .go (m.put o.d m.handed[i].b[(m.get o.a - m.handed[i].at').toNat]) := by
      unfold loadS
      rw [e1]
      simp only
      rw [getD_at hi, List.getD_eq_getElem?_getD, List.getElem?_eq_getElem hk]
      rfl
    rw [hS]
    refine load_ok o m w base B2 mb nv h hd0 hd1 ha0 ha1 w1 hw1 h1 hbA BO g _ _ hrange.1 hrange.2 (hcell _ hk) (Lib.hid fun W hW => (HAT W hW).mono ?_)
    rintro e w' ⟨ha, hb⟩
    refine ⟨?_, hb⟩
    rcases ha with ⟨j, j1, j2, je, g', c', jb, rfl⟩ | ⟨hn, _⟩ | ⟨hn, _⟩
    · rw [e1] at je
      cases je
      rw [e2] at jb
      cases jb
      rfl
    · rw [e1] at hn; cases hn
    · rw [e1] at hn; cases hn
  | none =>
    cases e3 : m.arena.findIdx? (hits (m.get o.a) o.fn false) with
    | some i =>
      obtain ⟨hi, hh⟩ := findIdx_hit e3
      obtain ⟨hin1, hin2⟩ := hits_in hh
      have hi2 : i < abs.length := by rw [hR.al]; exact hi
      obtain ⟨g, cap, e2, hg, hg2, hcell, hfr⟩ := (hR.ab i hi hi2).shape
      have hk : (m.get o.a - m.arena[i].at').toNat < m.arena[i].b.length := by omega
      have hrange := (h1.wf.ob _ (List.mem_append_right _ (List.getElem_mem hi))).2.2.2 _ (List.getElem_mem hk)
      have hS : loadS m o = .go (m.put o.d m.arena[i].b[(m.get o.a - m.arena[i].at').toNat]) := by
        unfold loadS
        rw [e1]
        simp only
        rw [e3]
        simp only
        rw [getD_at hi, List.getD_eq_getElem?_getD, List.getElem?_eq_getElem hk]
        rfl
      rw [hS]
      refine load_ok o m w base B2 mb nv h hd0 hd1 ha0 ha1 w1 hw1 h1 hbA BO g _ _ hrange.1 hrange.2 (hcell _ hk) (Lib.hid fun W hW => (HAT W hW).mono ?_)
      rintro e w' ⟨ha, hb⟩
      refine ⟨?_, hb⟩
      rcases ha with ⟨j, j1, j2, je, _⟩ | ⟨hn, j, j1, j2, je, g', c', jb, rfl⟩ | ⟨_, hn, _⟩
      · rw [e1] at je; cases je
      · rw [e3] at je
        cases je
        rw [e2] at jb
        cases jb
        rfl
      · rw [e3] at hn; cases hn
    | none =>
      have hS : loadS m o = .over 40 m := by
        unfold loadS
        rw [e1]
        simp only
        rw [e3]
      rw [hS]
      refine load_no o m w base B2 mb nv h hd0 hd1 ha0 ha1 w1 hw1 h1 hbA BO (Lib.hid fun W hW => (HAT W hW).mono ?_)
      rintro e w' ⟨ha, hb⟩
      refine ⟨?_, hb⟩
      rcases ha with ⟨j, j1, j2, je, _⟩ | ⟨hn, j, j1, j2, je, _⟩ | ⟨_, _, he⟩
      · rw [e1] at je; cases je
      · rw [e3] at je; cases je
      · exact he
theorem store_c (o : SOp) (m : SM) (w : World) (base B2 mb nv : Nat) (h : MA w base B2 mb nv m) (hb0 : 0 ≤ o.b) (hb1 : o.b < nv) (ha0 : 0 ≤ o.a) (ha1 : o.a < nv) :
    Calls Tryz.prog 86 #[.pointer (some ⟨mb, 0, none⟩), o.val] w (OpPost w base B2 mb nv (storeS m o)) := by
  obtain ⟨w1, hw1, h1, hbA, BO, hBase⟩ := op_begin (o := o) h
  obtain ⟨vv, hv, av, lv, tv, hbs, abs, hR, hM⟩ := h1.ex
  have hra := get_range h.wf ha0 ha1
  have hrb := get_range h.wf hb0 hb1
  have HAT : ∀ W, Below w1.heap.size w1 W → Calls Tryz.prog 111 #[.pointer (some ⟨mb, 0, none⟩), .int .u64 (m.get o.a), .int .u8 o.fn, .bool true] W fun e w' => AtR m hbs abs (m.get o.a) o.fn true e ∧ Below W.heap.size W w' :=
    fun W hW => at_c m W base B2 mb nv vv hv av lv tv hbs abs (hR.below hW) (hM.mono hW) h1.wf _ _ _ hra.1 hra.2
  cases e1 : m.handed.findIdx? (hits (m.get o.a) o.fn true) with
  | some i =>
    obtain ⟨hi, hh⟩ := findIdx_hit e1
    obtain ⟨hin1, hin2⟩ := hits_in hh
    have hi2 : i < hbs.length := by rw [hR.hl]; exact hi
    obtain ⟨g, cap, e2, hg, hg2, hcell, hfr⟩ := (hR.hb i hi hi2).1.shape
    have hk : (m.get o.a - m.handed[i].at').toNat < m.handed[i].b.length := by omega
    have hS : storeS m o = .go { m with handed := m.handed.modify i fun x => x.put (m.get o.a - x.at') (m.get o.b % 256) } := by
      unfold storeS
      rw [e1]
    rw [hS]
    refine store_ok o m w base B2 mb nv h hb0 hb1 ha0 ha1 w1 hw1 h1 hbA BO g _ _ (hcell _ hk) (hfr _ hk) hg ((hR.hb i hi hi2).1.own (by rw [e2]; rfl)) _ (Lib.hid fun W hW => ?_) (Lib.hid fun W hW => (HAT W hW).mono ?_)
    · have hRW := hR.below hW
      have hMW := hM.mono hW
      have hown : hbs[i].ownBlock = some g := by rw [e2]; rfl
      refine ⟨⟨_, _, _, _, _, _, _, hRW.put_hb (fun x => x.put (m.get o.a - x.at') (m.get o.b % 256)) (fun x => ⟨rfl, rfl, rfl⟩) (set_grown W g _ _) i hi hi2 hown ?_, ?_⟩, h1.mb0, h1.wf.modH i _ fun x hx => hx.put _ _ (by omega) (by omega)⟩
      · have hb := (hRW.hb i hi hi2).1
        rw [e2] at hb ⊢
        exact hb.set _ _
      · refine hMW.other (fun e => ?_) _
        exact (hRW.other hMW (by decide) (by decide) (by decide) (by decide)).2.2.2.2.2.1 _ (List.getElem_mem hi2) (by rw [hown, e])
    · rintro e w' ⟨ha, hb⟩
      refine ⟨?_, hb⟩
      rcases ha with ⟨j, j1, j2, je, g', c', jb, rfl⟩ | ⟨hn, _⟩ | ⟨hn, _⟩
      · rw [e1] at je
        cases je
        rw [e2] at jb
        cases jb
        rfl
      · rw [e1] at hn; cases hn
      · rw [e1] at hn; cases hn
  | none =>
    cases e3 : m.arena.findIdx? (hits (m.get o.a) o.fn true) with
    | some i =>
      obtain ⟨hi, hh⟩ := findIdx_hit e3
      obtain ⟨hin1, hin2⟩ := hits_in hh
      have hi2 : i < abs.length := by rw [hR.al]; exact hi
      obtain ⟨g, cap, e2, hg, hg2, hcell, hfr⟩ := (hR.ab i hi hi2).shape
      have hk : (m.get o.a - m.arena[i].at').toNat < m.arena[i].b.length := by omega
      have hS : storeS m o = .go { m with arena := m.arena.modify i fun x => x.put (m.get o.a - x.at') (m.get o.b % 256) } := by
        unfold storeS
        rw [e1]
        simp only
        rw [e3]
      rw [hS]
      refine store_ok o m w base B2 mb nv h hb0 hb1 ha0 ha1 w1 hw1 h1 hbA BO g _ _ (hcell _ hk) (hfr _ hk) (Nat.le_trans hR.le hg) ((hR.ab i hi hi2).own (by rw [e2]; rfl)) _ (Lib.hid fun W hW => ?_) (Lib.hid fun W hW => (HAT W hW).mono ?_)
      · have hRW := hR.below hW
        have hMW := hM.mono hW
        have hown : abs[i].ownBlock = some g := by rw [e2]; rfl
        refine ⟨⟨_, _, _, _, _, _, _, hRW.put_ab (fun x => x.put (m.get o.a - x.at') (m.get o.b % 256)) (fun x => ⟨rfl, rfl, rfl⟩) (set_grown W g _ _) i hi hi2 hown ?_, ?_⟩, h1.mb0, h1.wf.modA i _ fun x hx => hx.put _ _ (by omega) (by omega)⟩
        · have hb := hRW.ab i hi hi2
          rw [e2] at hb ⊢
          exact hb.set _ _
        · refine hMW.other (fun e => ?_) _
          exact (hRW.other hMW (by decide) (by decide) (by decide) (by decide)).2.2.2.2.2.2 _ (List.getElem_mem hi2) (by rw [hown, e])
      · rintro e w' ⟨ha, hb⟩
        refine ⟨?_, hb⟩
        rcases ha with ⟨j, j1, j2, je, _⟩ | ⟨hn, j, j1, j2, je, g', c', jb, rfl⟩ | ⟨_, hn, _⟩
        · rw [e1] at je; cases je
        · rw [e3] at je
          cases je
          rw [e2] at jb
          cases jb
          rfl
        · rw [e3] at hn; cases hn
    | none =>
      have hS : storeS m o = .over 40 m := by
        unfold storeS
        rw [e1]
        simp only
        rw [e3]
      rw [hS]
      refine store_no o m w base B2 mb nv h hb0 hb1 ha0 ha1 w1 hw1 h1 hbA BO (Lib.hid fun W hW => (HAT W hW).mono ?_)
      rintro e w' ⟨ha, hb⟩
      refine ⟨?_, hb⟩
      rcases ha with ⟨j, j1, j2, je, _⟩ | ⟨hn, j, j1, j2, je, _⟩ | ⟨_, _, he⟩
      · rw [e1] at je; cases je
      · rw [e3] at je; cases je
      · exact he
end Go.Proofs.YtoabiignjkcdmaaGreat
