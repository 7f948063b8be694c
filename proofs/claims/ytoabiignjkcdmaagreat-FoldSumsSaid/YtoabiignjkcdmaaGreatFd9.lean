/-
  Lemmas (texts RunO4 RunO5 RunO6), each proved without a condition beyond its own hypotheses.
-/
import Derived.Test.YtoabiignjkcdmaaGreatFd8
import Derived.Test.YtoabiignjkcdmaaGreatFd5
namespace Go.Proofs.YtoabiignjkcdmaaGreat
open Go.RowKit
set_option linter.unusedVariables false
set_option linter.unusedSimpArgs false

theorem mem_modify {f : SObj → SObj} {xs : List SObj} {i : Nat} {y : SObj} (h : y ∈ xs.modify i f) : y ∈ xs ∨ ∃ x ∈ xs, y = f x := by
  obtain ⟨j, hj, rfl⟩ := List.getElem_of_mem h
  rw [List.getElem_modify]
  simp only [List.length_modify] at hj
  split
  · exact .inr ⟨_, List.getElem_mem hj, rfl⟩
  · exact .inl (List.getElem_mem hj)
def ObOk (x : SObj) : Prop := 0 ≤ x.at' ∧ x.at' < 18446744073709551616 ∧ x.b.length ≤ 65536 ∧ ∀ c ∈ x.b, 0 ≤ c ∧ c < 256
theorem ObOk.put {x : SObj} (h : ObOk x) (i v : Int) (h0 : 0 ≤ v) (h1 : v < 256) : ObOk (x.put i v) := by
  refine ⟨h.1, h.2.1, ?_, fun c hc => ?_⟩
  · show (x.b.set _ _).length ≤ _
    rw [List.length_set]
    exact h.2.2.1
  · rcases List.mem_or_eq_of_mem_set (show c ∈ x.b.set _ _ from hc) with h2 | h2
    · exact h.2.2.2 c h2
    · subst h2; exact ⟨h0, h1⟩
theorem ObOk.wiped {x : SObj} (h : ObOk x) : ObOk x.wiped := by
  refine ⟨h.1, h.2.1, ?_, fun c hc => ?_⟩
  · show (List.replicate _ _).length ≤ _
    rw [List.length_replicate]
    exact h.2.2.1
  · obtain ⟨_, rfl⟩ := List.mem_replicate.1 (show c ∈ List.replicate _ _ from hc)
    omega
theorem MWf.modH {m : SM} {nv : Nat} (h : MWf m nv) (i : Nat) (f : SObj → SObj) (hf : ∀ x, ObOk x → ObOk (f x)) : MWf { m with handed := m.handed.modify i f } nv :=
  { h with
    ob := fun y hy => by
      rcases List.mem_append.1 hy with h1 | h1
      · rcases mem_modify h1 with h2 | ⟨x, h2, rfl⟩
        · exact h.ob y (List.mem_append_left _ h2)
        · exact hf x (h.ob x (List.mem_append_left _ h2))
      · exact h.ob y (List.mem_append_right _ h1) }
theorem MWf.modA {m : SM} {nv : Nat} (h : MWf m nv) (i : Nat) (f : SObj → SObj) (hf : ∀ x, ObOk x → ObOk (f x)) : MWf { m with arena := m.arena.modify i f } nv :=
  { h with
    al := by simpa using h.al
    am := by simpa using h.am
    ob := fun y hy => by
      rcases List.mem_append.1 hy with h1 | h1
      · exact h.ob y (List.mem_append_left _ h1)
      · rcases mem_modify h1 with h2 | ⟨x, h2, rfl⟩
        · exact h.ob y (List.mem_append_right _ h2)
        · exact hf x (h.ob x (List.mem_append_right _ h2)) }
theorem load_c (o : SOp) (m : SM) (w : World) (base B2 mb nv : Nat) (h : MA w base B2 mb nv m) (hd0 : 0 ≤ o.d) (hd1 : o.d < nv) (ha0 : 0 ≤ o.a) (ha1 : o.a < nv) :
    Calls Tryz.prog 85 #[.pointer (some ⟨mb, 0, none⟩), o.val] w (OpPost w base B2 mb nv (loadS m o)) := by
  obtain ⟨w1, hw1, h1, hbA, BO, hBase⟩ := op_begin (o := o) h
  obtain ⟨vv, hv, av, lv, tv, hbs, abs, hR, hM⟩ := h1.ex
  have hra := get_range h.wf ha0 ha1
  have HAT : ∀ W, Below w1.heap.size w1 W → Calls Tryz.prog 111 #[.pointer (some ⟨mb, 0, none⟩), .int .u64 (m.get o.a), .int .u8 o.fn, .bool false] W fun e w' => AtR m hbs abs (m.get o.a) o.fn false e ∧ Below W.heap.size W w' :=
    fun W hW => at_c m W base B2 mb nv vv hv av lv tv hbs abs (hR.below hW) (hM.mono hW) h1.wf _ _ _ hra.1 hra.2
  cases e1 : m.handed.findIdx? (hits (m.get o.a) o.fn false) with
  | some i =>
    obtain ⟨hi, hh⟩ := findIdx_hit e1
    obtain ⟨hin1, hin2⟩ := hits_in hh
    have hi2 : i < hbs.length := by rw [hR.hl]; exact hi
    obtain ⟨g, cap, e2, hg, hg2, hcell, hfr⟩ := (hR.hb i hi hi2).1.shape
    have hk : (m.get o.a - m.handed[i].at').toNat < m.handed[i].b.length := by omega
    have hrange := (h1.wf.ob _ (List.mem_append_left _ (List.getElem_mem hi))).2.2.2 _ (List.getElem_mem hk)
    have hS : loadS m o = .go (m.put o.d m.handed[i].b[(m.get o.a - m.handed[i].at').toNat]) := by
      unfold loadS
      rw [e1]
      simp only
      rw [getD_at hi, List.getD_eq_getElem?_getD, List.getElem?_eq_getElem hk]
      rfl
    rw [hS]
    refine load_ok o m w base B2 mb nv h hd0 hd1 ha0 ha1 w1 hw1 h1 hbA BO g _ _ hrange.1 hrange.2 (hcell _ hk) (Lib.hid fun W hW => (HAT W hW).mono ?_)
    rintro e w' ⟨ha, hb⟩
    refine ⟨?_, hb⟩
    rcases ha with ⟨j, j1, j2, je, g', c', jb, rfl⟩ | ⟨hn, _⟩ | ⟨hn, _⟩
    · rw [e1] at je
      cases je
      rw [e2] at jb
      cases jb
      rfl
    · rw [e1] at hn; cases hn
    · rw [e1] at hn; cases hn
  | none =>
    cases e3 : m.arena.findIdx? (hits (m.get o.a) o.fn false) with
    | some i =>
      obtain ⟨hi, hh⟩ := findIdx_hit e3
      obtain ⟨hin1, hin2⟩ := hits_in hh
      have hi2 : i < abs.length := by rw [hR.al]; exact hi
      obtain ⟨g, cap, e2, hg, hg2, hcell, hfr⟩ := (hR.ab i hi hi2).shape
      have hk : (m.get o.a - m.arena[i].at').toNat < m.arena[i].b.length := by omega
      have hrange := (h1.wf.ob _ (List.mem_append_right _ (List.getElem_mem hi))).2.2.2 _ (List.getElem_mem hk)
      have hS : loadS m o = .go (m.put o.d m.arena[i].b[(m.get o.a - m.arena[i].at').toNat]) := by
        unfold loadS
        rw [e1]
        simp only
        rw [e3]
        simp only
        rw [getD_at hi, List.getD_eq_getElem?_getD, List.getElem?_eq_getElem hk]
        rfl
      rw [hS]
      refine load_ok o m w base B2 mb nv h hd0 hd1 ha0 ha1 w1 hw1 h1 hbA BO g _ _ hrange.1 hrange.2 (hcell _ hk) (Lib.hid fun W hW => (HAT W hW).mono ?_)
      rintro e w' ⟨ha, hb⟩
      refine ⟨?_, hb⟩
      rcases ha with ⟨j, j1, j2, je, _⟩ | ⟨hn, j, j1, j2, je, g', c', jb, rfl⟩ | ⟨_, hn, _⟩
      · rw [e1] at je; cases je
      · rw [e3] at je
        cases je
        rw [e2] at jb
        cases jb
        rfl
      · rw [e3] at hn; cases hn
    | none =>
      have hS : loadS m o = .over 40 m := by
        unfold loadS
        rw [e1]
        simp only
        rw [e3]
      rw [hS]
      refine load_no o m w base B2 mb nv h hd0 hd1 ha0 ha1 w1 hw1 h1 hbA BO (Lib.hid fun W hW => (HAT W hW).mono ?_)
      rintro e w' ⟨ha, hb⟩
      refine ⟨?_, hb⟩
      rcases ha with ⟨j, j1, j2, je, _⟩ | ⟨hn, j, j1, j2, je, _⟩ | ⟨_, _, he⟩
      · rw [e1] at je; cases je
      · rw [e3] at je; cases je
      · exact he
theorem store_c (o : SOp) (m : SM) (w : World) (base B2 mb nv : Nat) (h : MA w base B2 mb nv m) (hb0 : 0 ≤ o.b) (hb1 : o.b < nv) (ha0 : 0 ≤ o.a) (ha1 : o.a < nv) :
    Calls Tryz.prog 86 #[.pointer (some ⟨mb, 0, none⟩), o.val] w (OpPost w base B2 mb nv (storeS m o)) := by
  obtain ⟨w1, hw1, h1, hbA, BO, hBase⟩ := op_begin (o := o) h
  obtain ⟨vv, hv, av, lv, tv, hbs, abs, hR, hM⟩ := h1.ex
  have hra := get_range h.wf ha0 ha1
  have hrb := get_range h.wf hb0 hb1
  have HAT : ∀ W, Below w1.heap.size w1 W → Calls Tryz.prog 111 #[.pointer (some ⟨mb, 0, none⟩), .int .u64 (m.get o.a), .int .u8 o.fn, .bool true] W fun e w' => AtR m hbs abs (m.get o.a) o.fn true e ∧ Below W.heap.size W w' :=
    fun W hW => at_c m W base B2 mb nv vv hv av lv tv hbs abs (hR.below hW) (hM.mono hW) h1.wf _ _ _ hra.1 hra.2
  cases e1 : m.handed.findIdx? (hits (m.get o.a) o.fn true) with
  | some i =>
    obtain ⟨hi, hh⟩ := findIdx_hit e1
    obtain ⟨hin1, hin2⟩ := hits_in hh
    have hi2 : i < hbs.length := by rw [hR.hl]; exact hi
    obtain ⟨g, cap, e2, hg, hg2, hcell, hfr⟩ := (hR.hb i hi hi2).1.shape
    have hk : (m.get o.a - m.handed[i].at').toNat < m.handed[i].b.length := by omega
    have hS : storeS m o = .go { m with handed := m.handed.modify i fun x => x.put (m.get o.a - x.at') (m.get o.b % 256) } := by
      unfold storeS
      rw [e1]
    rw [hS]
    refine store_ok o m w base B2 mb nv h hb0 hb1 ha0 ha1 w1 hw1 h1 hbA BO g _ _ (hcell _ hk) (hfr _ hk) hg ((hR.hb i hi hi2).1.own (by rw [e2]; rfl)) _ (Lib.hid fun W hW => ?_) (Lib.hid fun W hW => (HAT W hW).mono ?_)
    · have hRW := hR.below hW
      have hMW := hM.mono hW
      have hown : hbs[i].ownBlock = some g := by rw [e2]; rfl
      refine ⟨⟨_, _, _, _, _, _, _, hRW.put_hb (fun x => x.put (m.get o.a - x.at') (m.get o.b % 256)) (fun x => ⟨rfl, rfl, rfl⟩) (set_grown W g _ _) i hi hi2 hown ?_, ?_⟩, h1.mb0, h1.wf.modH i _ fun x hx => hx.put _ _ (by omega) (by omega)⟩
      · have hb := (hRW.hb i hi hi2).1
        rw [e2] at hb ⊢
        exact hb.set _ _
      · refine hMW.other (fun e => ?_) _
        exact (hRW.other hMW (by decide) (by decide) (by decide) (by decide)).2.2.2.2.2.1 _ (List.getElem_mem hi2) (by rw [hown, e])
    · rintro e w' ⟨ha, hb⟩
      refine ⟨?_, hb⟩
      rcases ha with ⟨j, j1, j2, je, g', c', jb, rfl⟩ | ⟨hn, _⟩ | ⟨hn, _⟩
      · rw [e1] at je
        cases je
        rw [e2] at jb
        cases jb
        rfl
      · rw [e1] at hn; cases hn
      · rw [e1] at hn; cases hn
  | none =>
    cases e3 : m.arena.findIdx? (hits (m.get o.a) o.fn true) with
    | some i =>
      obtain ⟨hi, hh⟩ := findIdx_hit e3
      obtain ⟨hin1, hin2⟩ := hits_in hh
      have hi2 : i < abs.length := by rw [hR.al]; exact hi
      obtain ⟨g, cap, e2, hg, hg2, hcell, hfr⟩ := (hR.ab i hi hi2).shape
      have hk : (m.get o.a - m.arena[i].at').toNat < m.arena[i].b.length := by omega
      have hS : storeS m o = .go { m with arena := m.arena.modify i fun x => x.put (m.get o.a - x.at') (m.get o.b % 256) } := by
        unfold storeS
        rw [e1]
        simp only
        rw [e3]
      rw [hS]
      refine store_ok o m w base B2 mb nv h hb0 hb1 ha0 ha1 w1 hw1 h1 hbA BO g _ _ (hcell _ hk) (hfr _ hk) (Nat.le_trans hR.le hg) ((hR.ab i hi hi2).own (by rw [e2]; rfl)) _ (Lib.hid fun W hW => ?_) (Lib.hid fun W hW => (HAT W hW).mono ?_)
      · have hRW := hR.below hW
        have hMW := hM.mono hW
        have hown : abs[i].ownBlock = some g := by rw [e2]; rfl
        refine ⟨⟨_, _, _, _, _, _, _, hRW.put_ab (fun x => x.put (m.get o.a - x.at') (m.get o.b % 256)) (fun x => ⟨rfl, rfl, rfl⟩) (set_grown W g _ _) i hi hi2 hown ?_, ?_⟩, h1.mb0, h1.wf.modA i _ fun x hx => hx.put _ _ (by omega) (by omega)⟩
        · have hb := hRW.ab i hi hi2
          rw [e2] at hb ⊢
          exact hb.set _ _
        · refine hMW.other (fun e => ?_) _
          exact (hRW.other hMW (by decide) (by decide) (by decide) (by decide)).2.2.2.2.2.2 _ (List.getElem_mem hi2) (by rw [hown, e])
      · rintro e w' ⟨ha, hb⟩
        refine ⟨?_, hb⟩
        rcases ha with ⟨j, j1, j2, je, _⟩ | ⟨hn, j, j1, j2, je, g', c', jb, rfl⟩ | ⟨_, hn, _⟩
        · rw [e1] at je; cases je
        · rw [e3] at je
          cases je
          rw [e2] at jb
          cases jb
          rfl
        · rw [e3] at hn; cases hn
    | none =>
      have hS : storeS m o = .over 40 m := by
        unfold storeS
        rw [e1]
        simp only
        rw [e3]
      rw [hS]
      refine store_no o m w base B2 mb nv h hb0 hb1 ha0 ha1 w1 hw1 h1 hbA BO (Lib.hid fun W hW => (HAT W hW).mono ?_)
      rintro e w' ⟨ha, hb⟩
      refine ⟨?_, hb⟩
      rcases ha with ⟨j, j1, j2, je, _⟩ | ⟨hn, j, j1, j2, je, _⟩ | ⟨_, _, he⟩
      · rw [e1] at je; cases je
      · rw [e3] at je; cases je
      · exact he
end Go.Proofs.YtoabiignjkcdmaaGreat

namespace Go.Proofs.YtoabiignjkcdmaaGreat
open Go.RowKit
set_option linter.unusedVariables false
set_option linter.unusedSimpArgs false

abbrev objV (x : SObj) (bv : Value) : Value := .agg #[.int .u64 x.at', bv, .bool x.sec, .bool x.fixed]
abbrev idxI (o : Option Nat) : Int := match o with | some i => i | none => -1
set_option maxRecDepth 100000 in
set_option maxHeartbeats 2000000 in
theorem free1_c (x : SObj) (bv : Value) (w : World) :
    Calls Tryz.prog 114 #[objV x bv] w fun e w' => e = .returned (.bool true) ∧ Below w.heap.size w w' := by
  go_enter Tryz.func114, Tryz.ntmps114
  go_wp2_with fail
  go_ret
  exact ⟨rfl, (Below.refl _ _).alloc (Nat.le_refl _) _⟩
set_option maxRecDepth 100000 in
set_option maxHeartbeats 2000000 in
theorem wipe1_c (x : SObj) (g c : Nat) (n : Int) (hl : x.b.length ≤ 65536) (w : World) (nb : Nat) (hn : w.cell? ⟨nb, 0, none⟩ = some (.int .u64 n)) :
    Calls Tryz.prog 113 #[objV x (.slice (some ⟨g, 0, none⟩) x.b.length c), .pointer (some ⟨nb, 0, none⟩)] w fun e w' => e = .returned (.bool ((x.b.length : Int) == n)) ∧ Below w.heap.size w w' := by
  have hnb : nb < w.heap.size := World.block_lt_of_cell? w _ hn
  have hba := (Below.refl w.heap.size w).alloc (Nat.le_refl _) (.cells #[.int .u64 x.at', .slice (some ⟨g, 0, none⟩) x.b.length c, .bool x.sec, .bool x.fixed] 85)
  go_enter Tryz.func113, Tryz.ntmps113
  go_wp2_with fail
  go_ret
  refine ⟨?_, hba⟩
  go_num
set_option maxRecDepth 100000 in
set_option maxHeartbeats 2000000 in
theorem start1_c (x : SObj) (bv : Value) (p : Int) (q : Bool) (gi : Nat) (lb : Array Value) (w : World) (pa fa : Nat) (hp : w.cell? ⟨pa, 0, none⟩ = some (.int .u64 p)) (hf : w.cell? ⟨fa, 0, none⟩ = some (.func (.func gi) #[] lb))
    (hEn : ∀ (args : Array Value) (w : World), (callFunc gi args).run Tryz.prog w = .ok (.enter gi args) w)
    (HI : Hid (∀ W, Below w.heap.size w W → Calls Tryz.prog gi (#[objV x bv] ++ lb) W fun e w' => e = .returned (.bool q) ∧ Below W.heap.size W w')) :
    Calls Tryz.prog 137 #[objV x bv, .pointer (some ⟨pa, 0, none⟩), .pointer (some ⟨fa, 0, none⟩)] w fun e w' => e = .returned (.bool (starts p x && q)) ∧ Below w.heap.size w w' := by
  have hpa : pa < w.heap.size := World.block_lt_of_cell? w _ hp
  have hfa : fa < w.heap.size := World.block_lt_of_cell? w _ hf
  have hba := (Below.refl w.heap.size w).alloc (Nat.le_refl _) (.cells #[.int .u64 x.at', bv, .bool x.sec, .bool x.fixed] 85)
  go_enter Tryz.func137, Tryz.ntmps137
  by_cases h : x.at' = p
  · have hs : starts p x = true := by unfold starts; simpa using h
    rw [hs, Bool.true_and]
    obtain ⟨xa, xb, xs, xf⟩ := x
    simp only at h
    subst h
    have HC := Lib.hid (HI.out _ hba)
    clear HI
    go_wp2_with fail
    refine HC.out.mono ?_
    rintro e w1 ⟨rfl, hb1⟩
    go_wp2_with fail
    go_ret
    exact ⟨rfl, hba.trans (hb1.mono hba.size)⟩
  · have hs : starts p x = false := by unfold starts; simpa using h
    rw [hs, Bool.false_and]
    go_wp2_with fail
    go_ret
    exact ⟨rfl, hba⟩
set_option maxRecDepth 100000 in
set_option maxHeartbeats 4000000 in
theorem indexObj_c (xs : List SObj) (bvs : List Value) (B : Nat) (ra : Option Addr) (rc : Nat) (w : World) (hown : w.ownsRow B 85 4 (.slice ra xs.length rc) xs.length (objsC xs bvs)) (hl : bvs.length = xs.length)
    (hsh : ∀ i (h1 : i < xs.length) (h2 : i < bvs.length), ∃ g c, bvs[i] = .slice (some ⟨g, 0, none⟩) xs[i].b.length c) (q : SObj → Bool) (pa fa : Nat)
    (HP : Hid (∀ i (h1 : i < xs.length) (h2 : i < bvs.length) W, Below w.heap.size w W → Calls Tryz.prog 137 #[objV xs[i] bvs[i], .pointer (some ⟨pa, 0, none⟩), .pointer (some ⟨fa, 0, none⟩)] W fun e w' => e = .returned (.bool (q xs[i])) ∧ Below W.heap.size W w')) :
    Calls Tryz.prog 136 #[.slice ra xs.length rc, .func (.func 137) #[] #[.pointer (some ⟨pa, 0, none⟩), .pointer (some ⟨fa, 0, none⟩)]] w
      fun e w' => e = .returned (.int .i64 (idxI (xs.findIdx? q))) ∧ Below w.heap.size w w' := by
  have hxl := own_le hown
  have HOWN := Lib.hid hown
  have HSH := Lib.hid hsh
  clear hown hsh
  go_enter Tryz.func136, Tryz.ntmps136
  go_wp2_with fail
  go_loopw [8] (fun s wr => ∃ k : Nat, k ≤ xs.length ∧ s = .int .i64 k ∧ (∀ j (h : j < xs.length), j < k → q xs[j] = false) ∧ Below w.heap.size w wr) (fun s _ => xs.length - (intOf s).toNat)
  case atStart => exact ⟨0, Nat.zero_le _, rfl, fun j _ h => absurd h (by omega), Below.refl _ _⟩
  case round =>
    obtain ⟨k, hk, rfl, hall, hb⟩ := hrel
    have HA := Lib.hid hall; clear hall
    by_cases hlt : k < xs.length
    · have hlt2 : k < bvs.length := by omega
      obtain ⟨bg, bc, hbv⟩ := HSH.out k hlt hlt2
      obtain ⟨rg, rc', hrow, q0, q1, q2, q3⟩ := obj_at (own_below HOWN.out hb) hl k hlt hlt2
      obtain ⟨rfl, rfl⟩ : ra = some ⟨rg, 0, none⟩ ∧ rc = rc' := by injection hrow with h1 h2 h3; exact ⟨h1, h3⟩
      clear hrow
      rw [hbv] at q1
      have HC := Lib.hid (HP.out k hlt hlt2 _ hb)
      rw [hbv] at HC
      cases hq : q xs[k] with
      | true =>
        have HQ := Lib.hid hq
        clear hq
        go_wp2_with (go_at_call 137; refine HC.out.mono ?_; rintro e w1 ⟨rfl, hb1⟩; rw [HQ.out])
        go_ret
        have hfi : xs.findIdx? q = some k := by
          rw [List.findIdx?_eq_some_iff_getElem]
          exact ⟨hlt, HQ.out, fun j hj => by rw [HA.out j (by omega) hj]; decide⟩
        rw [hfi]
        exact ⟨rfl, hb.trans (hb1.mono hb.size)⟩
      | false =>
        have HQ := Lib.hid hq
        clear hq
        go_wp2_with (go_at_call 137; refine HC.out.mono ?_; rintro e w1 ⟨rfl, hb1⟩; rw [HQ.out])
        refine ⟨⟨k + 1, hlt, by go_num, fun j h hj => ?_, hb.trans (hb1.mono hb.size)⟩, ?_⟩
        · by_cases e : j = k
          · subst e; exact HQ.out
          · exact HA.out j h (by omega)
        · simp [intOf]
          omega
    · have e : k = xs.length := by omega
      subst e
      have hnone : xs.findIdx? q = none := by
        rw [List.findIdx?_eq_none_iff]
        intro x hx
        obtain ⟨j, hj, rfl⟩ := List.getElem_of_mem hx
        exact HA.out j hj hj
      go_wp2_with fail
      go_ret
      rw [hnone]
      exact ⟨rfl, hb⟩
/-- start: found, or the run is over. -/
def StartP (m : SM) (q : SObj → Bool) (w : World) (e : Ending) (w' : World) : Prop :=
  Below w.heap.size w w' ∧ match m.arena.findIdx? q with
    | some i => e = .returned (.int .i64 i)
    | none => e = .panicked [{ v := overV 40, recovered := false }]
set_option maxRecDepth 100000 in
set_option maxHeartbeats 4000000 in
theorem start_c (m : SM) (w : World) (base B2 mb nv : Nat) (vv hv av lv tv : Value) (hbs abs : List Value) (hR : MRows w base B2 m vv hv av lv tv hbs abs) (hM : Bk w mb (mC m vv hv av lv tv) 81) (hw : MWf m nv) (p : Int) (p0 : 0 ≤ p) (p1 : p < 18446744073709551616)
    (gi : Nat) (lb : Array Value) (q : SObj → Bool) (hEn : ∀ (args : Array Value) (w : World), (callFunc gi args).run Tryz.prog w = .ok (.enter gi args) w)
    (HI : Hid (∀ i (h1 : i < m.arena.length) (h2 : i < abs.length) W, Below w.heap.size w W → Calls Tryz.prog gi (#[objV m.arena[i] abs[i]] ++ lb) W fun e w' => e = .returned (.bool (q m.arena[i])) ∧ Below W.heap.size W w')) :
    Calls Tryz.prog 112 #[.pointer (some ⟨mb, 0, none⟩), .int .u64 p, .func (.func gi) #[] lb] w (StartP m (fun x => starts p x && q x) w) := by
  obtain ⟨aa, aac, rfl⟩ := own_shape' hR.a
  have CM := hM.cell
  obtain ⟨w1, hw1⟩ : ∃ w1, w1 = w.alloc (.cells #[.int .u64 p] 46) := ⟨_, rfl⟩
  have hb1 : Below w.heap.size w w1 := by rw [hw1]; exact (Below.refl w.heap.size w).alloc (Nat.le_refl _) _
  have B1 : Bk w1 w.heap.size #[.int .u64 p] 46 := by rw [hw1]; exact Bk.new _ _ _
  have s1 : w1.heap.size = w.heap.size + 1 := by rw [hw1]; simp
  obtain ⟨w2, hw2⟩ : ∃ w2, w2 = w1.alloc (.cells #[.func (.func gi) #[] lb] 162) := ⟨_, rfl⟩
  have hb2 : Below w1.heap.size w1 w2 := by rw [hw2]; exact (Below.refl w1.heap.size w1).alloc (Nat.le_refl _) _
  have B2' : Bk w2 (w.heap.size + 1) #[.func (.func gi) #[] lb] 162 := by rw [hw2, ← s1]; exact Bk.new _ _ _
  have hb3 : Below w.heap.size w w2 := hb1.trans (hb2.mono hb1.size)
  have hR2 := hR.below hb3
  have C1 := (B1.mono hb2).cell
  have C2 := B2'.cell
  have HIX := Lib.hid (indexObj_c m.arena abs B2 aa aac w2 hR2.a hR.al (fun i h1 h2 => by
    obtain ⟨g, c, e, _⟩ := (hR.ab i h1 h2).shape
    exact ⟨g, c, e⟩) (fun x => starts p x && q x) w.heap.size (w.heap.size + 1) (Lib.hid fun i h1 h2 W hW => start1_c _ _ p _ gi lb W _ _ (cm (C1 0) hW) (cm (C2 0) hW) hEn (Lib.hid fun W2 hW2 => HI.out i h1 h2 W2 (hb3.trans ((hW.trans (hW2.mono hW.size)).mono hb3.size)))))
  clear hR2 C1 C2 HI hR
  have CM2 := (hM.mono hb3).cell
  have hss : w1.heap.size = w.heap.size + 1 := s1
  go_enter Tryz.func112, Tryz.ntmps112
  go_upto_region 1 with (fail)
  rw [← hw1, ← hw2]
  clear hw1 hw2 B1 B2' s1 hss hEn hb1 hb2
  cases hq : m.arena.findIdx? (fun x => starts p x && q x) with
  | some i =>
    rw [hq] at HIX
    have hi0 : ¬ ((i : Int) < 0) := by omega
    go_wp2_with (go_at_call 136; refine HIX.out.mono ?_; rintro e w3 ⟨rfl, hb4⟩)
    go_ret
    unfold StartP
    rw [hq]
    exact ⟨hb3.trans (hb4.mono hb3.size), rfl⟩
  | none =>
    rw [hq] at HIX
    go_wp2_with (go_at_call 136; refine HIX.out.mono ?_; rintro e w3 ⟨rfl, hb4⟩)
    refine ⟨rfl, ?_⟩
    unfold StartP
    rw [hq]
    exact ⟨hb3.trans (hb4.mono hb3.size), rfl⟩
end Go.Proofs.YtoabiignjkcdmaaGreat

namespace Go.Proofs.YtoabiignjkcdmaaGreat
open Go.RowKit Go.Proofs.YtoabiignjkcdmaaGreatW.PrintLast
set_option linter.unusedVariables false
set_option linter.unusedSimpArgs false

theorem bk_ne {w : World} {a b : Nat} {cs cs' : Array Value} {t t' : TypeId} (h : Bk w a cs t) (h' : Bk w b cs' t') (hne : t ≠ t') : a ≠ b := by
  intro e
  subst e
  have h2 := h.symm.trans h'
  injection h2 with h2
  injection h2 with _ ht _
  exact hne ht
theorem infoU64 : (Tryz.prog.info? 46).map (fun i => (i.zero, i.size, i.bytes)) = some (some (.int .u64 0), 1, 8) := by kernel_rfl
theorem MRows.far {w w' : World} {base B2 mb nv n c g : Nat} {m : SM} {hv av lv tv : Value} {hbs abs : List Value} (h : MRows w base B2 m (.slice (some ⟨g, 0, none⟩) n c) hv av lv tv hbs abs) {v : Value} (hg : w.grownBy w' v.ownBlock) (hv : v.ownBlock ≠ some g) : ∀ j, w'.cell? ⟨g, j, none⟩ = w.cell? ⟨g, j, none⟩ := by
  intro j
  obtain ⟨cur, fz, hgt⟩ := own_type h.v (g := g) rfl
  exact hg.cell_far ⟨g, j, none⟩ (Array.getElem?_eq_some_iff.1 hgt).1 (fun e => hv e.symm)
set_option maxRecDepth 100000 in
set_option maxHeartbeats 2000000 in
theorem tell_c (o : SOp) (m : SM) (w : World) (base B2 mb nv : Nat) (h : MA w base B2 mb nv m) (hd0 : 0 ≤ o.d) (hd1 : o.d < nv) (ha0 : 0 ≤ o.a) (ha1 : o.a < nv) (htl : (m.told.length : Int) < m.steps) :
    Calls Tryz.prog 93 #[.pointer (some ⟨mb, 0, none⟩), o.val] w (OpPost w base B2 mb nv (.go { m.put o.d (m.get o.a) with told := m.told ++ [m.get o.a] })) := by
  obtain ⟨w1, hw1, h1, hbA, BO, hBase⟩ := op_begin (o := o) h
  unfold SOp.val
  go_enter Tryz.func93, Tryz.ntmps93
  go_upto_region 1 with (fail)
  rw [← hw1]
  clear hw1
  obtain ⟨vv, hv, av, lv, tv, hbs, abs, hR, hM⟩ := h1.ex
  obtain ⟨g, c, rfl, hg0, hg1, hc, hf⟩ := hR.v_open h1.wf (by omega)
  have hra := get_range h.wf ha0 ha1
  obtain ⟨w2, hw2⟩ : ∃ w2, w2 = w1.drew.alloc (.cells #[.int .u64 (m.get o.a)] 46) := ⟨_, rfl⟩
  have hb2 : Below w1.heap.size w1 w2 := by rw [hw2]; exact (Below.refl w1.heap.size w1).drew.alloc (Nat.le_refl _) _
  have hR2 := hR.below hb2
  have hM2 := hM.mono hb2
  have hNB : Bk w2 w1.heap.size #[.int .u64 (m.get o.a)] 46 := by rw [hw2]; exact Bk.new w1.drew _ _
  have CS : ∀ W, Below w1.heap.size w1 W → W.cell? ⟨mb, 0, none⟩ = some (.slice (some ⟨g, 0, none⟩) nv c) ∧ W.cell? ⟨mb, 11, none⟩ = some tv ∧ W.cell? ⟨w.heap.size, 3, none⟩ = some (.int .i64 o.a) ∧ W.cell? ⟨g, o.a.toNat, none⟩ = some (.int .u64 (m.get o.a)) :=
    fun W hW => ⟨cm (hM.cell 0) hW, cm (hM.cell 11) hW, cm (BO.cell 3) hW, cm (hc o.a ha0 ha1) hW⟩
  have HCS := Lib.hid CS
  clear CS
  have hB2 : B2 ≤ w2.heap.size := hR2.sz
  obtain ⟨i0, hi, hz0, hz1, hz2⟩ := info_parts infoU64
  have hst := h1.wf.st
  have HPOST : ∀ tv' w3, w3.ownsRow B2 46 1 tv' (m.told.length + 1) (m.told.map (Value.int .u64) ++ [.int .u64 (m.get o.a)]) → w2.grownBy w3 tv.ownBlock →
      MRows w3 base B2 { m with told := m.told ++ [m.get o.a] } (.slice (some ⟨g, 0, none⟩) nv c) hv av lv tv' hbs abs ∧ Bk w3 mb (mC m (.slice (some ⟨g, 0, none⟩) nv c) hv av lv tv) 81 ∧ Bk w3 w.heap.size (opA o) 54 ∧ (∀ j, w3.cell? ⟨g, j, none⟩ = w1.cell? ⟨g, j, none⟩) ∧ (∀ j, w3.frozen? ⟨g, j, none⟩ = false) ∧ Fr base w w3 := by
    intro tv' w3 ho hg
    have hR3 := hR2.add_t (m.get o.a) tv' hg ho
    have hne : tv.ownBlock ≠ some g := own_ge hR2.t (hR.vB g rfl)
    have hoM := (hR2.other hM2 (by decide) (by decide) (by decide) (by decide)).2.2.2.2.1
    have hoO := (hR2.other (BO.mono hb2) (by decide) (by decide) (by decide) (by decide)).2.2.2.2.1
    refine ⟨hR3, ?_, ?_, fun j => ?_, fun j => ?_, ?_⟩
    · show w3.heap[mb]? = _
      rw [hg.block mb hM2.lt (fun e => hoM e.symm)]
      exact hM2
    · show w3.heap[w.heap.size]? = _
      rw [hg.block w.heap.size (BO.mono hb2).lt (fun e => hoO e.symm)]
      exact BO.mono hb2
    · rw [hR2.far (mb := mb) (nv := nv) hg hne j]
      exact hb2.cell (p := ⟨g, j, none⟩) hg1
    · have hv3 := hR3.v
      simp only [h1.wf.vl] at hv3
      exact hv3.frozenAt j
    · refine (hbA.of hb2 h1.base).grown hg (Nat.le_trans h1.base hb2.size) fun k e => ⟨?_, own_vO hR2.t e⟩
      have := own_from hR2.t k e
      have := hR.le
      omega
  have HP := Lib.hid HPOST
  clear HPOST
  refine start_ (n := 20) (S := fun w' => w'.cell? ⟨mb, 0, none⟩ = some (.slice (some ⟨g, 0, none⟩) nv c) ∧ w'.cell? ⟨mb, 11, none⟩ = some (tv) ∧ w'.cell? ⟨w.heap.size, 3, none⟩ = some (.int .i64 o.a) ∧ w'.cell? ⟨g, o.a.toNat, none⟩ = some (.int .u64 (m.get o.a))) (ds := [19]) (bz 20 0) (by kernel_rfl) rfl rfl (HCS.out _ (Below.refl _ _).drew) (fun hHeld => ?_)
  refine pure_ (i := 0) (N := (some 4)) (v := ?_) (a' := ?_) (bz 20 1) rfl rfl (by kernel_rfl) (fun _ _ _ h => h) (Or.inl ⟨by rfl, ?_⟩) ?_ ?_
  rotate_left
  · intro w'
    go_simp
    with_reducible rfl
  rotate_left
  · simp only [Act.put, sa_, sb_, sc_]
    rfl
  refine pure_ (i := 1) (N := (some 5)) (v := ?_) (a' := ?_) (bz 20 3) rfl rfl (by kernel_rfl) (fun _ _ _ h => h) (Or.inl ⟨by rfl, ?_⟩) ?_ ?_
  rotate_left
  · intro w'
    go_simp
    with_reducible rfl
  rotate_left
  · simp only [Act.put, sa_, sb_, sc_]
    rfl
  refine pure_ (i := 2) (N := (some 6)) (v := ?_) (a' := ?_) (bz 20 7) rfl rfl (by kernel_rfl) (fun _ _ _ h => h) (Or.inl ⟨by rfl, ?_⟩) ?_ ?_
  rotate_left
  · intro w'
    go_simp
    with_reducible rfl
  rotate_left
  · simp only [Act.put, sa_, sb_, sc_]
    rfl
  refine pure_ (i := 3) (N := (some 7)) (v := ?_) (a' := ?_) (bz 20 15) rfl rfl (by kernel_rfl) (fun _ _ _ h => h) (Or.inl ⟨by rfl, ?_⟩) ?_ ?_
  rotate_left
  · intro w'
    go_simp
    with_reducible rfl
  rotate_left
  · simp only [Act.put, sa_, sb_, sc_]
    rfl
  refine pure_ (i := 4) (N := (some 8)) (v := ?_) (a' := ?_) (bz 20 31) rfl rfl (by kernel_rfl) (fun _ _ _ h => h) (Or.inl ⟨by rfl, ?_⟩) ?_ ?_
  rotate_left
  · intro w'
    go_simp
    with_reducible rfl
  rotate_left
  · simp only [Act.put, sa_, sb_, sc_]
    rfl
  refine pure_ (i := 6) (N := (some 10)) (v := ?_) (a' := ?_) (bz 20 95) rfl rfl (by kernel_rfl) (fun _ _ _ h => h) (Or.inl ⟨by rfl, ?_⟩) ?_ ?_
  rotate_left
  · intro w'
    go_simp
    with_reducible rfl
  rotate_left
  · simp only [Act.put, sa_, sb_, sc_]
    rfl
  refine pure_ (i := 7) (N := (some 11)) (v := ?_) (a' := ?_) (bz 20 223) rfl rfl (by kernel_rfl) (fun _ _ _ h => h) (Or.inl ⟨by rfl, ?_⟩) ?_ ?_
  rotate_left
  · intro w'
    go_simp
    with_reducible rfl
  rotate_left
  · simp only [Act.put, sa_, sb_, sc_]
    rfl
  refine pure_ (i := 8) (N := (some 12)) (v := ?_) (a' := ?_) (bz 20 479) rfl rfl (by kernel_rfl) (fun _ _ _ h => h) (Or.inl ⟨by rfl, ?_⟩) ?_ ?_
  rotate_left
  · intro w'
    go_simp
    with_reducible rfl
  rotate_left
  · simp only [Act.put, sa_, sb_, sc_]
    rfl
  refine pure_ (i := 10) (N := (some 14)) (v := ?_) (a' := ?_) (bz 20 1503) rfl rfl (by kernel_rfl) (fun _ _ _ h => h) (Or.inl ⟨by rfl, ?_⟩) ?_ ?_
  rotate_left
  · intro w'
    go_simp
    with_reducible rfl
  rotate_left
  · simp only [Act.put, sa_, sb_, sc_]
    rfl
  refine take_ (i := 5) (N := (some 9)) (v := ?_) (a' := ?_) (bz 20 1535) rfl rfl (by kernel_rfl) (fun _ _ _ h => h) (Or.inl ⟨by rfl, ?_⟩) hHeld ?_ ?_
  rotate_left
  · rintro w' ⟨s0, s1, s2, s3⟩
    go_simp
    with_reducible rfl
  rotate_left
  · simp only [Act.put, sa_, sb_, sc_]
    rfl
  refine take_ (i := 9) (N := (some 13)) (v := ?_) (a' := ?_) (bz 20 2047) rfl rfl (by kernel_rfl) (fun _ _ _ h => h) (Or.inl ⟨by rfl, ?_⟩) hHeld ?_ ?_
  rotate_left
  · rintro w' ⟨s0, s1, s2, s3⟩
    go_simp
    with_reducible rfl
  rotate_left
  · simp only [Act.put, sa_, sb_, sc_]
    rfl
  refine take_ (i := 11) (N := (some 15)) (v := ?_) (a' := ?_) (bz 20 4095) rfl rfl (by kernel_rfl) (fun _ _ _ h => h) (Or.inl ⟨by rfl, ?_⟩) hHeld ?_ ?_
  rotate_left
  · rintro w' ⟨s0, s1, s2, s3⟩
    go_simp
    with_reducible rfl
  rotate_left
  · simp only [Act.put, sa_, sb_, sc_]
    rfl
  refine pure_ (i := 12) (N := (some 16)) (v := ?_) (a' := ?_) (bz 20 8191) rfl rfl (by kernel_rfl) (fun _ _ _ h => h) (Or.inl ⟨by rfl, ?_⟩) ?_ ?_
  rotate_left
  · intro w'
    go_simp
    with_reducible rfl
  rotate_left
  · simp only [Act.put, sa_, sb_, sc_]
    rfl
  refine take_ (i := 13) (N := (some 17)) (v := ?_) (a' := ?_) (bz 20 16383) rfl rfl (by kernel_rfl) (fun _ _ _ h => h) (Or.inl ⟨by rfl, ?_⟩) hHeld ?_ ?_
  rotate_left
  · rintro w' ⟨s0, s1, s2, s3⟩
    go_simp
    with_reducible rfl
  rotate_left
  · simp only [Act.put, sa_, sb_, sc_]
    rfl
  refine one_ (i := 14) (N := (some 18)) (bz 20 32767) rfl rfl (by kernel_rfl) (by decide) (fun K hK => ?_)
  refine value_ (v := .slice (some ⟨w1.heap.size, 0, none⟩) 1 1) (w1 := w2) (by rfl) rfl ?_ ?_
  · rw [hw2]
    go_simp
  refine hK.out _ _ (HCS.out _ hb2) (fun hHeld => ?_)
  clear hK K
  refine norm_ (a' := ?_) ?_ ?_
  rotate_left
  · show Act.put _ (some 18) _ = _
    simp only [Act.put, sa_, sb_, sc_]
    rfl
  refine one_ (i := 15) (N := (some 19)) (bz 20 65535) rfl rfl (by kernel_rfl) (by decide) (fun K hK => ?_)
  refine step_append_lies _ rfl _ _ 40 (by rfl) B2 46 i0 (.int .u64 0) 1 8 Tryz.underlying40 hi hz0 hz1 hz2 rfl (by decide) tv m.told.length (m.told.map (Value.int .u64)) (by rfl) hR2.t ⟨w1.heap.size, 0, none⟩ 1 1 [.int .u64 (m.get o.a)] (by rfl) rfl (fun j u hu => ?_) (by simp [Value.oneCell']) (by decide) (by unfold maxLen; omega) (by omega) hB2 _ rfl ?_
  · exact World.news_of_block hNB j u hu
  intro ga cap w3 ho hgr _ _
  obtain ⟨hR3, hM3, BO3, hcc, hff, hb3⟩ := HP.out _ _ ho hgr
  refine hK.out _ _ ⟨hM3.cell 0, hM3.cell 11, BO3.cell 3, (hcc _).trans (hc o.a ha0 ha1)⟩ (fun hHeld => ?_)
  clear hK K
  have fM3 := hM3.free
  have cM3 := hM3.cell 11
  refine norm_ (a' := ?_) ?_ ?_
  rotate_left
  · show Act.put _ (some 19) _ = _
    simp only [Act.put, sa_, sb_, sc_]
    rfl
  refine pure_ (i := 16) (N := (some 20)) (v := ?_) (a' := ?_) (bz 20 131071) rfl rfl (by kernel_rfl) (fun _ _ _ h => h) (Or.inl ⟨by rfl, ?_⟩) ?_ ?_
  rotate_left
  · intro w'
    go_simp
    with_reducible rfl
  rotate_left
  · simp only [Act.put, sa_, sb_, sc_]
    rfl
  refine pure_ (i := 17) (N := (some 21)) (v := ?_) (a' := ?_) (bz 20 262143) rfl rfl (by kernel_rfl) (fun _ _ _ h => h) (Or.inl ⟨by rfl, ?_⟩) ?_ ?_
  rotate_left
  · intro w'
    go_simp
    with_reducible rfl
  rotate_left
  · simp only [Act.put, sa_, sb_, sc_]
    rfl
  refine pure_ (i := 18) (N := (some 22)) (v := ?_) (a' := ?_) (bz 20 524287) rfl rfl (by kernel_rfl) (fun _ _ _ h => h) (Or.inl ⟨by rfl, ?_⟩) ?_ ?_
  rotate_left
  · intro w'
    go_simp
    with_reducible rfl
  rotate_left
  · simp only [Act.put, sa_, sb_, sc_]
    rfl
  refine last_ (i := 19) (N := none) (bz 20 1048575) rfl rfl (by kernel_rfl) (by decide) (fun K hK => ?_)
  refine skip_ (w1 := ?_) (by rfl) rfl ?_ ?_
  rotate_left
  · go_simp
    rfl
  refine hK.out _ _ ?_
  clear hK K
  refine done_ (by kernel_rfl) ?_
  clear HP HCS hNB hR2 hM2
  obtain ⟨W4, hW4⟩ : ∃ W4, W4 = w3.setCell ⟨mb, 11, none⟩ (.slice (some ⟨ga, 0, none⟩) (m.told.length + 1) cap) := ⟨_, rfl⟩
  have hR4 : MRows W4 base B2 { m with told := m.told ++ [m.get o.a] } (.slice (some ⟨g, 0, none⟩) nv c) hv av lv (.slice (some ⟨ga, 0, none⟩) (m.told.length + 1) cap) hbs abs := by rw [hW4]; exact hR3.mach hM3 11 _
  have hM4 : Bk W4 mb (mC { m with told := m.told ++ [m.get o.a] } (.slice (some ⟨g, 0, none⟩) nv c) hv av lv (.slice (some ⟨ga, 0, none⟩) (m.told.length + 1) cap)) 81 := by rw [hW4]; exact hM3.set 11 _
  have BO4 : Bk W4 w.heap.size (opA o) 54 := by
    rw [hW4]
    exact BO3.other (bk_ne BO3 hM3 (by decide)) _
  have hb4 : Fr base w W4 := by rw [hW4]; exact hb3.setCell h1.mb0 hM3.own _
  have hwf4 : MWf { m with told := m.told ++ [m.get o.a] } nv := { h1.wf with tm := by simp only [List.length_append, List.length_cons, List.length_nil]; omega }
  rw [← hW4]
  clear hW4 hR3 hM3 BO3 hb3 hcc hff fM3 cM3 hc hf hR hM BO hHeld ho hgr
  obtain ⟨g', c', e', _, _, hc4, hf4⟩ := hR4.v_open hwf4 (by omega)
  cases e'
  have CO := BO4.cell
  have CM := hM4.cell
  have cd : W4.cell? ⟨g, o.d.toNat, none⟩ = some (.int .u64 (m.get o.d)) := hc4 o.d hd0 hd1
  have ca : W4.cell? ⟨g, o.a.toNat, none⟩ = some (.int .u64 (m.get o.a)) := hc4 o.a ha0 ha1
  have fd := hf4 o.d.toNat
  clear hc4 hf4
  go_wp2_with fail
  go_region
  go_wp2_with fail
  go_end0
  exact ⟨(hb4.setCell hg0 hR4.vO _).drew, rfl, (hR4.put hM4 h1.mb0 hwf4 o.d (m.get o.a) hd0 hd1 hra.1 hra.2).drew⟩
end Go.Proofs.YtoabiignjkcdmaaGreat
