/-
  Two runs whose inputs are the same but for secrets, plainly: a machine with its secrets struck out goes the same way.
-/
import Derived.Test.YtoabiignjkcdmaaGreatRunF
namespace Go.Proofs.YtoabiignjkcdmaaGreat
open Go.RowKit
set_option linter.unusedVariables false
set_option linter.unusedSimpArgs false

/-- The variables, the secret ones struck out. -/
def mask (s : List Bool) (v : List Int) : List Int := v.mapIdx fun i x => if s.getD i false = true then 0 else x
def mk1 (s : List Bool) (i : Int) (x : Int) : Int := if s.getD i.toNat false = true then 0 else x
def SObj.pub (x : SObj) : SObj := { x with b := if x.sec = true then List.replicate x.b.length 0 else x.b }
def SM.pub (s : List Bool) (m : SM) : SM := { m with v := mask s m.v, handed := m.handed.map SObj.pub, arena := m.arena.map SObj.pub, ret := 0 }
def Res.pub (s : List Bool) (r : Res) : Res := match r with | .go m => .go (m.pub s) | .over e m => .over e (m.pub s)

theorem mask_getD (s : List Bool) (v : List Int) (i : Nat) : (mask s v).getD i 0 = if s.getD i false = true then 0 else v.getD i 0 := by
  unfold mask
  simp only [List.getD_eq_getElem?_getD, List.getElem?_mapIdx]
  cases v[i]? <;> simp
theorem mask_set (s : List Bool) (v : List Int) (i : Nat) (x : Int) : mask s (v.set i x) = (mask s v).set i (if s.getD i false = true then 0 else x) := by
  apply List.ext_getElem?
  intro j
  unfold mask
  simp only [List.getElem?_mapIdx, List.getElem?_set, List.length_mapIdx]
  by_cases e : i = j
  · subst e
    by_cases h : i < v.length
    · simp [h]
    · simp [h]
  · simp [e]
theorem mask_mask (s : List Bool) (v : List Int) : mask s (mask s v) = mask s v := by
  unfold mask
  apply List.ext_getElem?
  intro j
  simp only [List.getElem?_mapIdx]
  cases v[j]? with
  | none => rfl
  | some x =>
    simp only [Option.map_some]
    cases s.getD j false <;> rfl
theorem pub_len (x : SObj) : x.pub.b.length = x.b.length := by
  unfold SObj.pub
  by_cases h : x.sec = true
  · simp [h]
  · simp [h]
theorem pub_pub (x : SObj) : x.pub.pub = x.pub := by
  have h1 := pub_len x
  unfold SObj.pub at *
  by_cases h : x.sec = true
  · simp [h]
  · simp [h]
theorem pub_b {x : SObj} (h : x.sec = false) : x.pub = x := by
  unfold SObj.pub
  rw [if_neg (by rw [h]; decide)]
theorem pubs_pub (xs : List SObj) : (xs.map SObj.pub).map SObj.pub = xs.map SObj.pub := by
  rw [List.map_map]
  exact List.map_congr_left fun x _ => pub_pub x
theorem SM.pub_pub (s : List Bool) (m : SM) : (m.pub s).pub s = m.pub s := by
  unfold SM.pub
  simp only [mask_mask, pubs_pub]
/-- The same but for secrets, part by part. -/
structure PE (s : List Bool) (m1 m2 : SM) : Prop where
  v : mask s m1.v = mask s m2.v
  h : m1.handed.map SObj.pub = m2.handed.map SObj.pub
  a : m1.arena.map SObj.pub = m2.arena.map SObj.pub
  l : m1.left = m2.left
  t : m1.taken = m2.taken
  z : m1.size = m2.size
  f : m1.fuel = m2.fuel
  e : m1.en = m2.en
  p : m1.trap = m2.trap
  s : m1.steps = m2.steps
  o : m1.told = m2.told
theorem PE.of {s : List Bool} {m1 m2 : SM} (h : m1.pub s = m2.pub s) : PE s m1 m2 := by
  unfold SM.pub at h
  injection h with h1 h2 h3 h4 h5 h6 h7 h8 h9 h10 h11 h12
  exact ⟨h1, h2, h3, h4, h5, h6, h7, h8, h9, h11, h12⟩
theorem PE.to {s : List Bool} {m1 m2 : SM} (h : PE s m1 m2) : m1.pub s = m2.pub s := by
  unfold SM.pub
  rw [h.v, h.h, h.a, h.l, h.t, h.z, h.f, h.e, h.p, h.s, h.o]
theorem get_pub (s : List Bool) (m : SM) (i : Int) : (m.pub s).get i = if s.getD i.toNat false = true then 0 else m.get i := mask_getD s m.v i.toNat
theorem get_pub' {p : SIr} {m : SM} {i : Int} (h : secS p i = false) : (m.pub p.sec).get i = m.get i := by
  rw [get_pub]
  unfold secS at h
  rw [h]
  rfl
theorem put_pub (s : List Bool) (m : SM) (i x : Int) : (m.put i x).pub s = (m.pub s).put i (if s.getD i.toNat false = true then 0 else x) := by
  unfold SM.put SM.pub
  simp only [mask_set]
theorem put_pub2 {p : SIr} {m : SM} {i x y : Int} (h : secS p i = true ∨ x = y) : (m.put i x).pub p.sec = ((m.pub p.sec).put i y).pub p.sec := by
  rw [put_pub, put_pub, SM.pub_pub]
  rcases h with h | h
  · unfold secS at h
    rw [if_pos h, if_pos h]
  · rw [h]
theorem hits_pub (a fn : Int) (st : Bool) : (hits a fn st) ∘ SObj.pub = hits a fn st := by
  funext x
  show hits a fn st x.pub = hits a fn st x
  unfold hits
  rw [pub_len]
  rfl
theorem find_pub (xs : List SObj) (a fn : Int) (st : Bool) : (xs.map SObj.pub).findIdx? (hits a fn st) = xs.findIdx? (hits a fn st) := by
  rw [List.findIdx?_map, hits_pub]
theorem getD_pub (xs : List SObj) (i : Nat) : (xs.map SObj.pub).getD i objZ = (xs.getD i objZ).pub := by
  simp only [List.getD_eq_getElem?_getD, List.getElem?_map]
  cases xs[i]? <;> rfl
theorem hits_sec {xs : List SObj} {a fn : Int} {st : Bool} {i : Nat} (h : xs.findIdx? (hits a fn st) = some i) : (xs.getD i objZ).sec = (fn == 1) ∧ i < xs.length := by
  obtain ⟨h1, h2, _⟩ := List.findIdx?_eq_some_iff_getElem.1 h
  have e : xs.getD i objZ = xs[i] := by simp [List.getD_eq_getElem?_getD, h1]
  unfold hits at h2
  simp only [Bool.and_eq_true] at h2
  rw [e]
  exact ⟨by simpa using h2.1.2, h1⟩
theorem modify_map (f g : SObj → SObj) : ∀ (xs : List SObj) (i : Nat), (∀ h : i < xs.length, (f xs[i]).pub = (g xs[i].pub).pub) → (xs.modify i f).map SObj.pub = ((xs.map SObj.pub).modify i g).map SObj.pub
  | [], i, _ => by cases i <;> rfl
  | x :: xs, 0, h => by
    have := h (by simp)
    simp only [List.modify_zero_cons, List.map_cons, List.map_map] at this ⊢
    rw [show (f x).pub = (g x.pub).pub from this]
    congr 1
    exact List.map_congr_left fun y _ => (pub_pub y).symm
  | x :: xs, i + 1, h => by
    simp only [List.modify_succ_cons, List.map_cons]
    rw [modify_map f g xs i (fun h1 => h (by simp; omega)), pub_pub]
/-- What a checked step keeps to, of secrets. -/
structure Flow (p : SIr) (o : SOp) : Prop where
  f2 : o.k = 2 → secS p o.d = true ∨ secS p o.a = false
  f3 : o.k = 3 → secS p o.d = true ∨ secS p o.a = false ∧ secS p o.b = false
  f4 : o.k = 4 → secS p o.a = false ∧ (secS p o.d = true ∨ o.fn ≠ 1)
  f5 : o.k = 5 → secS p o.a = false ∧ (o.fn = 1 ∨ secS p o.b = false)
  f6 : o.k = 6 ∨ o.k = 7 ∨ o.k = 10 → secS p o.a = false ∧ secS p o.b = false
  f8 : o.k = 8 ∨ o.k = 11 → secS p o.a = false
  f9 : o.k = 9 → secS p o.a = false ∧ secS p o.d = false
theorem opT_2 {fn : Int} {a b d : Bool} (h : opT 2 fn a b d = true) : d = true ∨ a = false := by
  cases a <;> cases d <;> simp_all [opT, opE, opG, kf, kindBits]
theorem opT_3 {fn : Int} {a b d : Bool} (h : opT 3 fn a b d = true) : d = true ∨ a = false ∧ b = false := by
  cases a <;> cases b <;> cases d <;> simp_all [opT, opE, opG, kf, kindBits]
theorem opT_4 {fn : Int} {a b d : Bool} (h : opT 4 fn a b d = true) : a = false ∧ (d = true ∨ fn ≠ 1) := by
  cases a <;> cases d <;> simp_all [opT, opE, opG, kf, kindBits]
theorem opT_5 {fn : Int} {a b d : Bool} (hf : 0 ≤ fn) (h : opT 5 fn a b d = true) : a = false ∧ (fn = 1 ∨ b = false) := by
  by_cases h0 : fn = 0
  · cases a <;> cases b <;> simp_all [opT, opE, opG, kf, kindBits]
  · have h1 : fn = 1 := by
      unfold opT at h
      simp only [Bool.and_eq_true, Bool.not_eq_true'] at h
      have hg := h.1.2
      simp [opG, kf, kindBits] at hg
      omega
    cases a <;> simp_all [opT, opE, opG, kf, kindBits]
theorem opT_67 {k fn : Int} (hk : k = 6 ∨ k = 7 ∨ k = 10) {a b d : Bool} (h : opT k fn a b d = true) : a = false ∧ b = false := by
  rcases hk with rfl | rfl | rfl <;> cases a <;> cases b <;> simp_all [opT, opE, opG, kf, kindBits]
theorem opT_8 {k fn : Int} (hk : k = 8 ∨ k = 11) {a b d : Bool} (h : opT k fn a b d = true) : a = false := by
  rcases hk with rfl | rfl <;> cases a <;> simp_all [opT, opE, opG, kf, kindBits]
theorem opT_9 {fn : Int} {a b d : Bool} (h : opT 9 fn a b d = true) : a = false ∧ d = false := by
  cases a <;> cases d <;> simp_all [opT, opE, opG, kf, kindBits]
theorem flow_of {p : SIr} {o : SOp} (h : opS p o = true) (hf : 0 ≤ o.fn) : Flow p o := by
  unfold opS at h
  by_cases hk : o.k < 1 ∨ 13 < o.k
  · rw [if_pos hk] at h
    cases h
  rw [if_neg hk] at h
  cases hv : opV p.sec.length o.k o.d o.a o.b o.imm with
  | true => rw [hv, if_pos rfl] at h; cases h
  | false =>
    rw [hv, if_neg (by decide)] at h
    clear hv
    refine ⟨fun e => ?_, fun e => ?_, fun e => ?_, fun e => ?_, fun e => ?_, fun e => ?_, fun e => ?_⟩
    · rw [e] at h
      exact opT_2 h
    · rw [e] at h
      exact opT_3 h
    · rw [e] at h
      exact opT_4 h
    · rw [e] at h
      exact opT_5 hf h
    · have h2 := opT_67 e h
      rcases e with e | e | e <;> rw [e] at h2 <;> exact h2
    · have h2 := opT_8 e h
      rcases e with e | e <;> rw [e] at h2 <;> exact h2
    · rw [e] at h
      exact opT_9 h
theorem room_pub (s : List Bool) (m : SM) (n : Int) : roomB (m.pub s) n = roomB m n := rfl
theorem cost_pub {p : SIr} {o : SOp} (hF : Flow p o) (m : SM) : costS (m.pub p.sec) o = costS m o := by
  unfold costS
  by_cases h9 : o.k = 9
  · rw [if_pos h9, if_pos h9, get_pub' (hF.f9 h9).1, room_pub]
  rw [if_neg h9, if_neg h9]
  by_cases h10 : o.k = 10
  · rw [if_pos h10, if_pos h10, get_pub' (hF.f6 (by omega)).2]
  rw [if_neg h10, if_neg h10]
theorem put_b_pub (x : SObj) (i v v' : Int) (h : x.sec = true ∨ v = v') : (x.put i v).pub = (x.pub.put i v').pub := by
  rcases h with h | rfl
  · unfold SObj.put SObj.pub
    simp [h]
  · by_cases hs : x.sec = true
    · unfold SObj.put SObj.pub
      simp [hs]
    · rw [pub_b (x := x) (by simpa using hs)]
theorem wiped_pub (x : SObj) : x.wiped.pub = (x.pub.wiped).pub := by
  unfold SObj.wiped SObj.pub
  by_cases h : x.sec = true
  · simp [h]
  · simp [h]
/-- A step but a tell goes the same way where the secrets are struck out ahead of it. -/
theorem opM_pub {p : SIr} {o : SOp} (hF : Flow p o) (hk : o.k ≠ 12) (m : SM) : (opM m o).pub p.sec = (opM (m.pub p.sec) o).pub p.sec := by
  by_cases e1 : o.k = 1
  · rw [opM_1 _ e1, opM_1 _ e1]
    exact congrArg Res.go (put_pub2 (.inr rfl))
  by_cases e2 : o.k = 2
  · rw [opM_2 _ e2, opM_2 _ e2]
    refine congrArg Res.go (put_pub2 ?_)
    rcases hF.f2 e2 with h | h
    · exact .inl h
    · exact .inr (get_pub' h).symm
  by_cases e3 : o.k = 3
  · rw [opM_3 _ e3, opM_3 _ e3]
    refine congrArg Res.go (put_pub2 ?_)
    rcases hF.f3 e3 with h | h
    · exact .inl h
    · exact .inr (by rw [get_pub' h.1, get_pub' h.2])
  by_cases e4 : o.k = 4
  · rw [opM_4 _ e4, opM_4 _ e4]
    obtain ⟨ha, hd⟩ := hF.f4 e4
    unfold loadS
    rw [get_pub' ha]
    show _ = Res.pub p.sec (match (m.handed.map SObj.pub).findIdx? _ with | some i => _ | none => match (m.arena.map SObj.pub).findIdx? _ with | some i => _ | none => _)
    rw [find_pub, find_pub]
    cases h1 : m.handed.findIdx? (hits (m.get o.a) o.fn false) with
    | some i =>
      refine congrArg Res.go (put_pub2 ?_)
      rcases hd with h | h
      · exact .inl h
      · right
        show _ = ((m.handed.map SObj.pub).getD i objZ).b.getD (m.get o.a - ((m.handed.map SObj.pub).getD i objZ).at').toNat 0
        have hs : (m.handed.getD i objZ).sec = false := by rw [(hits_sec h1).1]; simpa using h
        rw [getD_pub, pub_b hs]
    | none =>
      cases h2 : m.arena.findIdx? (hits (m.get o.a) o.fn false) with
      | some i =>
        refine congrArg Res.go (put_pub2 ?_)
        rcases hd with h | h
        · exact .inl h
        · right
          show _ = ((m.arena.map SObj.pub).getD i objZ).b.getD (m.get o.a - ((m.arena.map SObj.pub).getD i objZ).at').toNat 0
          have hs : (m.arena.getD i objZ).sec = false := by rw [(hits_sec h2).1]; simpa using h
          rw [getD_pub, pub_b hs]
      | none => exact congrArg (Res.over 40) (SM.pub_pub p.sec m).symm
  by_cases e5 : o.k = 5
  · rw [opM_5 _ e5, opM_5 _ e5]
    obtain ⟨ha, hd⟩ := hF.f5 e5
    unfold storeS
    rw [get_pub' ha]
    show _ = Res.pub p.sec (match (m.handed.map SObj.pub).findIdx? _ with | some i => _ | none => match (m.arena.map SObj.pub).findIdx? _ with | some i => _ | none => _)
    rw [find_pub, find_pub]
    have key : ∀ (xs : List SObj) (i : Nat), xs.findIdx? (hits (m.get o.a) o.fn true) = some i → (xs.modify i fun x => x.put (m.get o.a - x.at') (m.get o.b % 256)).map SObj.pub = ((xs.map SObj.pub).modify i fun x => x.put (m.get o.a - x.at') ((m.pub p.sec).get o.b % 256)).map SObj.pub := by
      intro xs i hi
      refine modify_map _ _ xs i fun hlt => ?_
      have hs := (hits_sec hi).1
      have e : xs.getD i objZ = xs[i] := by simp [List.getD_eq_getElem?_getD, hlt]
      rw [e] at hs
      refine put_b_pub _ _ _ _ ?_
      rcases hd with h | h
      · left; rw [hs, h]; rfl
      · right; rw [get_pub' h]
    cases h1 : m.handed.findIdx? (hits (m.get o.a) o.fn true) with
    | some i =>
      refine congrArg Res.go ?_
      have := key _ _ h1
      unfold SM.pub at this ⊢
      simp only [mask_mask, pubs_pub] at this ⊢
      rw [this]
    | none =>
      cases h2 : m.arena.findIdx? (hits (m.get o.a) o.fn true) with
      | some i =>
        refine congrArg Res.go ?_
        have := key _ _ h2
        unfold SM.pub at this ⊢
        simp only [mask_mask, pubs_pub] at this ⊢
        rw [this]
      | none => exact congrArg (Res.over 40) (SM.pub_pub p.sec m).symm
  have trap : ∀ n, (trapS m n).pub p.sec = (trapS (m.pub p.sec) n).pub p.sec := by
    intro n
    refine congrArg (Res.over 0) ?_
    unfold SM.pub
    simp only [mask_mask, pubs_pub]
  have stay : (Res.go m).pub p.sec = (Res.go (m.pub p.sec)).pub p.sec := congrArg Res.go (SM.pub_pub p.sec m).symm
  by_cases e6 : o.k = 6
  · rw [opM_6 _ e6, opM_6 _ e6, get_pub' (hF.f6 (by omega)).1, get_pub' (hF.f6 (by omega)).2]
    by_cases h : m.get o.b ≤ m.get o.a
    · rw [if_pos h, if_pos h]; exact trap 1
    · rw [if_neg h, if_neg h]; exact stay
  by_cases e7 : o.k = 7
  · rw [opM_7 _ e7, opM_7 _ e7, get_pub' (hF.f6 (by omega)).1, get_pub' (hF.f6 (by omega)).2]
    by_cases h : m.get o.b < m.get o.a
    · rw [if_pos h, if_pos h]; exact trap 1
    · rw [if_neg h, if_neg h]; exact stay
  by_cases e8 : o.k = 8
  · rw [opM_8 _ e8, opM_8 _ e8, get_pub' (hF.f8 (by omega))]
    by_cases h : m.get o.a = 0
    · rw [if_pos h, if_pos h]; exact trap 2
    · rw [if_neg h, if_neg h]; exact stay
  by_cases e9 : o.k = 9
  · rw [opM_9 _ e9, opM_9 _ e9]
    unfold allocS
    rw [get_pub' (hF.f9 e9).1, room_pub]
    by_cases h : roomB m (m.get o.a) = true
    · rw [if_pos h, if_pos h]
      refine congrArg Res.go ?_
      unfold SM.pub
      simp only [mask_mask, mask_set, pubs_pub, List.map_append, List.map_cons, List.map_nil, SObj.pub, ite_self, List.length_replicate]
    · rw [if_neg h, if_neg h]; exact trap 3
  by_cases e10 : o.k = 10
  · rw [opM_10 _ e10, opM_10 _ e10]
    unfold wipeS
    rw [get_pub' (hF.f6 (by omega)).1, get_pub' (hF.f6 (by omega)).2]
    show _ = Res.pub p.sec (match (m.arena.map SObj.pub).findIdx? _ with | some i => _ | none => _)
    rw [List.findIdx?_map, show ((fun x : SObj => starts (m.get o.a) x && ((x.b.length : Int) == m.get o.b)) ∘ SObj.pub) = (fun x : SObj => starts (m.get o.a) x && ((x.b.length : Int) == m.get o.b)) by
      funext x
      show (starts (m.get o.a) x.pub && ((x.pub.b.length : Int) == m.get o.b)) = _
      rw [pub_len]
      rfl]
    cases h1 : m.arena.findIdx? (fun x => starts (m.get o.a) x && ((x.b.length : Int) == m.get o.b)) with
    | some i =>
      refine congrArg Res.go ?_
      have := modify_map SObj.wiped SObj.wiped m.arena i fun _ => wiped_pub _
      unfold SM.pub
      simp only [mask_mask, pubs_pub]
      rw [this]
    | none => exact congrArg (Res.over 40) (SM.pub_pub p.sec m).symm
  by_cases e11 : o.k = 11
  · rw [opM_11 _ e11, opM_11 _ e11]
    unfold freeS
    rw [get_pub' (hF.f8 (by omega))]
    show _ = Res.pub p.sec (match (m.arena.map SObj.pub).findIdx? _ with | some i => _ | none => _)
    rw [List.findIdx?_map, show starts (m.get o.a) ∘ SObj.pub = starts (m.get o.a) by funext x; rfl]
    cases h1 : m.arena.findIdx? (starts (m.get o.a)) with
    | some i =>
      refine congrArg Res.go ?_
      unfold SM.pub
      simp only [mask_mask, pubs_pub, List.map_take]
    | none => exact congrArg (Res.over 40) (SM.pub_pub p.sec m).symm
  rw [opM_13 _ (by omega), opM_13 _ (by omega)]
  exact stay

/-! ### What was told -/
/-- Two rows that part somewhere. -/
def Parts (a b : List Int) : Prop := ∃ i, i < a.length ∧ i < b.length ∧ a.getD i 0 ≠ b.getD i 0
theorem Parts.more {a b : List Int} (h : Parts a b) (c d : List Int) : Parts (a ++ c) (b ++ d) := by
  obtain ⟨i, h1, h2, h3⟩ := h
  refine ⟨i, by simp; omega, by simp; omega, ?_⟩
  simpa [List.getD_eq_getElem?_getD, List.getElem?_append_left h1, List.getElem?_append_left h2] using h3
theorem Parts.ne {a b : List Int} (h : Parts a b) : a ≠ b := by
  rintro rfl
  obtain ⟨i, _, _, h⟩ := h
  exact h rfl
theorem opM_told (m : SM) (o : SOp) : ∃ t, (opM m o).sm.told = m.told ++ t := by
  refine opM_ind (P := fun r => ∃ t, r.sm.told = m.told ++ t) m o ?_ ?_ ?_ ?_ ?_ ?_ ?_ ?_ ?_ ?_ ?_ ?_ ?_ <;> intro h
  · exact ⟨[], by simp [Res.sm, SM.put]⟩
  · exact ⟨[], by simp [Res.sm, SM.put]⟩
  · exact ⟨[], by simp [Res.sm, SM.put]⟩
  · refine ⟨[], ?_⟩
    unfold loadS
    split
    · simp [Res.sm, SM.put]
    · split <;> simp [Res.sm, SM.put]
  · refine ⟨[], ?_⟩
    unfold storeS
    split
    · simp [Res.sm]
    · split <;> simp [Res.sm]
  · exact ⟨[], by split <;> simp [Res.sm, trapS]⟩
  · exact ⟨[], by split <;> simp [Res.sm, trapS]⟩
  · exact ⟨[], by split <;> simp [Res.sm, trapS]⟩
  · refine ⟨[], ?_⟩
    unfold allocS
    split <;> simp [Res.sm, trapS]
  · refine ⟨[], ?_⟩
    unfold wipeS
    split <;> simp [Res.sm]
  · refine ⟨[], ?_⟩
    unfold freeS
    split <;> simp [Res.sm]
  · exact ⟨[m.get o.a], rfl⟩
  · exact ⟨[], by simp [Res.sm]⟩
theorem pay_told (m : SM) (n : Int) : (payS m n).sm.told = m.told := by
  unfold payS
  split <;> rfl
theorem step_told (m : SM) (o : SOp) : ∃ t, (stepS m o).sm.told = m.told ++ t := by
  have h := pay_told m (costS m o)
  unfold stepS
  cases hp : payS m (costS m o) with
  | over e m' => rw [hp] at h; exact ⟨[], by simpa [Res.bind, Res.sm] using h⟩
  | go m' =>
    rw [hp] at h
    obtain ⟨t, ht⟩ := opM_told m' o
    exact ⟨t, by rw [show m.told = m'.told from h.symm]; exact ht⟩
theorem ops_told (l : List SOp) : ∀ m, ∃ t, (opsS l m).sm.told = m.told ++ t := by
  induction l with
  | nil => intro m; exact ⟨[], by simp [opsS, Res.sm]⟩
  | cons o l ih =>
    intro m
    obtain ⟨t, ht⟩ := step_told m o
    show ∃ t, ((stepS m o).bind (opsS l)).sm.told = _
    cases hs : stepS m o with
    | over e m' => rw [hs] at ht; exact ⟨t, ht⟩
    | go m' =>
      rw [hs] at ht
      obtain ⟨t2, ht2⟩ := ih m'
      exact ⟨t ++ t2, by rw [← List.append_assoc, ← show m'.told = m.told ++ t from ht]; exact ht2⟩
theorem endM_told {b : SBlock} {m : SM} {r : Int × SM} (h : endM b m = .inr r) : r.2.told = m.told := by
  unfold endM at h
  split at h
  · cases h
  · split at h
    · cases h
    · split at h <;> cases h <;> rfl
theorem goes_told (p : SIr) : ∀ (n : Nat) (a : Int) (m : SM), ∃ t, (goesS p n a m).2.told = m.told ++ t
  | 0, _, m => ⟨[], by simp [goesS]⟩
  | n + 1, a, m => by
    obtain ⟨t, ht⟩ := ops_told (p.blk.getD a.toNat blockZ).ops m
    unfold goesS
    cases ho : opsS (p.blk.getD a.toNat blockZ).ops m with
    | over e m' => rw [ho] at ht; exact ⟨t, ht⟩
    | go m' =>
      rw [ho] at ht
      have ht' : m'.told = m.told ++ t := ht
      have hp := pay_told m' 1
      show ∃ t, (match payS m' 1 with | .over e m => (e, m) | .go m => _ : Int × SM).2.told = _
      cases hpay : payS m' 1 with
      | over e m2 =>
        rw [hpay] at hp
        exact ⟨t, by rw [← ht']; exact hp⟩
      | go m2 =>
        rw [hpay] at hp
        have hp' : m2.told = m'.told := hp
        show ∃ t, (match endM (p.blk.getD a.toNat blockZ) m2 with | .inl a2 => goesS p n a2 m2 | .inr r => r : Int × SM).2.told = _
        cases he : endM (p.blk.getD a.toNat blockZ) m2 with
        | inl a2 =>
          obtain ⟨t2, ht2⟩ := goes_told p n a2 m2
          exact ⟨t ++ t2, by rw [← List.append_assoc, ← ht', ← hp']; exact ht2⟩
        | inr r =>
          have := endM_told he
          exact ⟨t, by rw [← ht', ← hp']; exact this⟩

/-! ### Two runs -/
/-- Two machines, the same but for secrets. -/
def Same2 (s : List Bool) (r1 r2 : Res) : Prop := r1.pub s = r2.pub s
theorem opM_same {p : SIr} {o : SOp} (hF : Flow p o) {m1 m2 : SM} (h : m1.pub p.sec = m2.pub p.sec) :
    (opM m1 o).pub p.sec = (opM m2 o).pub p.sec ∨ (o.k = 12 ∧ Parts (opM m1 o).sm.told (opM m2 o).sm.told) := by
  by_cases hk : o.k = 12
  · have ht : m1.told = m2.told := by have := congrArg SM.told h; exact this
    by_cases hg : m1.get o.a = m2.get o.a
    · left
      rw [opM_12 _ hk, opM_12 _ hk]
      refine congrArg Res.go ?_
      have h1 := put_pub p.sec m1 o.d (m1.get o.a)
      have h2 := put_pub p.sec m2 o.d (m2.get o.a)
      rw [h, hg, ← h2] at h1
      have q := PE.of h1
      rw [hg]
      exact PE.to ⟨q.v, q.h, q.a, q.l, q.t, q.z, q.f, q.e, q.p, q.s, by show m1.told ++ _ = m2.told ++ _; rw [ht]⟩
    · right
      rw [opM_12 _ hk, opM_12 _ hk]
      refine ⟨hk, m1.told.length, by simp [Res.sm], by simp [Res.sm, ht], ?_⟩
      simp only [Res.sm]
      rw [show m2.told = m1.told from ht.symm]
      simpa using hg
  · left
    rw [opM_pub hF hk m1, opM_pub hF hk m2, h]
theorem pay_same {s : List Bool} {m1 m2 : SM} (h : m1.pub s = m2.pub s) (n : Int) : (payS m1 n).pub s = (payS m2 n).pub s := by
  have h1 : m1.fuel = m2.fuel := by have := congrArg SM.fuel h; exact this
  have h2 : m1.steps = m2.steps := by have := congrArg SM.steps h; exact this
  unfold payS
  rw [h1, h2]
  split
  · exact congrArg (Res.over 0) h
  · refine congrArg Res.go ?_
    have q := PE.of h
    exact PE.to ⟨q.v, q.h, q.a, q.l, q.t, q.z, rfl, q.e, q.p, rfl, q.o⟩
theorem pub_cases {s : List Bool} {r1 r2 : Res} (h : r1.pub s = r2.pub s) : (∃ m1 m2, r1 = .go m1 ∧ r2 = .go m2 ∧ m1.pub s = m2.pub s) ∨ (∃ e m1 m2, r1 = .over e m1 ∧ r2 = .over e m2 ∧ m1.pub s = m2.pub s) := by
  cases r1 with
  | go m1 => cases r2 with
    | go m2 => exact .inl ⟨m1, m2, rfl, rfl, by injection h⟩
    | over e m2 => cases h
  | over e m1 => cases r2 with
    | go m2 => cases h
    | over e' m2 =>
      injection h with h1 h2
      subst h1
      exact .inr ⟨e, m1, m2, rfl, rfl, h2⟩
theorem step_same {p : SIr} {o : SOp} (hF : Flow p o) {m1 m2 : SM} (h : m1.pub p.sec = m2.pub p.sec) :
    (stepS m1 o).pub p.sec = (stepS m2 o).pub p.sec ∨ (o.k = 12 ∧ Parts (stepS m1 o).sm.told (stepS m2 o).sm.told) := by
  have hc : costS m1 o = costS m2 o := by rw [← cost_pub hF m1, ← cost_pub hF m2, h]
  have hp := pay_same h (costS m2 o)
  unfold stepS
  rw [hc]
  rcases pub_cases hp with ⟨a1, a2, e1, e2, h'⟩ | ⟨e, a1, a2, e1, e2, h'⟩
  · rw [e1, e2]
    exact opM_same hF h'
  · rw [e1, e2]
    exact .inl (congrArg (Res.over e) h')
theorem ops_same {p : SIr} : ∀ (l : List SOp) (hl : ∀ o ∈ l, Flow p o) (m1 m2 : SM), m1.pub p.sec = m2.pub p.sec →
    (opsS l m1).pub p.sec = (opsS l m2).pub p.sec ∨ ((∃ o ∈ l, o.k = 12) ∧ Parts (opsS l m1).sm.told (opsS l m2).sm.told)
  | [], _, m1, m2, h => .inl (congrArg Res.go h)
  | o :: l, hl, m1, m2, h => by
    show ((stepS m1 o).bind (opsS l)).pub p.sec = ((stepS m2 o).bind (opsS l)).pub p.sec ∨ (_ ∧ Parts ((stepS m1 o).bind (opsS l)).sm.told ((stepS m2 o).bind (opsS l)).sm.told)
    rcases step_same (hl o (by simp)) h with hs | ⟨hk, hp⟩
    · rcases pub_cases hs with ⟨a1, a2, e1, e2, h'⟩ | ⟨e, a1, a2, e1, e2, h'⟩
      · rw [e1, e2]
        rcases ops_same l (fun o' ho' => hl o' (by simp [ho'])) a1 a2 h' with h2 | ⟨⟨o', h3, h4⟩, h5⟩
        · exact .inl h2
        · exact .inr ⟨⟨o', by simp [h3], h4⟩, h5⟩
      · rw [e1, e2]
        exact .inl (congrArg (Res.over e) h')
    · refine .inr ⟨⟨o, by simp, hk⟩, ?_⟩
      have ext : ∀ r : Res, ∃ t, (r.bind (opsS l)).sm.told = r.sm.told ++ t := by
        intro r
        cases r with
        | go m => exact ops_told l m
        | over e m => exact ⟨[], by simp [Res.bind, Res.sm]⟩
      obtain ⟨t1, h1⟩ := ext (stepS m1 o)
      obtain ⟨t2, h2⟩ := ext (stepS m2 o)
      rw [h1, h2]
      exact hp.more t1 t2
/-- Is there a step that tells? -/
def tellsS (p : SIr) : Bool := p.blk.any fun b => b.ops.any fun o => o.k == 12
theorem endM_same {p : SIr} {b : SBlock} (hb : endS p b = true ∨ b = blockZ) {m1 m2 : SM} (h : m1.pub p.sec = m2.pub p.sec) :
    (∃ a, endM b m1 = .inl a ∧ endM b m2 = .inl a) ∨ (∃ r1 r2, endM b m1 = .inr r1 ∧ endM b m2 = .inr r2 ∧ r1.1 = r2.1 ∧ r1.2.pub p.sec = r2.2.pub p.sec) := by
  unfold endM
  by_cases e1 : b.e = 1
  · rw [if_pos e1, if_pos e1]; exact .inl ⟨_, rfl, rfl⟩
  rw [if_neg e1, if_neg e1]
  by_cases e2 : b.e = 2
  · rw [if_pos e2, if_pos e2]
    have hs : secS p b.a = false := by
      rcases hb with hb | rfl
      · unfold endS at hb
        rw [if_neg e1, if_pos e2] at hb
        simp only [Bool.and_eq_true, Bool.not_eq_true'] at hb
        exact hb.1.1.2
      · cases e2
    have hg : m1.get b.a = m2.get b.a := by rw [← get_pub' (m := m1) hs, ← get_pub' (m := m2) hs, h]
    rw [hg]
    exact .inl ⟨_, rfl, rfl⟩
  rw [if_neg e2, if_neg e2]
  by_cases e4 : b.e = 4
  · rw [if_pos e4, if_pos e4]
    refine .inr ⟨_, _, rfl, rfl, rfl, ?_⟩
    have q := PE.of h
    exact PE.to ⟨q.v, q.h, q.a, q.l, q.t, q.z, q.f, rfl, rfl, q.s, q.o⟩
  rw [if_neg e4, if_neg e4]
  refine .inr ⟨_, _, rfl, rfl, rfl, ?_⟩
  have q := PE.of h
  exact PE.to ⟨q.v, q.h, q.a, q.l, q.t, q.z, q.f, rfl, q.p, q.s, q.o⟩
theorem goes_same {p : SIr} (hF : ∀ b ∈ p.blk, (∀ o ∈ b.ops, Flow p o) ∧ endS p b = true) : ∀ (n : Nat) (a : Int) (m1 m2 : SM), m1.pub p.sec = m2.pub p.sec →
    ((goesS p n a m1).1 = (goesS p n a m2).1 ∧ (goesS p n a m1).2.pub p.sec = (goesS p n a m2).2.pub p.sec) ∨ (tellsS p = true ∧ Parts (goesS p n a m1).2.told (goesS p n a m2).2.told)
  | 0, _, m1, m2, h => .inl ⟨rfl, h⟩
  | n + 1, a, m1, m2, h => by
    have hfl : ∀ o ∈ (p.blk.getD a.toNat blockZ).ops, Flow p o := by
      intro o ho
      rw [List.getD_eq_getElem?_getD] at ho
      cases hb : p.blk[a.toNat]? with
      | none => rw [hb] at ho; simp [blockZ] at ho
      | some b => rw [hb] at ho; exact (hF b (List.mem_of_getElem? hb)).1 o ho
    have hen : endS p (p.blk.getD a.toNat blockZ) = true ∨ p.blk.getD a.toNat blockZ = blockZ := by
      rw [List.getD_eq_getElem?_getD]
      cases hb : p.blk[a.toNat]? with
      | none => exact .inr rfl
      | some b => exact .inl (hF b (List.mem_of_getElem? hb)).2
    have htl : (∃ o ∈ (p.blk.getD a.toNat blockZ).ops, o.k = 12) → tellsS p = true := by
      rintro ⟨o, ho, hk⟩
      rw [List.getD_eq_getElem?_getD] at ho
      cases hb : p.blk[a.toNat]? with
      | none => rw [hb] at ho; simp [blockZ] at ho
      | some b =>
        rw [hb] at ho
        unfold tellsS
        exact List.any_eq_true.2 ⟨b, List.mem_of_getElem? hb, List.any_eq_true.2 ⟨o, ho, by simpa using hk⟩⟩
    generalize hbk : p.blk.getD a.toNat blockZ = b at hfl hen htl
    have unf : ∀ m, goesS p (n + 1) a m = (match (opsS b.ops m).bind fun m => payS m 1 with
      | .over e m => (e, m)
      | .go m => match endM b m with
        | .inl a2 => goesS p n a2 m
        | .inr r => r) := by intro m; rw [← hbk]; rfl
    have tail : ∀ r : Res, ∃ t, (match r.bind fun m => payS m 1 with
      | .over e m => (e, m)
      | .go m => match endM b m with
        | .inl a2 => goesS p n a2 m
        | .inr r => r : Int × SM).2.told = r.sm.told ++ t := by
      intro r
      cases r with
      | over e m => exact ⟨[], by simp [Res.bind, Res.sm]⟩
      | go m =>
        have hp := pay_told m 1
        simp only [Res.bind, Res.sm]
        cases hpay : payS m 1 with
        | over e m2 => rw [hpay] at hp; exact ⟨[], by simpa [Res.sm] using hp⟩
        | go m2 =>
          rw [hpay] at hp
          have hp' : m2.told = m.told := hp
          simp only
          cases he : endM b m2 with
          | inl a2 =>
            obtain ⟨t2, ht2⟩ := goes_told p n a2 m2
            exact ⟨t2, by rw [← hp']; exact ht2⟩
          | inr r => exact ⟨[], by rw [← hp']; simpa using endM_told he⟩
    rw [unf, unf]
    rcases ops_same b.ops hfl m1 m2 h with ho | ⟨hk, hp⟩
    · rcases pub_cases ho with ⟨a1, a2, e1, e2, h'⟩ | ⟨e, a1, a2, e1, e2, h'⟩
      · rw [e1, e2]
        simp only [Res.bind]
        rcases pub_cases (pay_same h' 1) with ⟨c1, c2, g1, g2, h2⟩ | ⟨e, c1, c2, g1, g2, h2⟩
        · rw [g1, g2]
          simp only
          rcases endM_same hen h2 with ⟨x, q1, q2⟩ | ⟨r1, r2, q1, q2, q3, q4⟩
          · rw [q1, q2]
            exact goes_same hF n x c1 c2 h2
          · rw [q1, q2]
            exact .inl ⟨q3, q4⟩
        · rw [g1, g2]
          exact .inl ⟨rfl, h2⟩
      · rw [e1, e2]
        exact .inl ⟨rfl, h'⟩
    · right
      obtain ⟨t1, h1⟩ := tail (opsS b.ops m1)
      obtain ⟨t2, h2⟩ := tail (opsS b.ops m2)
      rw [h1, h2]
      exact ⟨htl hk, hp.more t1 t2⟩
end Go.Proofs.YtoabiignjkcdmaaGreat
