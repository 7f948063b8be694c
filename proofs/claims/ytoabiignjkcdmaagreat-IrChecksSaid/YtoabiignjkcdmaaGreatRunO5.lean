/-
  start: which stretch starts at a place, walked.
-/
import Derived.Test.YtoabiignjkcdmaaGreatRunO4
namespace Go.Proofs.YtoabiignjkcdmaaGreat
open Go.RowKit
set_option linter.unusedVariables false
set_option linter.unusedSimpArgs false

abbrev objV (x : SObj) (bv : Value) : Value := .agg #[.int .u64 x.at', bv, .bool x.sec, .bool x.fixed]
abbrev idxI (o : Option Nat) : Int := match o with | some i => i | none => -1
set_option maxRecDepth 100000 in
set_option maxHeartbeats 2000000 in
theorem free1_c (x : SObj) (bv : Value) (w : World) :
    Calls Tryz.prog 114 #[objV x bv] w fun e w' => e = .returned (.bool true) ∧ Below w.heap.size w w' := by
  go_enter Tryz.func114, Tryz.ntmps114
  go_wp2_with fail
  go_ret
  exact ⟨rfl, (Below.refl _ _).alloc (Nat.le_refl _) _⟩
set_option maxRecDepth 100000 in
set_option maxHeartbeats 2000000 in
theorem wipe1_c (x : SObj) (g c : Nat) (n : Int) (hl : x.b.length ≤ 65536) (w : World) (nb : Nat) (hn : w.cell? ⟨nb, 0, none⟩ = some (.int .u64 n)) :
    Calls Tryz.prog 113 #[objV x (.slice (some ⟨g, 0, none⟩) x.b.length c), .pointer (some ⟨nb, 0, none⟩)] w fun e w' => e = .returned (.bool ((x.b.length : Int) == n)) ∧ Below w.heap.size w w' := by
  have hnb : nb < w.heap.size := World.block_lt_of_cell? w _ hn
  have hba := (Below.refl w.heap.size w).alloc (Nat.le_refl _) (.cells #[.int .u64 x.at', .slice (some ⟨g, 0, none⟩) x.b.length c, .bool x.sec, .bool x.fixed] 85)
  go_enter Tryz.func113, Tryz.ntmps113
  go_wp2_with fail
  go_ret
  refine ⟨?_, hba⟩
  go_num
set_option maxRecDepth 100000 in
set_option maxHeartbeats 2000000 in
theorem start1_c (x : SObj) (bv : Value) (p : Int) (q : Bool) (gi : Nat) (lb : Array Value) (w : World) (pa fa : Nat) (hp : w.cell? ⟨pa, 0, none⟩ = some (.int .u64 p)) (hf : w.cell? ⟨fa, 0, none⟩ = some (.func (.func gi) #[] lb))
    (hEn : ∀ (args : Array Value) (w : World), (callFunc gi args).run Tryz.prog w = .ok (.enter gi args) w)
    (HI : Hid (∀ W, Below w.heap.size w W → Calls Tryz.prog gi (#[objV x bv] ++ lb) W fun e w' => e = .returned (.bool q) ∧ Below W.heap.size W w')) :
    Calls Tryz.prog 137 #[objV x bv, .pointer (some ⟨pa, 0, none⟩), .pointer (some ⟨fa, 0, none⟩)] w fun e w' => e = .returned (.bool (starts p x && q)) ∧ Below w.heap.size w w' := by
  have hpa : pa < w.heap.size := World.block_lt_of_cell? w _ hp
  have hfa : fa < w.heap.size := World.block_lt_of_cell? w _ hf
  have hba := (Below.refl w.heap.size w).alloc (Nat.le_refl _) (.cells #[.int .u64 x.at', bv, .bool x.sec, .bool x.fixed] 85)
  go_enter Tryz.func137, Tryz.ntmps137
  by_cases h : x.at' = p
  · have hs : starts p x = true := by unfold starts; simpa using h
    rw [hs, Bool.true_and]
    obtain ⟨xa, xb, xs, xf⟩ := x
    simp only at h
    subst h
    have HC := Lib.hid (HI.out _ hba)
    clear HI
    go_wp2_with fail
    refine HC.out.mono ?_
    rintro e w1 ⟨rfl, hb1⟩
    go_wp2_with fail
    go_ret
    exact ⟨rfl, hba.trans (hb1.mono hba.size)⟩
  · have hs : starts p x = false := by unfold starts; simpa using h
    rw [hs, Bool.false_and]
    go_wp2_with fail
    go_ret
    exact ⟨rfl, hba⟩
set_option maxRecDepth 100000 in
set_option maxHeartbeats 4000000 in
theorem indexObj_c (xs : List SObj) (bvs : List Value) (B : Nat) (ra : Option Addr) (rc : Nat) (w : World) (hown : w.ownsRow B 85 4 (.slice ra xs.length rc) xs.length (objsC xs bvs)) (hl : bvs.length = xs.length)
    (hsh : ∀ i (h1 : i < xs.length) (h2 : i < bvs.length), ∃ g c, bvs[i] = .slice (some ⟨g, 0, none⟩) xs[i].b.length c) (q : SObj → Bool) (pa fa : Nat)
    (HP : Hid (∀ i (h1 : i < xs.length) (h2 : i < bvs.length) W, Below w.heap.size w W → Calls Tryz.prog 137 #[objV xs[i] bvs[i], .pointer (some ⟨pa, 0, none⟩), .pointer (some ⟨fa, 0, none⟩)] W fun e w' => e = .returned (.bool (q xs[i])) ∧ Below W.heap.size W w')) :
    Calls Tryz.prog 136 #[.slice ra xs.length rc, .func (.func 137) #[] #[.pointer (some ⟨pa, 0, none⟩), .pointer (some ⟨fa, 0, none⟩)]] w
      fun e w' => e = .returned (.int .i64 (idxI (xs.findIdx? q))) ∧ Below w.heap.size w w' := by
  have hxl := own_le hown
  have HOWN := Lib.hid hown
  have HSH := Lib.hid hsh
  clear hown hsh
  go_enter Tryz.func136, Tryz.ntmps136
  go_wp2_with fail
  go_loopw [8] (fun s wr => ∃ k : Nat, k ≤ xs.length ∧ s = .int .i64 k ∧ (∀ j (h : j < xs.length), j < k → q xs[j] = false) ∧ Below w.heap.size w wr) (fun s _ => xs.length - (intOf s).toNat)
  case atStart => exact ⟨0, Nat.zero_le _, rfl, fun j _ h => absurd h (by omega), Below.refl _ _⟩
  case round =>
    obtain ⟨k, hk, rfl, hall, hb⟩ := hrel
    have HA := Lib.hid hall; clear hall
    by_cases hlt : k < xs.length
    · have hlt2 : k < bvs.length := by omega
      obtain ⟨bg, bc, hbv⟩ := HSH.out k hlt hlt2
      obtain ⟨rg, rc', hrow, q0, q1, q2, q3⟩ := obj_at (own_below HOWN.out hb) hl k hlt hlt2
      obtain ⟨rfl, rfl⟩ : ra = some ⟨rg, 0, none⟩ ∧ rc = rc' := by injection hrow with h1 h2 h3; exact ⟨h1, h3⟩
      clear hrow
      rw [hbv] at q1
      have HC := Lib.hid (HP.out k hlt hlt2 _ hb)
      rw [hbv] at HC
      cases hq : q xs[k] with
      | true =>
        have HQ := Lib.hid hq
        clear hq
        go_wp2_with (go_at_call 137; refine HC.out.mono ?_; rintro e w1 ⟨rfl, hb1⟩; rw [HQ.out])
        go_ret
        have hfi : xs.findIdx? q = some k := by
          rw [List.findIdx?_eq_some_iff_getElem]
          exact ⟨hlt, HQ.out, fun j hj => by rw [HA.out j (by omega) hj]; decide⟩
        rw [hfi]
        exact ⟨rfl, hb.trans (hb1.mono hb.size)⟩
      | false =>
        have HQ := Lib.hid hq
        clear hq
        go_wp2_with (go_at_call 137; refine HC.out.mono ?_; rintro e w1 ⟨rfl, hb1⟩; rw [HQ.out])
        refine ⟨⟨k + 1, hlt, by go_num, fun j h hj => ?_, hb.trans (hb1.mono hb.size)⟩, ?_⟩
        · by_cases e : j = k
          · subst e; exact HQ.out
          · exact HA.out j h (by omega)
        · simp [intOf]
          omega
    · have e : k = xs.length := by omega
      subst e
      have hnone : xs.findIdx? q = none := by
        rw [List.findIdx?_eq_none_iff]
        intro x hx
        obtain ⟨j, hj, rfl⟩ := List.getElem_of_mem hx
        exact HA.out j hj hj
      go_wp2_with fail
      go_ret
      rw [hnone]
      exact ⟨rfl, hb⟩
/-- start: found, or the run is over. -/
def StartP (m : SM) (q : SObj → Bool) (w : World) (e : Ending) (w' : World) : Prop :=
  Below w.heap.size w w' ∧ match m.arena.findIdx? q with
    | some i => e = .returned (.int .i64 i)
    | none => e = .panicked [{ v := overV 40, recovered := false }]
set_option maxRecDepth 100000 in
set_option maxHeartbeats 4000000 in
theorem start_c (m : SM) (w : World) (base B2 mb nv : Nat) (vv hv av lv tv : Value) (hbs abs : List Value) (hR : MRows w base B2 m vv hv av lv tv hbs abs) (hM : Bk w mb (mC m vv hv av lv tv) 81) (hw : MWf m nv) (p : Int) (p0 : 0 ≤ p) (p1 : p < 18446744073709551616)
    (gi : Nat) (lb : Array Value) (q : SObj → Bool) (hEn : ∀ (args : Array Value) (w : World), (callFunc gi args).run Tryz.prog w = .ok (.enter gi args) w)
    (HI : Hid (∀ i (h1 : i < m.arena.length) (h2 : i < abs.length) W, Below w.heap.size w W → Calls Tryz.prog gi (#[objV m.arena[i] abs[i]] ++ lb) W fun e w' => e = .returned (.bool (q m.arena[i])) ∧ Below W.heap.size W w')) :
    Calls Tryz.prog 112 #[.pointer (some ⟨mb, 0, none⟩), .int .u64 p, .func (.func gi) #[] lb] w (StartP m (fun x => starts p x && q x) w) := by
  obtain ⟨aa, aac, rfl⟩ := own_shape' hR.a
  have CM := hM.cell
  obtain ⟨w1, hw1⟩ : ∃ w1, w1 = w.alloc (.cells #[.int .u64 p] 46) := ⟨_, rfl⟩
  have hb1 : Below w.heap.size w w1 := by rw [hw1]; exact (Below.refl w.heap.size w).alloc (Nat.le_refl _) _
  have B1 : Bk w1 w.heap.size #[.int .u64 p] 46 := by rw [hw1]; exact Bk.new _ _ _
  have s1 : w1.heap.size = w.heap.size + 1 := by rw [hw1]; simp
  obtain ⟨w2, hw2⟩ : ∃ w2, w2 = w1.alloc (.cells #[.func (.func gi) #[] lb] 162) := ⟨_, rfl⟩
  have hb2 : Below w1.heap.size w1 w2 := by rw [hw2]; exact (Below.refl w1.heap.size w1).alloc (Nat.le_refl _) _
  have B2' : Bk w2 (w.heap.size + 1) #[.func (.func gi) #[] lb] 162 := by rw [hw2, ← s1]; exact Bk.new _ _ _
  have hb3 : Below w.heap.size w w2 := hb1.trans (hb2.mono hb1.size)
  have hR2 := hR.below hb3
  have C1 := (B1.mono hb2).cell
  have C2 := B2'.cell
  have HIX := Lib.hid (indexObj_c m.arena abs B2 aa aac w2 hR2.a hR.al (fun i h1 h2 => by
    obtain ⟨g, c, e, _⟩ := (hR.ab i h1 h2).shape
    exact ⟨g, c, e⟩) (fun x => starts p x && q x) w.heap.size (w.heap.size + 1) (Lib.hid fun i h1 h2 W hW => start1_c _ _ p _ gi lb W _ _ (cm (C1 0) hW) (cm (C2 0) hW) hEn (Lib.hid fun W2 hW2 => HI.out i h1 h2 W2 (hb3.trans ((hW.trans (hW2.mono hW.size)).mono hb3.size)))))
  clear hR2 C1 C2 HI hR
  have CM2 := (hM.mono hb3).cell
  have hss : w1.heap.size = w.heap.size + 1 := s1
  go_enter Tryz.func112, Tryz.ntmps112
  go_upto_region 1 with (fail)
  rw [← hw1, ← hw2]
  clear hw1 hw2 B1 B2' s1 hss hEn hb1 hb2
  cases hq : m.arena.findIdx? (fun x => starts p x && q x) with
  | some i =>
    rw [hq] at HIX
    have hi0 : ¬ ((i : Int) < 0) := by omega
    go_wp2_with (go_at_call 136; refine HIX.out.mono ?_; rintro e w3 ⟨rfl, hb4⟩)
    go_ret
    unfold StartP
    rw [hq]
    exact ⟨hb3.trans (hb4.mono hb3.size), rfl⟩
  | none =>
    rw [hq] at HIX
    go_wp2_with (go_at_call 136; refine HIX.out.mono ?_; rintro e w3 ⟨rfl, hb4⟩)
    refine ⟨rfl, ?_⟩
    unfold StartP
    rw [hq]
    exact ⟨hb3.trans (hb4.mono hb3.size), rfl⟩
end Go.Proofs.YtoabiignjkcdmaaGreat
