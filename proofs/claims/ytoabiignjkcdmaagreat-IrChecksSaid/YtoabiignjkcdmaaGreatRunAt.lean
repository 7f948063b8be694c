/-
  at: which byte stands at a place, walked.
-/
import Derived.Test.YtoabiignjkcdmaaGreatRunA2
namespace Go.Proofs.YtoabiignjkcdmaaGreat
open Go.RowKit
set_option linter.unusedVariables false
set_option linter.unusedSimpArgs false

/-- An object's cells, by its number. -/
theorem obj_at {w : World} {B : Nat} {v : Value} {xs : List SObj} {bvs : List Value} (h : w.ownsRow B 85 4 v xs.length (objsC xs bvs)) (hl : bvs.length = xs.length) (i : Nat) (hi : i < xs.length) (hi2 : i < bvs.length) :
    ∃ g c, v = .slice (some ⟨g, 0, none⟩) xs.length c ∧ w.cell? ⟨g, i * 4, none⟩ = some (.int .u64 xs[i].at') ∧ w.cell? ⟨g, i * 4 + 1, none⟩ = some bvs[i] ∧ w.cell? ⟨g, i * 4 + 2, none⟩ = some (.bool xs[i].sec) ∧ w.cell? ⟨g, i * 4 + 3, none⟩ = some (.bool xs[i].fixed) := by
  obtain ⟨g, c, rfl, _, _⟩ := h.form (by omega)
  refine ⟨g, c, rfl, ?_, ?_, ?_, ?_⟩
  · rw [World.ownsRow.cellAt h (i * 4) (by omega)]
    have := objsC_get xs bvs i hi hi2 0 (by omega)
    rw [Nat.add_zero] at this
    rw [this]; rfl
  · rw [World.ownsRow.cellAt h (i * 4 + 1) (by omega), objsC_get xs bvs i hi hi2 1 (by omega)]; rfl
  · rw [World.ownsRow.cellAt h (i * 4 + 2) (by omega), objsC_get xs bvs i hi hi2 2 (by omega)]; rfl
  · rw [World.ownsRow.cellAt h (i * 4 + 3) (by omega), objsC_get xs bvs i hi hi2 3 (by omega)]; rfl
theorem own_shape' {w : World} {B n s : Nat} {e : TypeId} {v : Value} {xs : List Value} (h : w.ownsRow B e s v n xs) : ∃ a c, v = .slice a n c := by
  rcases h.2 with ⟨rfl, h0⟩ | ⟨g, cap, cur, rfl, _⟩
  · exact ⟨none, 0, by rw [h0]⟩
  · exact ⟨_, _, rfl⟩
theorem own_le {w : World} {B n s : Nat} {e : TypeId} {v : Value} {xs : List Value} (h : w.ownsRow B e s v n xs) : n ≤ 9223372036854775807 := by
  rcases h.2 with ⟨_, h0⟩ | ⟨g, cap, cur, _, _, _, h1, h2, _⟩
  · omega
  · unfold maxLen at h2
    omega
/-- What at answers. -/
def AtR (m : SM) (hbs abs : List Value) (p fn : Int) (st : Bool) (e : Ending) : Prop :=
  (∃ i, ∃ (h1 : i < m.handed.length) (h2 : i < hbs.length), m.handed.findIdx? (hits p fn st) = some i ∧ ∃ g c, hbs[i] = .slice (some ⟨g, 0, none⟩) m.handed[i].b.length c ∧ e = .returned (.pointer (some ⟨g, (p - m.handed[i].at').toNat, none⟩))) ∨
  (m.handed.findIdx? (hits p fn st) = none ∧ ∃ i, ∃ (h1 : i < m.arena.length) (h2 : i < abs.length), m.arena.findIdx? (hits p fn st) = some i ∧ ∃ g c, abs[i] = .slice (some ⟨g, 0, none⟩) m.arena[i].b.length c ∧ e = .returned (.pointer (some ⟨g, (p - m.arena[i].at').toNat, none⟩))) ∨
  (m.handed.findIdx? (hits p fn st) = none ∧ m.arena.findIdx? (hits p fn st) = none ∧ e = .panicked [{ v := overV 40, recovered := false }])
set_option maxRecDepth 100000 in
set_option maxHeartbeats 4000000 in
theorem at_c (m : SM) (w : World) (base B2 mb nv : Nat) (vv hv av lv tv : Value) (hbs abs : List Value) (hR : MRows w base B2 m vv hv av lv tv hbs abs) (hM : Bk w mb (mC m vv hv av lv tv) 81) (hw : MWf m nv) (p fn : Int) (st : Bool) (p0 : 0 ≤ p) (p1 : p < 18446744073709551616) :
    Calls Tryz.prog 111 #[.pointer (some ⟨mb, 0, none⟩), .int .u64 p, .int .u8 fn, .bool st] w fun e w' => AtR m hbs abs p fn st e ∧ Below w.heap.size w w' := by
  obtain ⟨ha, hac, rfl⟩ := own_shape' hR.h
  obtain ⟨aa, aac, rfl⟩ := own_shape' hR.a
  have CM := hM.cell
  go_enter Tryz.func111, Tryz.ntmps111
  go_wp2_with fail
  go_region
  go_wp2_with fail
  have hR0 := Lib.hid hR
  have hW0 := Lib.hid hw
  have hbA := ((Below.refl w.heap.size w).alloc (Nat.le_refl _) (.cells #[.slice ha m.handed.length hac, .slice aa m.arena.length aac] 78)).drew
  have BL := (Bk.new w #[.slice ha m.handed.length hac, .slice aa m.arena.length aac] 78).drew
  clear CM hM hR hw
  go_loopw [23] (fun k wr => ∃ kk : Nat, kk ≤ 2 ∧ k = .int .i64 kk ∧ (1 ≤ kk → m.handed.findIdx? (hits p fn st) = none) ∧ (2 ≤ kk → m.arena.findIdx? (hits p fn st) = none) ∧ Below w.heap.size w wr ∧ Bk wr w.heap.size #[.slice ha m.handed.length hac, .slice aa m.arena.length aac] 78) (fun k _ => 2 - (intOf k).toNat)
  case atStart => exact ⟨0, by omega, rfl, fun h => by omega, fun h => by omega, hbA, BL⟩
  case round =>
    clear hbA BL
    obtain ⟨kk, hk2, rfl, hn1, hn2, hb, BL⟩ := hrel
    by_cases hlt : (kk : Int) < 2
    · obtain ⟨xs, bvs, B, ra, rc, hown, hl, hby, crow, lhit, lnone, hxw⟩ : ∃ (xs : List SObj) (bvs : List Value) (B : Nat) (ra : Option Addr) (rc : Nat), w.ownsRow B 85 4 (.slice ra xs.length rc) xs.length (objsC xs bvs) ∧ bvs.length = xs.length ∧
          (∀ i (h1 : i < xs.length) (h2 : i < bvs.length), ∃ g c, bvs[i] = .slice (some ⟨g, 0, none⟩) xs[i].b.length c) ∧ wr.cell? ⟨w.heap.size, kk, none⟩ = some (.slice ra xs.length rc) ∧
          (∀ i (h1 : i < xs.length) (h2 : i < bvs.length) g c, xs.findIdx? (hits p fn st) = some i → bvs[i] = .slice (some ⟨g, 0, none⟩) xs[i].b.length c → AtR m hbs abs p fn st (.returned (.pointer (some ⟨g, (p - xs[i].at').toNat, none⟩)))) ∧
          (xs.findIdx? (hits p fn st) = none → (1 ≤ kk + 1 → m.handed.findIdx? (hits p fn st) = none) ∧ (2 ≤ kk + 1 → m.arena.findIdx? (hits p fn st) = none)) ∧ ∀ x ∈ xs, 0 ≤ x.at' ∧ x.at' < 18446744073709551616 ∧ x.b.length ≤ 65536 := by
        have hk01 : kk = 0 ∨ kk = 1 := by omega
        rcases hk01 with rfl | rfl
        · refine ⟨m.handed, hbs, base, ha, hac, hR0.out.h, hR0.out.hl, fun i h1 h2 => ?_, BL.cell 0, fun i h1 h2 g c e1 e2 => .inl ⟨i, h1, h2, e1, g, c, e2, rfl⟩, fun h => ⟨fun _ => h, fun h2 => by omega⟩, fun x hx => ?_⟩
          · obtain ⟨g, c, e, _⟩ := (hR0.out.hb i h1 h2).1.shape
            exact ⟨g, c, e⟩
          · have := hW0.out.ob x (List.mem_append_left _ hx)
            exact ⟨this.1, this.2.1, this.2.2.1⟩
        · refine ⟨m.arena, abs, B2, aa, aac, hR0.out.a, hR0.out.al, fun i h1 h2 => ?_, BL.cell 1, fun i h1 h2 g c e1 e2 => .inr (.inl ⟨hn1 (by omega), i, h1, h2, e1, g, c, e2, rfl⟩), fun h => ⟨fun _ => hn1 (by omega), fun _ => h⟩, fun x hx => ?_⟩
          · obtain ⟨g, c, e, _⟩ := (hR0.out.ab i h1 h2).shape
            exact ⟨g, c, e⟩
          · have := hW0.out.ob x (List.mem_append_right _ hx)
            exact ⟨this.1, this.2.1, this.2.2.1⟩
      have hxl := own_le hown
      have HOWN := Lib.hid hown
      have HBY := Lib.hid hby
      have LH := Lib.hid lhit
      have LN := Lib.hid lnone
      have HXW := Lib.hid hxw
      have HN1 := Lib.hid hn1
      clear hown hby lhit lnone hxw hn1 hn2
      go_wp2_with fail
      go_loopw [29] (fun s w2 => ∃ ii : Nat, ii ≤ xs.length ∧ s = .int .i64 ii ∧ (∀ j (h : j < xs.length), j < ii → hits p fn st xs[j] = false) ∧ Below w.heap.size w w2 ∧ Bk w2 w.heap.size #[.slice ha m.handed.length hac, .slice aa m.arena.length aac] 78) (fun s _ => xs.length - (intOf s).toNat)
      case atStart => exact ⟨0, Nat.zero_le _, rfl, fun j _ h => absurd h (by omega), hb, BL⟩
      case round =>
        clear hb BL crow
        obtain ⟨ii, hii, rfl, hall, hb2, BL2⟩ := hrel
        have HA := Lib.hid hall
        clear hall
        by_cases hlt2 : (ii : Int) < (xs.length : Int)
        · have hii2 : ii < xs.length := by omega
          have hii3 : ii < bvs.length := by omega
          obtain ⟨bg, bc, hbv⟩ := HBY.out ii hii2 hii3
          obtain ⟨rg, rc', hrow, q0, q1, q2, q3⟩ := obj_at (own_below HOWN.out hb2) hl ii hii2 hii3
          obtain ⟨rfl, rfl⟩ : ra = some ⟨rg, 0, none⟩ ∧ rc = rc' := by injection hrow with h1 h2 h3; exact ⟨h1, h3⟩
          clear hrow
          rw [hbv] at q1
          obtain ⟨x0, x1, x2⟩ := HXW.out _ (List.getElem_mem hii2)
          have hnext : hits p fn st xs[ii] = false → ∀ j (h : j < xs.length), j < ii + 1 → hits p fn st xs[j] = false := fun hf j h hj => by
            by_cases e : j = ii
            · subst e; exact hf
            · exact HA.out j h (by omega)
          have hhit : hits p fn st xs[ii] = true → xs.findIdx? (hits p fn st) = some ii := fun ht => by
            rw [List.findIdx?_eq_some_iff_getElem]
            exact ⟨hii2, ht, fun j hj => by rw [HA.out j (by omega) hj]; decide⟩
          have HNX := Lib.hid hnext
          have HHT := Lib.hid hhit
          clear hnext hhit
          have hba : ∀ v0 v1 v2 v3 : Value, Below w.heap.size w (wr.alloc (.cells #[v0, v1, v2, v3] 85)) := fun _ _ _ _ => hb2.alloc hb2.size _
          have BLa : ∀ v0 v1 v2 v3 : Value, Bk (wr.alloc (.cells #[v0, v1, v2, v3] 85)) w.heap.size #[.slice ha m.handed.length hac, .slice aa m.arena.length aac] 78 := fun _ _ _ _ => BL2.alloc _
          have HBA := Lib.hid hba
          have HBL := Lib.hid BLa
          clear hba BLa
          by_cases c1 : xs[ii].at' ≤ p
          case neg =>
            have hf : hits p fn st xs[ii] = false := by unfold hits; rw [decide_eq_false c1]; rfl
            go_wp2_with fail
            refine ⟨⟨ii + 1, hii2, ?_, HNX.out hf, HBA.out _ _ _ _, HBL.out _ _ _ _⟩, ?_⟩
            · go_num
            · simp [intOf]
              omega
          by_cases c2 : p - xs[ii].at' < (xs[ii].b.length : Int)
          case neg =>
            have hf : hits p fn st xs[ii] = false := by unfold hits; rw [decide_eq_false c2]; simp
            go_wp2_with fail
            refine ⟨⟨ii + 1, hii2, ?_, HNX.out hf, HBA.out _ _ _ _, HBL.out _ _ _ _⟩, ?_⟩
            · go_num
            · simp [intOf]
              omega
          cases c3 : (xs[ii].sec == (fn == 1)) with
          | false =>
            have hf : hits p fn st xs[ii] = false := by unfold hits; rw [c3]; simp
            go_wp2_with fail
            refine ⟨⟨ii + 1, hii2, ?_, HNX.out hf, HBA.out _ _ _ _, HBL.out _ _ _ _⟩, ?_⟩
            · go_num
            · simp [intOf]
              omega
          | true =>
          cases c4 : (!(st && xs[ii].fixed)) with
          | false =>
            have hf : hits p fn st xs[ii] = false := by unfold hits; rw [c4]; simp
            have hst : st = true ∧ xs[ii].fixed = true := by simpa using c4
            obtain ⟨rfl, c5⟩ := hst
            rw [c5] at q3
            clear c4 c5
            go_wp2_with fail
            refine ⟨⟨ii + 1, hii2, ?_, HNX.out hf, HBA.out _ _ _ _, HBL.out _ _ _ _⟩, ?_⟩
            · go_num
            · simp [intOf]
              omega
          | true =>
            have ht : hits p fn st xs[ii] = true := by unfold hits; rw [c3, c4, decide_eq_true c1, decide_eq_true c2]; rfl
            have hres := LH.out ii hii2 hii3 bg bc (HHT.out ht) hbv
            have hd0 : 0 ≤ p - xs[ii].at' := by omega
            have HRES := Lib.hid hres
            clear hres
            cases c5 : st with
            | false =>
              go_wp2_with fail
              go_ret
              exact ⟨HRES.out, HBA.out _ _ _ _⟩
            | true =>
              have hfx : xs[ii].fixed = false := by
                cases hx : xs[ii].fixed with
                | false => rfl
                | true => rw [hx, c5] at c4; exact absurd c4 (by decide)
              rw [hfx] at q3
              go_wp2_with fail
              go_ret
              have hz := HBA.out (.int .u64 xs[ii].at') (.slice (some ⟨bg, 0, none⟩) xs[ii].b.length bc) (.bool xs[ii].sec) (.bool false)
              exact ⟨HRES.out, hz⟩
        · have e : ii = xs.length := by omega
          subst e
          have hnone : xs.findIdx? (hits p fn st) = none := by
            rw [List.findIdx?_eq_none_iff]
            intro x hx
            obtain ⟨j, hj, rfl⟩ := List.getElem_of_mem hx
            exact HA.out j hj hj
          have hln := LN.out hnone
          go_wp2_with fail
          refine ⟨⟨kk + 1, ?_, ?_, hln.1, hln.2, hb2, BL2⟩, ?_⟩
          · omega
          · go_num
          · simp [intOf]
            omega
    · have e : kk = 2 := by omega
      subst e
      go_wp2_with fail
      refine ⟨rfl, .inr (.inr ⟨hn1 (by omega), hn2 (by omega), rfl⟩), hb⟩
end Go.Proofs.YtoabiignjkcdmaaGreat
