/-
  Lemmas (texts RefC4), each proved without a condition beyond its own hypotheses.
-/
import Derived.Test.YtoabiignjkcdmaaGreatFd22
import Derived.Test.YtoabiignjkcdmaaGreatFd30
import Derived.Test.YtoabiignjkcdmaaGreatFd31
namespace Go.Proofs.YtoabiignjkcdmaaGreat
open Go.RowKit
set_option linter.unusedVariables false
set_option linter.unusedSimpArgs false

/-- Which variables are met, in memory. -/
def metC (n : Nat) (l : List Int) : Array Value := ((List.range n).map fun (i : Nat) => Value.bool (decide ((i : Int) ∈ l))).toArray
theorem metC_size (n : Nat) (l : List Int) : (metC n l).size = n := by simp [metC]
theorem metC_nil (n : Nat) : madeCells #[.bool false] n = metC n [] := by
  apply Array.ext_getElem?
  intro i
  by_cases h : i < n
  · simp [madeCells, metC, h, Nat.mod_one]
  · rw [Array.getElem?_eq_none (by rw [size_madeCells]; omega), Array.getElem?_eq_none (by rw [metC_size]; omega)]
theorem metC_get {n : Nat} {l : List Int} {d : Int} (h : 0 ≤ d ∧ d < (n : Int)) : (metC n l)[d.toNat]? = some (.bool (decide (d ∈ l))) := by
  have h1 : d.toNat < n := by omega
  have h2 : ((d.toNat : Nat) : Int) = d := by omega
  simp [metC, h1, h2]
theorem metC_set {n : Nat} {l : List Int} {d : Int} (h : 0 ≤ d ∧ d < (n : Int)) : (metC n l).setIfInBounds d.toNat (.bool true) = metC n (l ++ [d]) := by
  apply Array.ext_getElem?
  intro i
  by_cases h1 : i < n
  · by_cases h2 : d.toNat = i
    · subst h2
      have h3 : ((d.toNat : Nat) : Int) = d := by omega
      simp [metC, h1, h3]
    · have h3 : ¬ (i : Int) = d := by omega
      rw [Array.getElem?_setIfInBounds_ne h2]
      simp [metC, h1, h3]
  · rw [Array.getElem?_eq_none (by simp [metC]; omega), Array.getElem?_eq_none (by rw [metC_size]; omega)]
theorem metC_at {w : World} {g n : Nat} {l : List Int} {d : Int} (hB : Bk w g (metC n l) 4) (h : 0 ≤ d ∧ d < (n : Int)) : w.cell? ⟨g, 0 + d.toNat, none⟩ = some (.bool (decide (d ∈ l))) := by
  rw [Nat.zero_add, hB.cell, metC_get h]
theorem metC_at' {w : World} {g n : Nat} {l : List Int} {d : Int} (hB : Bk w g (metC n l) 4) (h : 0 ≤ d ∧ d < (n : Int)) : w.cell? ⟨g, d.toNat, none⟩ = some (.bool (decide (d ∈ l))) := by
  rw [hB.cell, metC_get h]
theorem metC_put {w : World} {g n : Nat} {l : List Int} {d : Int} (hB : Bk w g (metC n l) 4) (h : 0 ≤ d ∧ d < (n : Int)) : Bk (w.setCell ⟨g, d.toNat, none⟩ (.bool true)) g (metC n (l ++ [d])) 4 := by
  have := hB.set d.toNat (.bool true)
  rwa [metC_set h] at this

/-- Is one of Params refused, ahead of what its length says? -/
def refH (p : SIr) (l : List Int) (h : SHanded) : Bool :=
  !varB p.sec.length h.d true || decide (h.d ∈ l) || (h.mu && !h.buf) || (secS p h.d != (h.sec && !h.buf)) || !varB p.sec.length h.len h.buf
theorem hand_refH {p : SIr} {l : List Int} {h : SHanded} (e : refH p l h = true) : handS p h = false ∨ ¬ (l ++ [h.d]).Nodup := by
  by_cases hm : h.d ∈ l
  · right
    intro hn
    rw [List.nodup_append] at hn
    exact hn.2.2 h.d hm h.d (by simp) rfl
  · left
    simp only [refH, decide_eq_false hm, Bool.or_false] at e
    unfold handS
    cases h1 : varB p.sec.length h.d true <;> cases h2 : varB p.sec.length h.len h.buf <;> cases h3 : (h.mu && !h.buf) <;> cases h4 : secS p h.d <;> cases h5 : (h.sec && !h.buf) <;> simp_all
theorem hand_free {p : SIr} {l : List Int} {h : SHanded} (e : refH p l h = false) : varB p.sec.length h.d true = true ∧ h.d ∉ l ∧ varB p.sec.length h.len h.buf = true ∧ handS p h = !(h.buf && secS p h.len) := by
  simp only [refH, Bool.or_eq_false_iff, Bool.not_eq_false', decide_eq_false_iff_not] at e
  obtain ⟨⟨⟨⟨h1, h2⟩, h3⟩, h4⟩, h5⟩ := e
  refine ⟨h1, h2, h5, ?_⟩
  unfold handS
  rw [h1, h5, h3]
  have : (secS p h.d == (h.sec && !h.buf)) = true := by
    cases ha : secS p h.d <;> cases hb : (h.sec && !h.buf) <;> simp_all
  rw [this]; rfl
def handedB (p : SIr) : Bool := p.par.all (handS p) && decide (p.par.length ≤ 8) && decide (metS p.par).Nodup
theorem metS_take_sub (l : List SHanded) (k : Nat) : (metS (l.take k)).Sublist (metS l) := by
  have e : metS l = metS (l.take k) ++ metS (l.drop k) := by
    conv => lhs; rw [← List.take_append_drop k l]
    simp only [metS, List.flatMap_append]
  rw [e]; exact List.sublist_append_left _ _
theorem handed_no {p : SIr} {k : Nat} (hk : k < p.par.length) (h : handS p p.par[k] = false ∨ ¬ (metS (p.par.take (k + 1))).Nodup) : handedB p = false := by
  unfold handedB
  rcases h with h | h
  · have : p.par.all (handS p) = false := by rw [List.all_eq_false]; exact ⟨p.par[k], List.getElem_mem hk, by simp [h]⟩
    rw [this]; rfl
  · have : ¬ (metS p.par).Nodup := fun hn => h (hn.sublist (metS_take_sub _ _))
    rw [decide_eq_false this, Bool.and_false]

set_option maxRecDepth 100000 in
set_option maxHeartbeats 2000000 in
theorem handed_c (p : SIr) (S P B : Option Addr) (c1 c2 c3 : Nat) (w : World) (hs : kBool.Row w S p.sec) (hp : kHanded.Row w P p.par) (hm : p.sec.length ≤ 100000) (hm2 : p.par.length ≤ 1000) :
    Calls Tryz.prog 26 #[.agg #[.slice S p.sec.length c1, .slice P p.par.length c2, .slice B p.blk.length c3]] w
      fun e w' => e = .returned (.bool (handedB p)) ∧ Below w.heap.size w w' := by
  have HMK := run_make_row' (P := Tryz.prog) 22 4 (.bool false) 1 Tryz.underlying22 infoBool rfl .i64 .i64 p.sec.length (by omega) (by omega)
  go_enter Tryz.func26, Tryz.ntmps26
  go_wp2_with fail
  rw [metC_nil]
  clear HMK
  go_loopw [4] (fun s wr => ∃ k : Nat, k ≤ p.par.length ∧ s = .int .i64 k ∧ (∀ j (h : j < p.par.length), j < k → handS p p.par[j] = true) ∧ (metS (p.par.take k)).Nodup ∧
      Bk wr w.heap.size #[.slice S p.sec.length c1, .slice P p.par.length c2, .slice B p.blk.length c3] 26 ∧ Bk wr (w.heap.size + 1) (metC p.sec.length (metS (p.par.take k))) 4 ∧ Below w.heap.size w wr) (fun s _ => p.par.length - (intOf s).toNat)
  case atStart => exact ⟨0, Nat.zero_le _, rfl, fun j _ h => absurd h (by omega), by simp [metS], (Bk.new _ _ _).alloc _, Bk.newAt _ _ (by simp), ((Below.refl _ _).alloc (Nat.le_refl _) _).alloc (by simp) _⟩
  case round =>
    obtain ⟨k, hk, rfl, hall, hnd, hB, hM, hb⟩ := hrel
    by_cases hlt : k < p.par.length
    · obtain ⟨pb, po, hP, g0, g1, g2, g3, g4⟩ := kHanded_at (hp.mono hb) k hlt
      have C := hB.cell
      have HA := Lib.hid hall; clear hall
      have HN := Lib.hid hnd; clear hnd
      have hMS := Lib.hid (show metS (p.par.take (k + 1)) = metS (p.par.take k) ++ (if p.par[k].buf then [p.par[k].d, p.par[k].len] else [p.par[k].d]) by rw [List.take_succ_eq_append_getElem hlt, metS_snoc])
      have hsr := hs.mono hb
      subst hP
      have HH : ∃ h, p.par[k] = h := ⟨_, rfl⟩
      obtain ⟨h, hh⟩ := HH
      rw [hh] at g0 g1 g2 g3 g4 hMS
      have HH := Lib.hid hh; clear hh
      obtain ⟨ml, hml⟩ : ∃ ml, ml = metS (p.par.take k) := ⟨_, rfl⟩
      rw [← hml] at hM HN hMS
      clear hml
      obtain ⟨buf, sec, mu, d, len⟩ := h
      simp only at g0 g1 g2 g3 g4 hMS
      have B1 := hB.alloc (.cells #[.bool buf, .bool sec, .bool mu, .int .i64 d, .int .i64 len] 61)
      have BM := hM.alloc (.cells #[.bool buf, .bool sec, .bool mu, .int .i64 d, .int .i64 len] 61)
      have B2 := Bk.new wr #[.bool buf, .bool sec, .bool mu, .int .i64 d, .int .i64 len] 61
      have B3 := (Below.refl wr.heap.size wr).alloc (Nat.le_refl _) (.cells #[.bool buf, .bool sec, .bool mu, .int .i64 d, .int .i64 len] 61)
      go_upto_region 6 with (fail)
      go_cut [67] (fun s we => s = .bool (refH p ml ⟨buf, sec, mu, d, len⟩) ∧ Below (wr.heap.size) wr we ∧ Bk we w.heap.size #[.slice S p.sec.length c1, .slice (some ⟨pb, po, none⟩) p.par.length c2, .slice B p.blk.length c3] 26 ∧ Bk we (w.heap.size + 1) (metC p.sec.length ml) 4 ∧ Bk we wr.heap.size #[.bool buf, .bool sec, .bool mu, .int .i64 d, .int .i64 len] 61)
      case first =>
        clear HA HN hMS HH g0 g1 g2 g3 g4 C
        cases V1 : varB p.sec.length d true with
        | false =>
          refine wp_evQ' (fun w' => Bk w' w.heap.size #[.slice S p.sec.length c1, .slice (some ⟨pb, po, none⟩) p.par.length c2, .slice B p.blk.length c3] 26 ∧ Bk w' (w.heap.size + 1) (metC p.sec.length ml) 4 ∧ Bk w' wr.heap.size #[.bool buf, .bool sec, .bool mu, .int .i64 d, .int .i64 len] 61 ∧ Below wr.heap.size wr w') [.ld w.heap.size 0 [.slice S p.sec.length c1, .slice (some ⟨pb, po, none⟩) p.par.length c2, .slice B p.blk.length c3], .ld wr.heap.size 3 [.int .i64 d], .call 52 #[.agg #[.slice S p.sec.length c1, .slice (some ⟨pb, po, none⟩) p.par.length c2, .slice B p.blk.length c3], .int .i64 d, .bool true] (.bool false)] [67] [.bool true] 22 46 [] (by kernel_rfl) (by kernel_rfl) (by kernel_rfl) (by kernel_rfl) (by kernel_rfl) (by kernel_rfl) ?_ ?_ ?_
          · exact ⟨B1.drew, BM.drew, B2.drew, B3.drew⟩
          · simp only [hintObs, ldObs, AllHold, List.append, List.cons_append, List.nil_append, QOb.Holds, cond_true, cond_false, Bool.not_true, Bool.not_false, Bool.and_true, Bool.and_false, Bool.true_and, Bool.false_and, Bool.bne_true, Bool.bne_false, Bool.xor_true, Bool.xor_false]
            repeat' (first | exact trivial | apply And.intro)
            all_goals first
              | (rintro w' ⟨b1, bm, b2, b3⟩; with_reducible exact b1.cell _)
              | (rintro w' ⟨b1, bm, b2, b3⟩; exact b2.cell _)
              | (rintro w' ⟨b1, bm, b2, b3⟩; exact b1.cell _)
              | (rintro w' ⟨b1, bm, b2, b3⟩; exact (refVar_c _ _ _).mono fun e w2 ⟨he, hb2⟩ => ⟨he.trans (by simp [*]), b1.mono hb2, bm.mono hb2, b2.mono hb2, bt b3 hb2⟩)
          · rintro w' g ⟨b1, bm, b2, b3⟩ hg
            simp only [List.map, List.cons.injEq, and_true] at hg
            simp only [frameIn, List.take_succ_cons, List.take_zero, List.range'_succ, List.range'_zero, List.map_cons, List.map_nil, List.cons_append, List.nil_append, List.drop_succ_cons, List.drop_zero, List.foldl_nil, hg]
            go_wp2
            go_meet
            case rel => exact ⟨by simp [refH, V1], b3, b1, bm, b2⟩
        | true =>
          have hdd := varB_in V1
          obtain ⟨sb, so, rfl⟩ := secS_some hsr d hdd
          have hsd := secS_cell hsr d hdd
          have hmd := Lib.hid (fun (w' : World) (hw : Bk w' (w.heap.size + 1) (metC p.sec.length ml) 4) => metC_at hw hdd)
          obtain ⟨m, hm0⟩ : ∃ m, decide (d ∈ ml) = m := ⟨_, rfl⟩
          obtain ⟨sd, hsd0⟩ : ∃ sd, secS p d = sd := ⟨_, rfl⟩
          obtain ⟨v2, hV2⟩ : ∃ v2, varB p.sec.length len buf = v2 := ⟨_, rfl⟩
          rw [hsd0] at hsd
          rw [hm0] at hmd
          have hres : refH p ml ⟨buf, sec, mu, d, len⟩ = (m || (mu && !buf) || (sd != (sec && !buf)) || !v2) := by
            simp only [refH, V1, hV2, hsd0, hm0, Bool.not_true, Bool.false_or]
          obtain ⟨d0, d1⟩ := hdd
          refine wp_evQ' (fun w' => Bk w' w.heap.size #[.slice (some ⟨sb, so, none⟩) p.sec.length c1, .slice (some ⟨pb, po, none⟩) p.par.length c2, .slice B p.blk.length c3] 26 ∧ Bk w' (w.heap.size + 1) (metC p.sec.length ml) 4 ∧ Bk w' wr.heap.size #[.bool buf, .bool sec, .bool mu, .int .i64 d, .int .i64 len] 61 ∧ Below wr.heap.size wr w') ([.ld w.heap.size 0 [.slice (some ⟨sb, so, none⟩) p.sec.length c1, .slice (some ⟨pb, po, none⟩) p.par.length c2, .slice B p.blk.length c3], .ld wr.heap.size 3 [.int .i64 d], .call 52 #[.agg #[.slice (some ⟨sb, so, none⟩) p.sec.length c1, .slice (some ⟨pb, po, none⟩) p.par.length c2, .slice B p.blk.length c3], .int .i64 d, .bool true] (.bool true), .ld wr.heap.size 3 [.int .i64 d], .at 22 (.slice (some ⟨w.heap.size + 1, 0, none⟩) p.sec.length p.sec.length) (.int .i64 d) (.pointer (some ⟨w.heap.size + 1, 0 + d.toNat, none⟩)), .ld (w.heap.size + 1) (0 + d.toNat) [.bool m]] ++ (bif m then [] else (([.ld wr.heap.size 2 [.bool mu]] ++ (bif mu then [.ld wr.heap.size 0 [.bool buf]] else [])) ++ (bif (mu && !buf) then [] else (([.ld w.heap.size 0 [.slice (some ⟨sb, so, none⟩) p.sec.length c1], .ld wr.heap.size 3 [.int .i64 d], .at 22 (.slice (some ⟨sb, so, none⟩) p.sec.length c1) (.int .i64 d) (.pointer (some ⟨sb, so + d.toNat, none⟩)), .ld sb (so + d.toNat) [.bool sd], .ld wr.heap.size 1 [.bool sec]] ++ (bif sec then [.ld wr.heap.size 0 [.bool buf]] else [])) ++ (bif (sd != (sec && !buf)) then [] else [.ld w.heap.size 0 [.slice (some ⟨sb, so, none⟩) p.sec.length c1, .slice (some ⟨pb, po, none⟩) p.par.length c2, .slice B p.blk.length c3], .ld wr.heap.size 4 [.int .i64 len], .ld wr.heap.size 0 [.bool buf], .call 52 #[.agg #[.slice (some ⟨sb, so, none⟩) p.sec.length c1, .slice (some ⟨pb, po, none⟩) p.par.length c2, .slice B p.blk.length c3], .int .i64 len, .bool buf] (.bool v2)])))))) [67] [.bool (m || (mu && !buf) || (sd != (sec && !buf)) || !v2)] 22 46 [] (by kernel_rfl) (by kernel_rfl) (by kernel_rfl) (by kernel_rfl) (by kernel_rfl) ?_ ?_ ?_ ?_
          · clear hres hV2 hsd hsd0 hm0 hmd
            cases m <;> cases v2 <;> cases buf <;> cases mu <;> cases sec <;> cases sd <;> kernel_rfl
          · exact ⟨B1.drew, BM.drew, B2.drew, B3.drew⟩
          · clear hres
            cases m <;> cases v2 <;> cases buf <;> cases mu <;> cases sec <;> cases sd <;>
            · simp only [hintObs, ldObs, AllHold, List.append, List.cons_append, List.nil_append, QOb.Holds, cond_true, cond_false, Bool.not_true, Bool.not_false, Bool.and_true, Bool.and_false, Bool.true_and, Bool.false_and, Bool.bne_true, Bool.bne_false, Bool.xor_true, Bool.xor_false]
              repeat' (first | exact trivial | apply And.intro)
              all_goals first
                | (rintro w' ⟨b1, bm, b2, b3⟩; with_reducible exact b1.cell _)
                | (rintro w' ⟨b1, bm, b2, b3⟩; exact b2.cell _)
                | (rintro w' ⟨b1, bm, b2, b3⟩; exact b1.cell _)
                | (rintro w' ⟨b1, bm, b2, b3⟩; exact hmd.out w' bm)
                | (rintro w' ⟨b1, bm, b2, b3⟩; exact (refVar_c _ _ _).mono fun e w2 ⟨he, hb2⟩ => ⟨he.trans (by simp [*]), b1.mono hb2, bm.mono hb2, b2.mono hb2, bt b3 hb2⟩)
                | (rintro w' ⟨b1, bm, b2, b3⟩; exact cm hsd b3)
                | (rintro w' ⟨b1, bm, b2, b3⟩; exact idxBool _ _ _ _ _ d0 d1 _)
          · rintro w' g ⟨b1, bm, b2, b3⟩ hg
            simp only [List.map, List.cons.injEq, and_true] at hg
            simp only [frameIn, List.take_succ_cons, List.take_zero, List.range'_succ, List.range'_zero, List.map_cons, List.map_nil, List.cons_append, List.nil_append, List.drop_succ_cons, List.drop_zero, List.foldl_nil, hg]
            go_wp2
            go_meet
            case rel => exact ⟨by rw [hres], b3, b1, bm, b2⟩
      case rest =>
        obtain ⟨rfl, hb1, K1, KM, K2⟩ := hcut
        have hbw := bt hb hb1
        have hne1 : w.heap.size ≠ w.heap.size + 1 := by omega
        have hne2 : wr.heap.size ≠ w.heap.size + 1 := by have := hM.lt; omega
        clear B1 BM B2 B3 hM hB hb g0 g1 g2 g3 g4 C
        cases hR : refH p ml ⟨buf, sec, mu, d, len⟩ with
        | true =>
          have hno : handedB p = false := by
            refine handed_no hlt ?_
            rw [HH.out]
            rcases hand_refH hR with h | h
            · exact .inl h
            · right
              rw [hMS.out]
              intro hn
              apply h
              revert hn
              cases buf with
              | false => exact id
              | true =>
                intro hn
                refine hn.sublist ?_
                exact List.Sublist.append (List.Sublist.refl _) (by simp)
          have HNO := Lib.hid hno
          clear hno hR
          go_wp2_with fail
          go_ret
          exact ⟨ret_bool HNO.out.symm, hbw⟩
        | false =>
          obtain ⟨V1, hnm, V2, hhs⟩ := hand_free hR
          simp only at V1 hnm V2 hhs
          have hdd := varB_in V1
          obtain ⟨sb, so, rfl⟩ := secS_some hsr d hdd
          clear hR
          have KM2 := metC_put KM hdd
          have K12 := K1.other (a := ⟨w.heap.size + 1, d.toNat, none⟩) hne1 (.bool true)
          have K22 := K2.other (a := ⟨w.heap.size + 1, d.toNat, none⟩) hne2 (.bool true)
          have hbw2 := hbw.setCell (p := ⟨w.heap.size + 1, d.toNat, none⟩) (by simp) (.bool true)
          have HV := Lib.hid (And.intro hnm hhs)
          clear V1 hnm hhs
          have K1c := K1.cell; have K2c := K2.cell
          have gm0 := metC_at' KM hdd
          have fm0 := KM.free
          obtain ⟨d0, d1⟩ := hdd
          go_upto_region 9 with (fail)
          obtain ⟨W2, hW2⟩ : ∃ W2, W2 = wc.setCell ⟨w.heap.size + 1, d.toNat, none⟩ (.bool true) := ⟨_, rfl⟩
          rw [← hW2] at KM2 K12 K22 hbw2 ⊢
          clear hW2 K1 KM K2 K1c K2c hbw hb1 hsr gm0 fm0
          have K1c := K12.cell; have K2c := K22.cell
          cases buf with
          | false =>
            go_wp2_with fail
            go_roundw
            case rel =>
              have hmS := hMS.out
              simp only [Bool.false_eq_true, if_false] at hmS
              refine ⟨k + 1, by omega, by go_num, fun j h hj => ?_, ?_, K12, by rw [hmS]; exact KM2, hbw2⟩
              · by_cases e : j = k
                · subst e; rw [HH.out, HV.out.2]; rfl
                · exact HA.out j h (by omega)
              · rw [hmS, List.nodup_append]
                exact ⟨HN.out, by simp, fun x hx y hy => by simp at hy; subst hy; exact fun e => HV.out.1 (e ▸ hx)⟩
            case measure => simp [intOf]; omega
          | true =>
            have hll := varB_in V2
            have gl := secS_cell (hs.mono hbw2) len hll
            have gm := metC_at' KM2 hll
            have fm := KM2.free
            obtain ⟨mm, hmm⟩ : ∃ mm, decide (len ∈ ml ++ [d]) = mm := ⟨_, rfl⟩
            obtain ⟨sl, hsl⟩ : ∃ sl, secS p len = sl := ⟨_, rfl⟩
            rw [hmm] at gm
            rw [hsl] at gl
            have KM3 := metC_put KM2 hll
            have K13 := K12.other (a := ⟨w.heap.size + 1, len.toNat, none⟩) hne1 (.bool true)
            have hbw3 := hbw2.setCell (p := ⟨w.heap.size + 1, len.toNat, none⟩) (by simp) (.bool true)
            have HM := Lib.hid hmm
            have HS := Lib.hid hsl
            clear hmm hsl V2
            obtain ⟨l0, l1⟩ := hll
            cases mm with
            | true =>
              have hno : handedB p = false := by
                refine handed_no hlt (.inr ?_)
                rw [hMS.out]
                have h1 := of_decide_eq_true HM.out
                intro hn
                have e : ml ++ (if true = true then [d, len] else [d]) = (ml ++ [d]) ++ [len] := by simp
                rw [e, List.nodup_append] at hn
                exact hn.2.2 len h1 len (by simp) rfl
              have HNO := Lib.hid hno
              clear hno
              go_wp2_with fail
              go_ret
              exact ⟨ret_bool HNO.out.symm, hbw2⟩
            | false =>
              cases sl with
              | true =>
                have hno : handedB p = false := by
                  refine handed_no hlt (.inl ?_)
                  rw [HH.out, HV.out.2, HS.out]; rfl
                have HNO := Lib.hid hno
                clear hno
                go_wp2_with fail
                go_ret
                exact ⟨ret_bool HNO.out.symm, hbw2⟩
              | false =>
                go_wp2_with fail
                go_roundw
                case rel =>
                  have hmS := hMS.out
                  simp only [if_true] at hmS
                  have e : ml ++ [d, len] = (ml ++ [d]) ++ [len] := by simp
                  rw [e] at hmS
                  refine ⟨k + 1, by omega, by go_num, fun j h hj => ?_, ?_, K13, by rw [hmS]; exact KM3, hbw3⟩
                  · by_cases e : j = k
                    · subst e; rw [HH.out, HV.out.2, HS.out]; rfl
                    · exact HA.out j h (by omega)
                  · have h1 := of_decide_eq_false HM.out
                    rw [hmS, List.nodup_append]
                    refine ⟨?_, by simp, fun x hx y hy => by simp at hy; subst hy; exact fun e => h1 (e ▸ hx)⟩
                    rw [List.nodup_append]
                    exact ⟨HN.out, by simp, fun x hx y hy => by simp at hy; subst hy; exact fun e => HV.out.1 (e ▸ hx)⟩
                case measure => simp [intOf]; omega
    · have ek : k = p.par.length := by omega
      subst ek
      rw [List.take_length] at hnd
      have hfin : handedB p = decide (p.par.length ≤ 8) := by
        have hall' : p.par.all (handS p) = true := by
          rw [List.all_eq_true]
          intro x hx
          obtain ⟨i, hi, rfl⟩ := List.getElem_of_mem hx
          exact hall i hi hi
        unfold handedB
        rw [hall', decide_eq_true hnd, Bool.and_true, Bool.true_and]
      have HF := Lib.hid hfin
      clear hfin hall hnd
      have C := hB.cell
      go_wp2_with fail
      go_ret
      refine ⟨ret_bool ?_, hb⟩
      rw [HF.out]
      apply decide_eq_decide.2
      omega
end Go.Proofs.YtoabiignjkcdmaaGreat
