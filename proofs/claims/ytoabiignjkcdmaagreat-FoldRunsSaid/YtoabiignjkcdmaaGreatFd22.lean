/-
  Lemmas (texts IrW5), each proved without a condition beyond its own hypotheses.
-/
import Derived.Test.YtoabiignjkcdmaaGreatFd1
import Derived.Test.YtoabiignjkcdmaaGreatFd2
import Derived.Test.YtoabiignjkcdmaaGreatFd20
import Derived.Test.YtoabiignjkcdmaaGreatFd21
namespace Go.Proofs.YtoabiignjkcdmaaGreat
open Go.RowKit
set_option linter.unusedVariables false
set_option linter.unusedSimpArgs false

/-- May one of Params be? -/
theorem kHanded_at {w : World} {A : Option Addr} {xs : List SHanded} (h : kHanded.Row w A xs) (i : Nat) (hi : i < xs.length) : ∃ b o, A = some ⟨b, o, none⟩ ∧
    w.cell? ⟨b, o + i * 5, none⟩ = some (.bool xs[i].buf) ∧ w.cell? ⟨b, o + i * 5 + 1, none⟩ = some (.bool xs[i].sec) ∧ w.cell? ⟨b, o + i * 5 + 2, none⟩ = some (.bool xs[i].mu) ∧
    w.cell? ⟨b, o + i * 5 + 3, none⟩ = some (.int .i64 xs[i].d) ∧ w.cell? ⟨b, o + i * 5 + 4, none⟩ = some (.int .i64 xs[i].len) := by
  obtain ⟨b, o, cs, e, h1, h2⟩ := h.at i hi
  obtain rfl : cs = xs[i].cells := h1
  exact ⟨b, o, e, h2 0 (by simp [SHanded.cells]), h2 1 (by simp [SHanded.cells]), h2 2 (by simp [SHanded.cells]), h2 3 (by simp [SHanded.cells]), h2 4 (by simp [SHanded.cells])⟩


theorem idxBool (sb so n c : Nat) (d : Int) (h0 : 0 ≤ d) (h1 : d < (n : Int)) (w : World) :
    (Instr.indexAt 22 (.slice (some ⟨sb, so, none⟩) n c) (.int .i64 d)).run Tryz.prog w = .ok (.pointer (some ⟨sb, so + d.toNat, none⟩)) w := by
  have h2 : ¬ d < 0 := by omega
  simp [go_sem, h0, h1, h2]

theorem metS_length (l : List SHanded) : (metS l).length ≤ 2 * l.length := by
  induction l with
  | nil => simp [metS]
  | cons h l ih =>
    have e : metS (h :: l) = (if h.buf then [h.d, h.len] else [h.d]) ++ metS l := by simp [metS]
    rw [e]
    split <;> simp <;> omega
theorem metS_snoc (l : List SHanded) (h : SHanded) : metS (l ++ [h]) = metS l ++ (if h.buf then [h.d, h.len] else [h.d]) := by simp [metS]
theorem infoInt : (Tryz.prog.info? 3).map (fun i => (i.zero, i.size, i.bytes)) = some (some (.int .i64 0), 1, 8) := by kernel_rfl

set_option maxRecDepth 100000 in
set_option maxHeartbeats 1000000 in
theorem params_c (p : SIr) (S P B : Option Addr) (c1 c2 c3 : Nat) (w : World) (hs : kBool.Row w S p.sec) (hp : kHanded.Row w P p.par) (hm : p.par.length ≤ 1000) :
    Calls Tryz.prog 21 #[.agg #[.slice S p.sec.length c1, .slice P p.par.length c2, .slice B p.blk.length c3]] w
      fun e w' => e = .returned (.bool (p.par.all (handS p) && decide (p.par.length ≤ 8) && decide (metS p.par).Nodup)) ∧ Below w.heap.size w w' := by
  go_enter Tryz.func21, Tryz.ntmps21
  go_wp2_with fail
  go_loopw [3, 9] (fun v s wr => ∃ k : Nat, k ≤ p.par.length ∧ s = .int .i64 k ∧ (∀ j (h : j < p.par.length), j < k → handS p p.par[j] = true) ∧
      Bk wr w.heap.size #[.slice S p.sec.length c1, .slice P p.par.length c2, .slice B p.blk.length c3] 26 ∧
      wr.ownsRow (w.heap.size + 1) 3 1 v (metS (p.par.take k)).length ((metS (p.par.take k)).map (Value.int .i64)) ∧ Below w.heap.size w wr) (fun _ s _ => p.par.length - (intOf s).toNat)
  case atStart => exact ⟨0, Nat.zero_le _, rfl, fun j _ h => absurd h (by omega), Bk.new _ _ _, World.ownsRow_nil .., (Below.refl _ _).alloc (Nat.le_refl _) _⟩
  case round =>
    obtain ⟨k, hk, rfl, hall, hB, hown, hb⟩ := hrel
    by_cases hlt : k < p.par.length
    · obtain ⟨pb, po, hP, g0, g1, g2, g3, g4⟩ := kHanded_at (hp.mono hb) k hlt
      have C := hB.cell
      have HA := Lib.hid hall; clear hall
      subst hP
      go_upto_region 5 with (fail)
      go_cut [63] (fun s we => s = .bool (!handS p p.par[k]) ∧ Below (wr.heap.size) wr we ∧ Bk we w.heap.size #[.slice S p.sec.length c1, .slice (some ⟨pb, po, none⟩) p.par.length c2, .slice B p.blk.length c3] 26 ∧ Bk we wr.heap.size #[.bool p.par[k].buf, .bool p.par[k].sec, .bool p.par[k].mu, .int .i64 p.par[k].d, .int .i64 p.par[k].len] 61)
      case first =>
        have B1 := hB.alloc (.cells #[.bool p.par[k].buf, .bool p.par[k].sec, .bool p.par[k].mu, .int .i64 p.par[k].d, .int .i64 p.par[k].len] 61)
        have B2 := Bk.new wr #[.bool p.par[k].buf, .bool p.par[k].sec, .bool p.par[k].mu, .int .i64 p.par[k].d, .int .i64 p.par[k].len] 61
        have B3 := (Below.refl wr.heap.size wr).alloc (Nat.le_refl _) (.cells #[.bool p.par[k].buf, .bool p.par[k].sec, .bool p.par[k].mu, .int .i64 p.par[k].d, .int .i64 p.par[k].len] 61)
        have hsr := hs.mono hb
        generalize p.par[k] = h at *
        obtain ⟨buf, sec, mu, d, len⟩ := h
        cases V1 : varB p.sec.length d true with
        | false =>
          refine wp_evQ' (fun w' => Bk w' w.heap.size #[.slice S p.sec.length c1, .slice (some ⟨pb, po, none⟩) p.par.length c2, .slice B p.blk.length c3] 26 ∧ Bk w' wr.heap.size #[.bool buf, .bool sec, .bool mu, .int .i64 d, .int .i64 len] 61 ∧ Below wr.heap.size wr w') [.ld w.heap.size 0 [.slice S p.sec.length c1, .slice (some ⟨pb, po, none⟩) p.par.length c2, .slice B p.blk.length c3], .ld wr.heap.size 3 [.int .i64 d], .call 44 #[.agg #[.slice S p.sec.length c1, .slice (some ⟨pb, po, none⟩) p.par.length c2, .slice B p.blk.length c3], .int .i64 d, .bool true] (.bool false)] [63] [.bool true] 13 51 [] (by kernel_rfl) (by kernel_rfl) (by kernel_rfl) (by kernel_rfl) (by kernel_rfl) (by kernel_rfl) ?_ ?_ ?_
          · exact ⟨B1.drew, B2.drew, B3.drew⟩
          · simp only [hintObs, ldObs, AllHold, List.append, List.cons_append, List.nil_append, QOb.Holds, cond_true, cond_false, Bool.not_true, Bool.not_false, Bool.and_true, Bool.and_false, Bool.true_and, Bool.false_and, Bool.bne_true, Bool.bne_false, Bool.xor_true, Bool.xor_false]
            repeat' (first | exact trivial | apply And.intro)
            all_goals first
              | (rintro w' ⟨b1, b2, b3⟩; with_reducible exact b1.cell _)
              | (rintro w' ⟨b1, b2, b3⟩; exact b2.cell _)
              | (rintro w' ⟨b1, b2, b3⟩; exact b1.cell _)
              | (rintro w' ⟨b1, b2, b3⟩; exact (variable_c _ _ _).mono fun e w2 ⟨he, hb2⟩ => ⟨he.trans (by simp [*]), b1.mono hb2, b2.mono hb2, bt b3 hb2⟩)
          · rintro w' g ⟨b1, b2, b3⟩ hg
            simp only [List.map, List.cons.injEq, and_true] at hg
            simp only [frameIn, List.take_succ_cons, List.take_zero, List.range'_succ, List.range'_zero, List.map_cons, List.map_nil, List.cons_append, List.nil_append, List.drop_succ_cons, List.drop_zero, List.foldl_nil, hg]
            go_wp2
            go_meet
            case rel => exact ⟨by simp [handS, V1], b3, b1, b2⟩
        | true =>
          obtain ⟨d0, d1⟩ := varB_in V1
          obtain ⟨sb, so, rfl, hsd⟩ := kBool_at hsr d.toNat (by omega)
          have esd : p.sec[d.toNat]'(by omega) = secS p d := by simp [secS, show d.toNat < p.sec.length by omega]
          rw [esd] at hsd
          have hsl : ∃ sl, (buf = true → varB p.sec.length len buf = true → 0 ≤ len ∧ len < (p.sec.length : Int) ∧ wr.cell? ⟨sb, so + len.toNat, none⟩ = some (.bool sl)) ∧ (buf = true → varB p.sec.length len buf = true → sl = secS p len) := by
            cases hv : varB p.sec.length len buf with
            | false => exact ⟨false, fun _ h => absurd h (by simp), fun _ h => absurd h (by simp)⟩
            | true =>
              cases buf with
              | false => exact ⟨false, fun h => absurd h (by simp), fun h => absurd h (by simp)⟩
              | true =>
                obtain ⟨l0, l1⟩ := varB_in hv
                obtain ⟨sb', so', e, hc⟩ := kBool_at hsr len.toNat (by omega)
                injection e with e; injection e with e1 e2; subst e1; subst e2
                refine ⟨_, fun _ _ => ⟨l0, l1, hc⟩, fun _ _ => by simp [secS, show len.toNat < p.sec.length by omega]⟩
          obtain ⟨sl, hsl, esl⟩ := hsl
          have hV2 : ∃ v2, varB p.sec.length len buf = v2 := ⟨_, rfl⟩
          obtain ⟨v2, hV2⟩ := hV2
          have hSD : ∃ sd, secS p d = sd := ⟨_, rfl⟩
          obtain ⟨sd, hSD⟩ := hSD
          rw [hSD] at hsd
          have hres : handS p ⟨buf, sec, mu, d, len⟩ = (v2 && !(mu && !buf) && sd == (sec && !buf) && !(buf && sl)) := by
            simp only [handS, V1, hV2, hSD, Bool.true_and]
            cases v2 with
            | false => rfl
            | true => cases buf with
              | false => simp
              | true => simp [esl rfl hV2]
          refine wp_evQ' (fun w' => Bk w' w.heap.size #[.slice (some ⟨sb, so, none⟩) p.sec.length c1, .slice (some ⟨pb, po, none⟩) p.par.length c2, .slice B p.blk.length c3] 26 ∧ Bk w' wr.heap.size #[.bool buf, .bool sec, .bool mu, .int .i64 d, .int .i64 len] 61 ∧ Below wr.heap.size wr w') ([.ld w.heap.size 0 [.slice (some ⟨sb, so, none⟩) p.sec.length c1, .slice (some ⟨pb, po, none⟩) p.par.length c2, .slice B p.blk.length c3], .ld wr.heap.size 3 [.int .i64 d], .call 44 #[.agg #[.slice (some ⟨sb, so, none⟩) p.sec.length c1, .slice (some ⟨pb, po, none⟩) p.par.length c2, .slice B p.blk.length c3], .int .i64 d, .bool true] (.bool true), .ld w.heap.size 0 [.slice (some ⟨sb, so, none⟩) p.sec.length c1, .slice (some ⟨pb, po, none⟩) p.par.length c2, .slice B p.blk.length c3], .ld wr.heap.size 4 [.int .i64 len], .ld wr.heap.size 0 [.bool buf], .call 44 #[.agg #[.slice (some ⟨sb, so, none⟩) p.sec.length c1, .slice (some ⟨pb, po, none⟩) p.par.length c2, .slice B p.blk.length c3], .int .i64 len, .bool buf] (.bool v2)] ++ (bif v2 then (([.ld wr.heap.size 2 [.bool mu]] ++ (bif mu then [.ld wr.heap.size 0 [.bool buf]] else [])) ++ (bif (mu && !buf) then [] else (([.ld w.heap.size 0 [.slice (some ⟨sb, so, none⟩) p.sec.length c1], .ld wr.heap.size 3 [.int .i64 d], .at 22 (.slice (some ⟨sb, so, none⟩) p.sec.length c1) (.int .i64 d) (.pointer (some ⟨sb, so + (d).toNat, none⟩)), .ld sb (so + (d).toNat) [.bool sd], .ld wr.heap.size 1 [.bool sec]] ++ (bif sec then [.ld wr.heap.size 0 [.bool buf]] else [])) ++ (bif (sd != (sec && !buf)) then [] else ([.ld wr.heap.size 0 [.bool buf]] ++ (bif buf then [.ld w.heap.size 0 [.slice (some ⟨sb, so, none⟩) p.sec.length c1], .ld wr.heap.size 4 [.int .i64 len], .at 22 (.slice (some ⟨sb, so, none⟩) p.sec.length c1) (.int .i64 len) (.pointer (some ⟨sb, so + (len).toNat, none⟩)), .ld sb (so + (len).toNat) [.bool sl]] else [])))))) else [])) [63] [.bool (!(v2 && !(mu && !buf) && sd == (sec && !buf) && !(buf && sl)))] 13 51 [] (by kernel_rfl) (by kernel_rfl) (by kernel_rfl) (by kernel_rfl) (by kernel_rfl) ?_ ?_ ?_ ?_
          · clear hres hV2 hsl esl hsd
            cases v2 <;> cases buf <;> cases mu <;> cases sec <;> cases sd <;> cases sl <;> kernel_rfl
          · exact ⟨B1.drew, B2.drew, B3.drew⟩
          · clear hres
            cases v2 <;> cases buf <;> cases mu <;> cases sec <;> cases sd <;>
            · simp only [hintObs, ldObs, AllHold, List.append, List.cons_append, List.nil_append, QOb.Holds, cond_true, cond_false, Bool.not_true, Bool.not_false, Bool.and_true, Bool.and_false, Bool.true_and, Bool.false_and, Bool.bne_true, Bool.bne_false, Bool.xor_true, Bool.xor_false]
              repeat' (first | exact trivial | apply And.intro)
              all_goals first
                | (rintro w' ⟨b1, b2, b3⟩; with_reducible exact b1.cell _)
                | (rintro w' ⟨b1, b2, b3⟩; exact b2.cell _)
                | (rintro w' ⟨b1, b2, b3⟩; exact b1.cell _)
                | (rintro w' ⟨b1, b2, b3⟩; exact (variable_c _ _ _).mono fun e w2 ⟨he, hb2⟩ => ⟨he.trans (by simp [*]), b1.mono hb2, b2.mono hb2, bt b3 hb2⟩)
                | (rintro w' ⟨b1, b2, b3⟩; exact cm hsd b3)
                | (rintro w' ⟨b1, b2, b3⟩; exact cm (hsl rfl hV2).2.2 b3)
                | (rintro w' ⟨b1, b2, b3⟩; exact idxBool _ _ _ _ _ d0 d1 _)
                | (rintro w' ⟨b1, b2, b3⟩; exact idxBool _ _ _ _ _ (hsl rfl hV2).1 (hsl rfl hV2).2.1 _)
          · rintro w' g ⟨b1, b2, b3⟩ hg
            simp only [List.map, List.cons.injEq, and_true] at hg
            simp only [frameIn, List.take_succ_cons, List.take_zero, List.range'_succ, List.range'_zero, List.map_cons, List.map_nil, List.cons_append, List.nil_append, List.drop_succ_cons, List.drop_zero, List.foldl_nil, hg]
            go_wp2
            go_meet
            case rel => exact ⟨by rw [hres]; congr 1; cases v2 <;> cases buf <;> cases mu <;> cases sec <;> cases sd <;> cases sl <;> rfl, b3, b1, b2⟩
      case rest =>
        obtain ⟨rfl, hb1, B1, B2⟩ := hcut
        have C1 := B1.cell
        have C2 := B2.cell
        cases hH : handS p p.par[k] with
        | false =>
          go_wp2_with fail
          go_ret
          refine ⟨ret_bool ?_, bt hb hb1⟩
          have : p.par.all (handS p) = false := by rw [List.all_eq_false]; exact ⟨p.par[k], List.getElem_mem hlt, by simp [hH]⟩
          simp [this]
        | true =>
          have hl := metS_length (p.par.take k)
          have hl2 : (p.par.take k).length ≤ k := List.length_take_le _ _
          have hws : w.heap.size + 1 ≤ wr.heap.size := by have := hB.lt; omega
          have hwc : wr.heap.size < wc.heap.size := B2.lt
          obtain ⟨i0, hi, hz0, hz1, hz2⟩ := info_parts infoInt
          have howc := own_below hown hb1
          have hne2 : some wr.heap.size ≠ u3.ownBlock := own_lt hown (Nat.le_refl _)
          have hne1 : some w.heap.size ≠ u3.ownBlock := own_base hown (by omega)
          have HH := Lib.hid hH; clear hH
          cases hbuf : p.par[k].buf with
          | false =>
            have HBF := Lib.hid hbuf
            rw [hbuf] at C2 B2
            clear hbuf
            go_wp2_with (first | (at_builtin; refine wpList_append_own _ rfl _ _ 79 rfl (w.heap.size + 1) 3 i0 (.int .i64 0) 1 8 Tryz.underlying79 hi hz0 hz1 hz2 rfl (by decide) _ _ _ rfl (howc.alloc _) ⟨wc.heap.size, 0, none⟩ 1 1 [.int .i64 (p.par[k].d)] rfl rfl (cell_one_new _ _ _) (by simp [Value.oneCell']) (by unfold maxLen; omega) (by omega) (by simp; omega) ?_; intro v1 w1 hown1 hgrow1 _; have C3 := ((B2.alloc (.cells #[.int .i64 p.par[k].d] 3)).grown hgrow1 hne2).cell))
            go_roundw
            case rel =>
              refine ⟨k + 1, by omega, by go_num, fun j h hj => ?_, (B1.alloc _).grown hgrow1 hne1, ?_, ?_⟩
              · by_cases e : j = k
                · subst e; exact HH.out
                · exact HA.out j h (by omega)
              · rw [List.take_succ_eq_append_getElem hlt, metS_snoc, HBF.out]
                simpa using hown1
              · exact ((bt hb hb1).alloc (bt hb hb1).size _).grown hgrow1 (by simp; omega) (fun q hq => by have := own_from hown q hq; omega)
            case measure => simp [intOf]; omega
          | true =>
            have HBF := Lib.hid hbuf
            rw [hbuf] at C2 B2
            clear hbuf
            go_wp2_with (first | (at_builtin; refine wpList_append_own _ rfl _ _ 79 rfl (w.heap.size + 1) 3 i0 (.int .i64 0) 1 8 Tryz.underlying79 hi hz0 hz1 hz2 rfl (by decide) _ _ _ rfl (howc.alloc _) ⟨wc.heap.size, 0, none⟩ 1 1 [.int .i64 (p.par[k].d)] rfl rfl (cell_one_new _ _ _) (by simp [Value.oneCell']) (by unfold maxLen; omega) (by omega) (by simp; omega) ?_; intro v1 w1 hown1 hgrow1 _; have C3 := ((B2.alloc (.cells #[.int .i64 p.par[k].d] 3)).grown hgrow1 hne2).cell; have hz3 : w.heap.size + 1 ≤ w1.heap.size := (by have hq := hgrow1.size; simp at hq; omega)) | (at_builtin; refine wpList_append_own _ rfl _ _ 79 rfl (w.heap.size + 1) 3 i0 (.int .i64 0) 1 8 Tryz.underlying79 hi hz0 hz1 hz2 rfl (by decide) _ _ _ rfl (hown1.alloc _) ⟨w1.heap.size, 0, none⟩ 1 1 [.int .i64 (p.par[k].len)] rfl rfl (cell_one_new _ _ _) (by simp [Value.oneCell']) (by unfold maxLen; omega) (by omega) (by simp; omega) ?_; intro v2 w2 hown2 hgrow2 _))
            go_roundw
            case rel =>
              refine ⟨k + 1, by omega, by go_num, fun j h hj => ?_, (((B1.alloc _).grown hgrow1 hne1).alloc _).grown hgrow2 (own_base hown1 (by omega)), ?_, ?_⟩
              · by_cases e : j = k
                · subst e; exact HH.out
                · exact HA.out j h (by omega)
              · rw [List.take_succ_eq_append_getElem hlt, metS_snoc, HBF.out]
                simpa using hown2
              · have hq1 := ((bt hb hb1).alloc (bt hb hb1).size (.cells #[.int .i64 p.par[k].d] 3)).grown hgrow1 (by simp; omega) (fun q hq => by have := own_from hown q hq; omega)
                exact (hq1.alloc hq1.size _).grown hgrow2 (by have := hq1.size; simp; omega) (fun q hq => by have := own_from hown1 q hq; omega)
            case measure => simp [intOf]; omega
    · have ek : k = p.par.length := by omega
      subst ek
      have hall' : p.par.all (handS p) = true := by
        rw [List.all_eq_true]
        intro x hx
        obtain ⟨i, hi, rfl⟩ := List.getElem_of_mem hx
        exact hall i hi hi
      rw [List.take_length] at hown
      have hml := metS_length p.par
      have HA := Lib.hid hall'; clear hall hall'
      have C := hB.cell
      have hne := own_base hown (Nat.lt_succ_self w.heap.size)
      obtain ⟨va, vc, rfl⟩ := own_shape hown
      by_cases h8 : p.par.length ≤ 8
      · go_wp2_with (first
          | (go_at_call 45; go_must (refine (sort_own hown rfl (by omega)).mono ?_); rintro e w1 ⟨rfl, hown1, hg1⟩; have B1 := hB.grown hg1 hne; have C1 := B1.cell)
          | (go_at_call 47; go_must (refine (clone_own hown1 (srt_length _).symm (by rw [srt_length]; omega)).mono ?_); rintro e w2 ⟨v2, rfl, hown2, hb2⟩)
          | (go_at_call 46; go_must (refine (compact_own hown2 (srt_length _).symm (by rw [srt_length]; omega)).mono ?_); rintro e w3 ⟨a3, c3, rfl, hg3⟩))
        go_ret
        have hls : (metS p.par).length = (srt (metS p.par)).length := (srt_length _).symm
        refine ⟨ret_bool ?_, ?_⟩
        · rw [HA.out, ← compact_srt]
          simp only [h8, decide_true, Bool.true_and]; rw [Bool.eq_iff_iff]; simp only [beq_iff_eq, decide_eq_true_eq]; exact eq_comm
        · have q1 : Below w.heap.size w w1 := hb.grown hg1 hb.size (fun q hq => by have := own_from hown q hq; omega)
          have q2 : Below w.heap.size w w2 := bt q1 hb2
          exact q2.grown hg3 q2.size (fun q hq => by have := own_from hown2 q hq; have := q1.size; omega)
      · go_wp2_with (first
          | (go_at_call 45; go_must (refine (sort_own hown rfl (by omega)).mono ?_); rintro e w1 ⟨rfl, hown1, hg1⟩; have B1 := hB.grown hg1 hne; have C1 := B1.cell))
        go_ret
        refine ⟨ret_bool ?_, hb.grown hg1 hb.size (fun q hq => by have := own_from hown q hq; omega)⟩
        simp [h8]

end Go.Proofs.YtoabiignjkcdmaaGreat
