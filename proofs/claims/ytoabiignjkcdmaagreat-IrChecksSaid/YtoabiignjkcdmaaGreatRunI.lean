/-
  fits, walked.
-/
import Derived.Test.YtoabiignjkcdmaaGreatRunH
namespace Go.Proofs.YtoabiignjkcdmaaGreat
open Go.RowKit
set_option linter.unusedVariables false
set_option linter.unusedSimpArgs false

def okBuf (b : ByteArray) : Bool := decide (b.size ≤ 4096)
theorem fits1_c (s : ByteArray) (hz : s.size ≤ 9223372036854775807) (w : World) : Calls Tryz.prog 66 #[.string s] w fun e w' => e = .returned (.bool (!okBuf s)) ∧ w = w' := by
  by_cases hb : (4096 : Int) < (s.size : Int)
  · have e : okBuf s = false := by unfold okBuf; simp; omega
    have HE := Lib.hid e
    clear e
    go_enter Tryz.func66, Tryz.ntmps66
    go_wp2_with fail
    go_ret
    exact ⟨by rw [HE.out]; rfl, rfl⟩
  · have e : okBuf s = true := by unfold okBuf; simp; omega
    have HE := Lib.hid e
    clear e
    go_enter Tryz.func66, Tryz.ntmps66
    go_wp2_with fail
    go_ret
    exact ⟨by rw [HE.out]; rfl, rfl⟩
/-- Which one is found. -/
def IdxS (xs : List ByteArray) (w : World) (e : Ending) (w' : World) : Prop := ∃ r : Int, e = .returned (.int .i64 r) ∧ (0 ≤ r ↔ xs.all okBuf = false) ∧ w = w'
set_option maxHeartbeats 1000000 in
theorem indexStr_c (xs : List ByteArray) (A : Option Addr) (c : Nat) (w : World) (hA : kStr.Row w A xs) (hm : xs.length ≤ 9223372036854775807) (hz : ∀ b ∈ xs, b.size ≤ 9223372036854775807) :
    Calls Tryz.prog 81 #[.slice A xs.length c, .func (.func 66) #[] #[]] w (IdxS xs w) := by
  go_enter Tryz.func81, Tryz.ntmps81
  go_wp2_with fail
  go_loop [8] (fun s => ∃ k : Nat, k ≤ xs.length ∧ s = .int .i64 k ∧ (∀ j (h : j < xs.length), j < k → okBuf xs[j] = true)) (fun s => xs.length - (intOf s).toNat)
  case atStart => exact ⟨0, Nat.zero_le _, rfl, fun j _ h => absurd h (by omega)⟩
  case round =>
    obtain ⟨k, hk, rfl, hall⟩ := hrel
    have HA := Lib.hid hall; clear hall
    by_cases hlt : k < xs.length
    · obtain ⟨ob, oo, rfl, g0⟩ := kStr_at' hA k hlt
      obtain ⟨s, hs⟩ : ∃ s, s = xs[k] := ⟨_, rfl⟩
      have hzs := hz s (by rw [hs]; exact List.getElem_mem hlt)
      rw [← hs] at g0
      have HS := Lib.hid hs
      clear hs
      have HC := Lib.hid (fits1_c s hzs w)
      cases hb : okBuf s with
      | false =>
        rw [hb] at HC
        have HB := Lib.hid hb
        clear hb
        go_wp2_with (go_at_call 66; refine HC.out.mono ?_; rintro e w' ⟨rfl, rfl⟩)
        go_ret
        refine ⟨k, rfl, ⟨fun _ => ?_, fun _ => by omega⟩, rfl⟩
        rw [List.all_eq_false]
        exact ⟨xs[k], List.getElem_mem hlt, by rw [← HS.out, HB.out]; decide⟩
      | true =>
        rw [hb] at HC
        have HB := Lib.hid hb
        clear hb
        go_wp2_with (go_at_call 66; refine HC.out.mono ?_; rintro e w' ⟨rfl, rfl⟩)
        go_round
        case rel => exact ⟨k + 1, by omega, by go_num, fun j h hj => by
          by_cases e : j = k
          · subst e; rw [← HS.out]; exact HB.out
          · exact HA.out j h (by omega)⟩
        case measure => simp [intOf]; omega
    · have hkl : k = xs.length := by omega
      have HK := Lib.hid hkl
      clear hkl
      go_wp2_with fail
      go_ret
      refine ⟨-1, rfl, ⟨fun h => by omega, fun h => ?_⟩, rfl⟩
      rw [List.all_eq_false] at h
      obtain ⟨o, ho, hf⟩ := h
      obtain ⟨j, hj, rfl⟩ := List.getElem_of_mem ho
      exact absurd (HA.out j hj (by rw [HK.out]; exact hj)) hf
theorem contains_c (xs : List ByteArray) (A : Option Addr) (c : Nat) (w : World) (hA : kStr.Row w A xs) (hm : xs.length ≤ 9223372036854775807) (hz : ∀ b ∈ xs, b.size ≤ 9223372036854775807) (r : Bool) (hr : xs.all okBuf = r) :
    Calls Tryz.prog 65 #[.slice A xs.length c, .func (.func 66) #[] #[]] w
      fun e w' => e = .returned (.bool (!r)) ∧ w = w' := by
  have HR := Lib.hid hr
  clear hr
  go_enter Tryz.func65, Tryz.ntmps65
  go_wp2_with fail
  refine (indexStr_c xs A c w hA hm hz).mono ?_
  rintro e w' ⟨q, rfl, hq, rfl⟩
  rw [HR.out] at hq
  cases r with
  | false =>
    have h0 : 0 ≤ q := hq.2 rfl
    clear hq
    go_wp2_with fail
    go_ret
    exact ⟨by first | (simp; omega) | simp, rfl⟩
  | true =>
    have h0 : q < 0 := by
      rcases Int.lt_or_le q 0 with h | h
      · exact h
      · cases hq.1 h
    clear hq
    go_wp2_with fail
    go_ret
    exact ⟨by first | (simp; omega) | simp, rfl⟩
set_option maxRecDepth 100000 in
set_option maxHeartbeats 4000000 in
theorem fits_c (p : SIr) (inp : SIn) (w : World) (S P B NA BA : Option Addr) (c1 c2 c3 nc bc : Nat) (hP : kHanded.Row w P p.par) (hBA : kStr.Row w BA inp.bufs) (hpl : p.par.length ≤ 1000000) (hm1 : inp.nums.length ≤ 9223372036854775807) (hm : inp.bufs.length ≤ 9223372036854775807) (hz : ∀ b ∈ inp.bufs, b.size ≤ 9223372036854775807) (r : Bool) (hr : fitsS p inp = r) :
    Calls Tryz.prog 39 #[.agg #[.slice S p.sec.length c1, .slice P p.par.length c2, .slice B p.blk.length c3], .agg #[.slice NA inp.nums.length nc, .slice BA inp.bufs.length bc]] w
      fun e w' => e = .returned (.bool r) ∧ Below w.heap.size w w' := by
  obtain ⟨w1, hw1⟩ : ∃ w1, w1 = (w.alloc (.cells #[.slice S p.sec.length c1, .slice P p.par.length c2, .slice B p.blk.length c3] 26)).alloc (.cells #[.slice NA inp.nums.length nc, .slice BA inp.bufs.length bc] 43) := ⟨_, rfl⟩
  have hb1 : Below w.heap.size w w1 := by rw [hw1]; exact ((Below.refl w.heap.size w).alloc (Nat.le_refl _) _).alloc (by simp) _
  have BP : Bk w1 w.heap.size #[.slice S p.sec.length c1, .slice P p.par.length c2, .slice B p.blk.length c3] 26 := by rw [hw1]; exact (Bk.new w _ _).alloc _
  have BI : Bk w1 (w.heap.size + 1) #[.slice NA inp.nums.length nc, .slice BA inp.bufs.length bc] 43 := by rw [hw1]; exact Bk.newAt _ _ (by simp)
  have HR := Lib.hid hr
  clear hr
  go_enter Tryz.func39, Tryz.ntmps39
  go_upto_region 1 with (fail)
  rw [← hw1]
  clear hw1
  have CP := BP.cell
  go_wp2_with fail
  go_loopw [5, 6, 12] (fun u v s wr => ∃ j : Nat, j ≤ p.par.length ∧ s = .int .i64 j ∧ u = .int .i64 (numsOf (p.par.take j)).length ∧ v = .int .i64 (bufsOf (p.par.take j)).length ∧ Below w.heap.size w wr ∧ Bk wr w.heap.size #[.slice S p.sec.length c1, .slice P p.par.length c2, .slice B p.blk.length c3] 26 ∧ Bk wr (w.heap.size + 1) #[.slice NA inp.nums.length nc, .slice BA inp.bufs.length bc] 43) (fun _ _ s _ => p.par.length - (intOf s).toNat)
  case atStart => exact ⟨0, Nat.zero_le _, rfl, rfl, rfl, hb1, BP, BI⟩
  case round =>
    clear BP BI hb1 CP
    obtain ⟨j, hj, rfl, rfl, rfl, hb, hBP, hBI⟩ := hrel
    have hnl : (numsOf (p.par.take j)).length ≤ p.par.length := Nat.le_trans (List.length_filter_le _ _) (List.length_take_le' _ _)
    have hbl : (bufsOf (p.par.take j)).length ≤ p.par.length := Nat.le_trans (List.length_filter_le _ _) (List.length_take_le' _ _)
    by_cases hlt : j < p.par.length
    · obtain ⟨pb, po, rfl, g0, g1, g2, g3, g4⟩ := kHanded_at' (hP.mono hb) j hlt
      have ht : p.par.take (j + 1) = p.par.take j ++ [p.par[j]] := List.take_succ_eq_append_getElem hlt
      obtain ⟨h, hh⟩ : ∃ h, h = p.par[j] := ⟨_, rfl⟩
      rw [← hh] at g0 g1 g2 g3 g4 ht
      have HT := Lib.hid ht
      clear ht hh
      go_upto_region 5 with (fail)
      obtain ⟨Wh, hWh⟩ : ∃ Wh, Wh = wr.alloc (.cells (parCells h) 61) := ⟨_, rfl⟩
      rw [← hWh]
      have BH : Bk Wh wr.heap.size (parCells h) 61 := by rw [hWh]; exact Bk.new wr _ _
      have hbh : Below wr.heap.size wr Wh := by rw [hWh]; exact (Below.refl wr.heap.size wr).alloc (Nat.le_refl _) _
      clear hWh g0 g1 g2 g3 g4
      have hbW := bt hb hbh
      have hBPh := hBP.mono hbh
      have hBIh := hBI.mono hbh
      clear hb hBP hBI hbh
      have CH := BH.cell
      cases hbuf : h.buf with
      | true =>
        have HB : Hid (((bufsOf (p.par.take j)).length : Int) + 1 = (bufsOf (p.par.take (j + 1))).length ∧ (numsOf (p.par.take j)).length = (numsOf (p.par.take (j + 1))).length) := Lib.hid (by rw [HT.out]; unfold bufsOf numsOf; simp [List.filter_append, List.filter_cons, hbuf])
        go_wp2_with fail
        go_roundw
        case rel => exact ⟨j + 1, by omega, by go_num, by rw [HB.out.2], by rw [HB.out.1], hbW, hBPh, hBIh⟩
        case measure => simp [intOf]; omega
      | false =>
        have HB : Hid (((numsOf (p.par.take j)).length : Int) + 1 = (numsOf (p.par.take (j + 1))).length ∧ (bufsOf (p.par.take j)).length = (bufsOf (p.par.take (j + 1))).length) := Lib.hid (by rw [HT.out]; unfold bufsOf numsOf; simp [List.filter_append, List.filter_cons, hbuf])
        go_wp2_with fail
        go_roundw
        case rel => exact ⟨j + 1, by omega, by go_num, by rw [HB.out.1], by rw [HB.out.2], hbW, hBPh, hBIh⟩
        case measure => simp [intOf]; omega
    · have hjl : j = p.par.length := by omega
      have htl : p.par.take j = p.par := by rw [hjl, List.take_length]
      rw [htl] at hnl hbl ⊢
      clear htl hjl
      have CI := hBI.cell
      have hfs : fitsS p inp = (decide (inp.nums.length = (numsOf p.par).length) && decide (inp.bufs.length = (bufsOf p.par).length) && inp.bufs.all okBuf) := rfl
      rw [HR.out] at hfs
      have HFS := Lib.hid hfs
      clear hfs
      by_cases h1 : inp.nums.length = (numsOf p.par).length
      · by_cases h2 : inp.bufs.length = (bufsOf p.par).length
        · cases h3 : inp.bufs.all okBuf with
          | true =>
            have he : r = true := by rw [HFS.out, decide_eq_true h1, decide_eq_true h2, h3]; rfl
            have t1 : ((inp.nums.length : Int) == ((numsOf p.par).length : Int)) = true := by rw [h1]; exact beq_self_eq_true _
            have t2 : ((inp.bufs.length : Int) == ((bufsOf p.par).length : Int)) = true := by rw [h2]; exact beq_self_eq_true _
            have HE := Lib.hid he
            have HC := Lib.hid (contains_c inp.bufs BA bc wr (hBA.mono hb) hm hz true h3)
            clear h1 h2 h3 he
            go_wp2_with (go_at_call 65; refine HC.out.mono ?_; rintro e w' ⟨rfl, rfl⟩)
            go_ret
            exact ⟨by rw [HE.out]; rfl, hb⟩
          | false =>
            have he : r = false := by rw [HFS.out, h3]; simp
            have t1 : ((inp.nums.length : Int) == ((numsOf p.par).length : Int)) = true := by rw [h1]; exact beq_self_eq_true _
            have t2 : ((inp.bufs.length : Int) == ((bufsOf p.par).length : Int)) = true := by rw [h2]; exact beq_self_eq_true _
            have HE := Lib.hid he
            have HC := Lib.hid (contains_c inp.bufs BA bc wr (hBA.mono hb) hm hz false h3)
            clear h1 h2 h3 he
            go_wp2_with (go_at_call 65; refine HC.out.mono ?_; rintro e w' ⟨rfl, rfl⟩)
            go_ret
            exact ⟨by rw [HE.out]; rfl, hb⟩
        · have he : r = false := by rw [HFS.out, decide_eq_false h2]; simp
          have t1 : ((inp.nums.length : Int) == ((numsOf p.par).length : Int)) = true := by rw [h1]; exact beq_self_eq_true _
          have t2 : ((inp.bufs.length : Int) == ((bufsOf p.par).length : Int)) = false := by simp; omega
          have HE := Lib.hid he
          clear h1 h2 he
          go_wp2_with fail
          go_ret
          exact ⟨by rw [HE.out]; rfl, hb⟩
      · have he : r = false := by rw [HFS.out, decide_eq_false h1]; simp
        have t1 : ((inp.nums.length : Int) == ((numsOf p.par).length : Int)) = false := by simp; omega
        have HE := Lib.hid he
        clear h1 he
        go_wp2_with fail
        go_ret
        exact ⟨by rw [HE.out]; rfl, hb⟩
end Go.Proofs.YtoabiignjkcdmaaGreat
