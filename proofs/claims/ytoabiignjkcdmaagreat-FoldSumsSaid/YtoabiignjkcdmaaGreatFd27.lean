/-
  Lemmas (texts FoldW6), each proved without a condition beyond its own hypotheses.
-/
import Derived.Test.YtoabiignjkcdmaaGreatFd26
namespace Go.Proofs.YtoabiignjkcdmaaGreat
open Go.RowKit Go.Maps Go.Shelf
set_option linter.unusedVariables false
set_option linter.unusedSimpArgs false

/-- What is asked, as it lies. -/
def WantAt (w : World) (m n : Nat) (wn : Want) : Prop := ∃ D : DI, w.ownsMap Tryz.prog 3 (plainElem Tryz.prog 4) m (Maps.size D) D ∧ ReadsW D wn ∧ wn.In n
theorem WantAt.tb {S : Nat → Prop} {w w' : World} {m n : Nat} {wn : Want} (h : WantAt w m n wn) (ht : TB S w w') (hn : ¬ S m) : WantAt w' m n wn := by
  obtain ⟨D, h1, h2⟩ := h
  exact ⟨D, map_tb h1 ht hn, h2⟩
theorem WantAt.below {w w' : World} {m n : Nat} {wn : Want} (h : WantAt w m n wn) (hb : Below w.heap.size w w') : WantAt w' m n wn := h.tb (S := fun _ => False) (TB.of_below hb) id
theorem WantAt.lt {w : World} {m n : Nat} {wn : Want} (h : WantAt w m n wn) : m < w.heap.size := by obtain ⟨D, h1, h2⟩ := h; exact h1.lt
theorem WantAt.congr {w : World} {m n : Nat} {wn wn' : Want} (h : WantAt w m n wn) (e : wn = wn') : WantAt w m n wn' := e ▸ h
set_option maxRecDepth 100000 in
theorem plainElem_bool_inv {P : Program} {e : TypeId} (he : P.underlying e = some .bool) {v : Value} {z : DI × List MemPlace} (h : plainElem P e v = some z) : ∃ x, v = .bool x ∧ z = (.lit (.bool x), []) := by
  unfold plainElem at h
  rw [he] at h
  cases v with
  | bool x => exact ⟨x, rfl, (Option.some.inj h).symm⟩
  | _ => cases h
set_option maxRecDepth 100000 in
theorem wantLook {w : World} {m n : Nat} {wn : Want} (h : WantAt w m n wn) {x : Int} (h0 : -9223372036854775808 ≤ x) (h1 : x < 9223372036854775808) : (Instr.lookup 70 (.map (some m)) (.int .i64 x) false).run Tryz.prog w = .ok (.bool (wn x)) w := by
  obtain ⟨D, hown, hr, -⟩ := h
  obtain ⟨v, ps, hrun, hv⟩ := hown.lookup kInt_law Tryz.underlying70 (Tryz.zeroValue4 w) (plainElem_bool Tryz.underlying4 false) (keyI h0 h1)
  obtain ⟨c, rfl, hc⟩ := plainElem_bool_inv Tryz.underlying4 hv
  have := hr.at x
  rw [Prod.mk.injEq] at hc
  rw [this] at hc
  rw [hrun]
  have e : wn x = c := by
    have := hc.1
    injection this with this
    injection this
  rw [e]
theorem Want.In.add {wn : Want} {n : Nat} (h : wn.In n) {d : Int} (hd : 0 ≤ d ∧ d < (n : Int)) : (wn.add d).In n := by
  intro x hx
  unfold Want.add at hx
  split at hx
  · rename_i e; rw [e]; exact hd
  · exact h x hx
theorem Want.In.del {wn : Want} {n : Nat} (h : wn.In n) (d : Int) : (wn.del d).In n := by
  intro x hx
  unfold Want.del at hx
  split at hx
  · cases hx
  · exact h x hx
theorem addL_snoc (w : Want) (l : List Int) (x : Int) : w.addL (l ++ [x]) = (w.addL l).add x := by simp [Want.addL, List.foldl_append]
theorem asksL_len (o : SOp) : (asksL o).length ≤ 2 := by
  unfold asksL
  split
  · exact Nat.le_succ 1
  · split
    · exact Nat.le_refl 2
    · exact Nat.zero_le 2
/-- What comes of a step backwards. -/
def BackPost (w : World) (m n : Nat) (wn : Want) (o : SOp) (e : Ending) (w' : World) : Prop :=
  e = .returned (.bool (stays wn o)) ∧ WantAt w' m n (if stays wn o = true then backW wn o else wn) ∧ TB (fun k => k = m) w w'
/-- The world in which a step is gone over backwards. -/
structure FB (w0 w : World) (m n : Nat) (wn : Want) (o : SOp) : Prop where
  W : WantAt w m n wn
  B : Bk w w0.heap.size o.cells.toArray 54
  T : TB (fun k => k = m) w0 w
  lt : m < w0.heap.size
theorem FB.below {w0 w w' : World} {m n : Nat} {wn : Want} {o : SOp} (h : FB w0 w m n wn o) (hb : Below w.heap.size w w') : FB w0 w' m n wn o := ⟨h.W.below hb, h.B.mono hb, h.T.trans (TB.of_below hb), h.lt⟩
theorem FB.turn {w0 w w' : World} {m n : Nat} {wn wn' : Want} {o : SOp} (h : FB w0 w m n wn o) (hW : WantAt w' m n wn') (ht : w.mapTurned w' m) : FB w0 w' m n wn' o := by
  have T : TB (fun k => k = m) w w' := TB.of_grown ht.grown (fun k e => by cases e; rfl)
  have := h.lt
  exact ⟨hW, h.B.tb T (by omega), h.T.trans T, h.lt⟩
theorem fb_begin {w : World} {m n : Nat} {wn : Want} (h : WantAt w m n wn) (o : SOp) : ∃ w1, w1 = w.alloc (.cells o.cells.toArray 54) ∧ FB w w1 m n wn o :=
  ⟨_, rfl, h.below ((Below.refl _ _).alloc (Nat.le_refl _) _), Bk.new w _ _, (TB.refl _ _).alloc _, h.lt⟩

set_option maxRecDepth 100000 in
set_option maxHeartbeats 4000000 in
theorem back_ws {w : World} {m n : Nat} {wn : Want} (h : WantAt w m n wn) (k fn d a b imm : Int) (hn : n ≤ 100000) (ho : OpIn n ⟨k, fn, d, a, b, imm⟩) (hd : -9223372036854775808 ≤ d ∧ d < 9223372036854775808) (hw : worksB k = true) (hset : setsB k = true) :
    Calls Tryz.prog 59 #[.map (some m), .agg #[.int .u8 k, .int .u8 fn, .int .i64 d, .int .i64 a, .int .i64 b, .int .u64 imm]] w (BackPost w m n wn ⟨k, fn, d, a, b, imm⟩) := by
  have k1 : 1 ≤ k := ho.k
  have k2 : k ≤ 13 := ho.k2
  have hk13 : k = 1 ∨ k = 2 ∨ k = 3 ∨ k = 4 ∨ k = 5 ∨ k = 6 ∨ k = 7 ∨ k = 8 ∨ k = 9 ∨ k = 10 ∨ k = 11 ∨ k = 12 ∨ k = 13 := by omega
  obtain ⟨o, hoe⟩ : ∃ o : SOp, (⟨k, fn, d, a, b, imm⟩ : SOp) = o := ⟨_, rfl⟩
  have hst : stays wn o = true := by rw [← hoe]; unfold stays; rw [hw]; rfl
  have hfin : ∀ W, FB w W m n (backW wn o) o → BackPost w m n wn o (.returned (.bool true)) W := by
    intro W hW
    refine ⟨by rw [hst], ?_, hW.T⟩
    rw [hst]
    exact hW.W
  have HQ := Lib.hid hfin
  obtain ⟨w1, hw1, hF1⟩ := fb_begin h o
  have HA := Lib.hid (fun w => asks_lit k hk13 fn d a b imm w)
  have HS := Lib.hid (fun w => sets_c k fn d a b imm w)
  have HW := Lib.hid (fun w => works_c k fn d a b imm w)
  have hC1 : ∀ W wn', FB w W m n wn' o → (W.cell? ⟨w.heap.size, 0, none⟩ = some (.int .u8 k) ∧ W.cell? ⟨w.heap.size, 1, none⟩ = some (.int .u8 fn) ∧ W.cell? ⟨w.heap.size, 2, none⟩ = some (.int .i64 d) ∧ W.cell? ⟨w.heap.size, 3, none⟩ = some (.int .i64 a) ∧ W.cell? ⟨w.heap.size, 4, none⟩ = some (.int .i64 b) ∧ W.cell? ⟨w.heap.size, 5, none⟩ = some (.int .u64 imm)) := by
    intro W wn' hW
    have hB := hW.B
    rw [← hoe] at hB
    exact ⟨hB.cell 0, hB.cell 1, hB.cell 2, hB.cell 3, hB.cell 4, hB.cell 5⟩
  have HC := Lib.hid hC1
  have hasks : (asksL ⟨k, fn, d, a, b, imm⟩) = asksL o := by rw [hoe]
  have hwc : w.alloc (.cells #[.int .u8 k, .int .u8 fn, .int .i64 d, .int .i64 a, .int .i64 b, .int .u64 imm] 54) = w1 := by rw [hw1, ← hoe]; rfl
  have HL := Lib.hid hasks
  have hin : ∀ x ∈ asksL o, 0 ≤ x ∧ x < (n : Int) := by
    intro x hx
    have := backW_in (w := fun _ => false) (o := o) (n := n) (fun _ h => by cases h) (hoe ▸ ho) x ((backW_iff _ _ _).2 (.inr hx))
    exact this
  have HIN := Lib.hid hin
  obtain ⟨wn', hwn'⟩ : ∃ wn', wn.del d = wn' := ⟨_, rfl⟩
  have HB := Lib.hid (show backW wn o = wn'.addL (asksL o) by rw [← hwn', ← hoe]; unfold backW; exact congrArg (fun z => Want.addL z _) (if_pos hset))
  rw [show BackPost w m n wn ⟨k, fn, d, a, b, imm⟩ = BackPost w m n wn o by rw [hoe]]
  have HOE := Lib.hid hoe
  clear hC1 hasks hin hst hfin hoe hw1
  go_enter Tryz.func59, Tryz.ntmps59
  go_upto_region 1 with (fail)
  clear hwc
  obtain ⟨c0, c1, c2, c3, c4, c5⟩ := HC.out _ _ hF1
  go_upto_region 3 with (go_at_call 79; go_must (refine (HW.out _).mono ?_); rintro e w2 ⟨rfl, hb2⟩; rw [hw]; have hF2 := hF1.below hb2; obtain ⟨d0, d1, d2, d3, d4, d5⟩ := HC.out _ _ hF2; have hlk := wantLook hF2.W (x := d) (by omega) (by omega); skip)
  go_upto_region 4 with (go_at_call 76; go_must (refine (HS.out _).mono ?_); rintro e w3 ⟨rfl, hb3⟩; rw [hset])
  have hF3 := hF2.below hb3
  clear hF2 hb3 d0 d1 d2 d3 d4 d5 hlk
  obtain ⟨d0, d1, d2, d3, d4, d5⟩ := HC.out _ _ hF3
  obtain ⟨D, hown, hrd, hin⟩ := hF3.W
  have hkey := keyI (x := d) (by omega) (by omega)
  go_upto_region 5 with (at_delete; go_must (refine wpList_delete_own _ rfl _ _ 70 3 rfl 4 kInt_law Tryz.underlying70 _ m _ D rfl hown _ _ rfl hkey ?_); intro w4 hown4 ht4)
  have hF4 := hF3.turn (wn' := wn.del d) ⟨_, map_fit hown4, hrd.del d, hin.del d⟩ ht4
  clear hF3 d0 d1 d2 d3 d4 d5 hown hown4 ht4
  have hwn : wn.del d = wn' := hwn'
  rw [hwn] at hF4
  clear hrd hin
  clear hwn hwn'
  obtain ⟨d0, d1, d2, d3, d4, d5⟩ := HC.out _ _ hF4
  go_upto_region 6 with (go_at_call 74; go_must (refine (HA.out _).mono ?_); unfold AsksPost; rw [HL.out]; rintro e w5 ⟨A, c, rfl, hb5, hrow⟩)
  have hF5 := hF4.below hb5
  have hml := hF5.W.lt
  have hm4 := hF4.W.lt
  clear d0 d1 d2 d3 d4 d5 hF4 HA HS HW HL
  obtain ⟨L, hL⟩ : ∃ L, asksL o = L := ⟨_, rfl⟩
  have hL2 := asksL_len o
  rw [hL] at hL2 HIN HB hrow ⊢
  clear hL
  have HR := Lib.hid hrow
  go_loopw [37] (fun s wr => ∃ k : Nat, s = .int .i64 k ∧ k ≤ L.length ∧ FB w wr m n (wn'.addL (L.take k)) o ∧ TB (fun j => j = m) w5 wr) (fun s _ => L.length - (intOf s).toNat)
  case atStart => exact ⟨0, rfl, Nat.zero_le _, hF5, TB.refl _ _⟩
  case round =>
    clear hF5
    obtain ⟨k, rfl, hk, hF, hT⟩ := hrel
    by_cases hlt : k < L.length
    · obtain ⟨bA, rfl, hbA, hcell⟩ := HR.out k hlt
      have hcell := hT.cell hcell (by show ¬ bA = m; omega)
      have hx := HIN.out _ (List.getElem_mem hlt)
      have HS2 := Lib.hid (show L.take (k + 1) = L.take k ++ [L[k]] from List.take_succ_eq_append_getElem hlt)
      obtain ⟨x, hxe⟩ : ∃ x, L[k] = x := ⟨_, rfl⟩
      rw [hxe] at hcell hx HS2
      clear hxe
      obtain ⟨D, hown, hrd, hin⟩ := hF.W
      have hsz := Reads.size_le hrd (n := n) (fun y z e => hin y (by unfold wantG at e; split at e; assumption; cases e))
      have hkey := keyI (x := x) (by omega) (by omega)
      go_wp2_with (at_mapUpdate; go_must (refine wpList_mapUpdate_in _ rfl _ _ _ 70 rfl 3 4 kInt_law Tryz.underlying70 _ m _ D rfl hown (by unfold maxLen; omega) _ (.bool true) _ rfl rfl hkey _ [] (plainElem_bool Tryz.underlying4 true) ?_); intro w6 hown6 ht6)
      have T6 : TB (fun j => j = m) wr w6 := TB.of_grown ht6.grown (fun j e => by cases e; rfl)
      have hF6 := hF.turn (wn' := (wn'.addL (L.take k)).add x) ⟨_, map_fit hown6, hrd.put x, hin.add hx⟩ ht6
      go_roundw
      case rel =>
        refine ⟨k + 1, rfl, hlt, ?_, hT.trans T6⟩
        rw [HS2.out, addL_snoc]
        exact hF6
      case measure => simp [intOf]; omega
    · have hke : k = L.length := by omega
      rw [hke, List.take_length] at hF
      go_wp2_with fail
      go_ret
      refine HQ.out _ ?_
      rw [HB.out]
      exact hF
set_option maxRecDepth 100000 in
set_option maxHeartbeats 4000000 in
theorem back_wn {w : World} {m n : Nat} {wn : Want} (h : WantAt w m n wn) (k fn d a b imm : Int) (hn : n ≤ 100000) (ho : OpIn n ⟨k, fn, d, a, b, imm⟩) (hd : -9223372036854775808 ≤ d ∧ d < 9223372036854775808) (hw : worksB k = true) (hset : setsB k = false) :
    Calls Tryz.prog 59 #[.map (some m), .agg #[.int .u8 k, .int .u8 fn, .int .i64 d, .int .i64 a, .int .i64 b, .int .u64 imm]] w (BackPost w m n wn ⟨k, fn, d, a, b, imm⟩) := by
  have k1 : 1 ≤ k := ho.k
  have k2 : k ≤ 13 := ho.k2
  have hk13 : k = 1 ∨ k = 2 ∨ k = 3 ∨ k = 4 ∨ k = 5 ∨ k = 6 ∨ k = 7 ∨ k = 8 ∨ k = 9 ∨ k = 10 ∨ k = 11 ∨ k = 12 ∨ k = 13 := by omega
  obtain ⟨o, hoe⟩ : ∃ o : SOp, (⟨k, fn, d, a, b, imm⟩ : SOp) = o := ⟨_, rfl⟩
  have hst : stays wn o = true := by rw [← hoe]; unfold stays; rw [hw]; rfl
  have hfin : ∀ W, FB w W m n (backW wn o) o → BackPost w m n wn o (.returned (.bool true)) W := by
    intro W hW
    refine ⟨by rw [hst], ?_, hW.T⟩
    rw [hst]
    exact hW.W
  have HQ := Lib.hid hfin
  obtain ⟨w1, hw1, hF1⟩ := fb_begin h o
  have HA := Lib.hid (fun w => asks_lit k hk13 fn d a b imm w)
  have HS := Lib.hid (fun w => sets_c k fn d a b imm w)
  have HW := Lib.hid (fun w => works_c k fn d a b imm w)
  have hC1 : ∀ W wn', FB w W m n wn' o → (W.cell? ⟨w.heap.size, 0, none⟩ = some (.int .u8 k) ∧ W.cell? ⟨w.heap.size, 1, none⟩ = some (.int .u8 fn) ∧ W.cell? ⟨w.heap.size, 2, none⟩ = some (.int .i64 d) ∧ W.cell? ⟨w.heap.size, 3, none⟩ = some (.int .i64 a) ∧ W.cell? ⟨w.heap.size, 4, none⟩ = some (.int .i64 b) ∧ W.cell? ⟨w.heap.size, 5, none⟩ = some (.int .u64 imm)) := by
    intro W wn' hW
    have hB := hW.B
    rw [← hoe] at hB
    exact ⟨hB.cell 0, hB.cell 1, hB.cell 2, hB.cell 3, hB.cell 4, hB.cell 5⟩
  have HC := Lib.hid hC1
  have hasks : (asksL ⟨k, fn, d, a, b, imm⟩) = asksL o := by rw [hoe]
  have hwc : w.alloc (.cells #[.int .u8 k, .int .u8 fn, .int .i64 d, .int .i64 a, .int .i64 b, .int .u64 imm] 54) = w1 := by rw [hw1, ← hoe]; rfl
  have HL := Lib.hid hasks
  have hin : ∀ x ∈ asksL o, 0 ≤ x ∧ x < (n : Int) := by
    intro x hx
    have := backW_in (w := fun _ => false) (o := o) (n := n) (fun _ h => by cases h) (hoe ▸ ho) x ((backW_iff _ _ _).2 (.inr hx))
    exact this
  have HIN := Lib.hid hin
  obtain ⟨wn', hwn'⟩ : ∃ wn', wn = wn' := ⟨_, rfl⟩
  have HB := Lib.hid (show backW wn o = wn'.addL (asksL o) by rw [← hwn', ← hoe]; unfold backW; exact congrArg (fun z => Want.addL z _) (if_neg (by rw [hset]; decide)))
  rw [show BackPost w m n wn ⟨k, fn, d, a, b, imm⟩ = BackPost w m n wn o by rw [hoe]]
  have HOE := Lib.hid hoe
  clear hC1 hasks hin hst hfin hoe hw1
  go_enter Tryz.func59, Tryz.ntmps59
  go_upto_region 1 with (fail)
  clear hwc
  obtain ⟨c0, c1, c2, c3, c4, c5⟩ := HC.out _ _ hF1
  go_upto_region 3 with (go_at_call 79; go_must (refine (HW.out _).mono ?_); rintro e w2 ⟨rfl, hb2⟩; rw [hw]; have hF2 := hF1.below hb2; obtain ⟨d0, d1, d2, d3, d4, d5⟩ := HC.out _ _ hF2; have hlk := wantLook hF2.W (x := d) (by omega) (by omega); skip)
  go_upto_region 5 with (go_at_call 76; go_must (refine (HS.out _).mono ?_); rintro e w3 ⟨rfl, hb3⟩; rw [hset])
  have hF4 := hF2.below hb3
  clear hF2 hb3 d0 d1 d2 d3 d4 d5 hlk
  have hwn : wn = wn' := hwn'
  rw [hwn] at hF4
  clear hwn hwn'
  obtain ⟨d0, d1, d2, d3, d4, d5⟩ := HC.out _ _ hF4
  go_upto_region 6 with (go_at_call 74; go_must (refine (HA.out _).mono ?_); unfold AsksPost; rw [HL.out]; rintro e w5 ⟨A, c, rfl, hb5, hrow⟩)
  have hF5 := hF4.below hb5
  have hml := hF5.W.lt
  have hm4 := hF4.W.lt
  clear d0 d1 d2 d3 d4 d5 hF4 HA HS HW HL
  obtain ⟨L, hL⟩ : ∃ L, asksL o = L := ⟨_, rfl⟩
  have hL2 := asksL_len o
  rw [hL] at hL2 HIN HB hrow ⊢
  clear hL
  have HR := Lib.hid hrow
  go_loopw [37] (fun s wr => ∃ k : Nat, s = .int .i64 k ∧ k ≤ L.length ∧ FB w wr m n (wn'.addL (L.take k)) o ∧ TB (fun j => j = m) w5 wr) (fun s _ => L.length - (intOf s).toNat)
  case atStart => exact ⟨0, rfl, Nat.zero_le _, hF5, TB.refl _ _⟩
  case round =>
    clear hF5
    obtain ⟨k, rfl, hk, hF, hT⟩ := hrel
    by_cases hlt : k < L.length
    · obtain ⟨bA, rfl, hbA, hcell⟩ := HR.out k hlt
      have hcell := hT.cell hcell (by show ¬ bA = m; omega)
      have hx := HIN.out _ (List.getElem_mem hlt)
      have HS2 := Lib.hid (show L.take (k + 1) = L.take k ++ [L[k]] from List.take_succ_eq_append_getElem hlt)
      obtain ⟨x, hxe⟩ : ∃ x, L[k] = x := ⟨_, rfl⟩
      rw [hxe] at hcell hx HS2
      clear hxe
      obtain ⟨D, hown, hrd, hin⟩ := hF.W
      have hsz := Reads.size_le hrd (n := n) (fun y z e => hin y (by unfold wantG at e; split at e; assumption; cases e))
      have hkey := keyI (x := x) (by omega) (by omega)
      go_wp2_with (at_mapUpdate; go_must (refine wpList_mapUpdate_in _ rfl _ _ _ 70 rfl 3 4 kInt_law Tryz.underlying70 _ m _ D rfl hown (by unfold maxLen; omega) _ (.bool true) _ rfl rfl hkey _ [] (plainElem_bool Tryz.underlying4 true) ?_); intro w6 hown6 ht6)
      have T6 : TB (fun j => j = m) wr w6 := TB.of_grown ht6.grown (fun j e => by cases e; rfl)
      have hF6 := hF.turn (wn' := (wn'.addL (L.take k)).add x) ⟨_, map_fit hown6, hrd.put x, hin.add hx⟩ ht6
      go_roundw
      case rel =>
        refine ⟨k + 1, rfl, hlt, ?_, hT.trans T6⟩
        rw [HS2.out, addL_snoc]
        exact hF6
      case measure => simp [intOf]; omega
    · have hke : k = L.length := by omega
      rw [hke, List.take_length] at hF
      go_wp2_with fail
      go_ret
      refine HQ.out _ ?_
      rw [HB.out]
      exact hF
set_option maxRecDepth 100000 in
set_option maxHeartbeats 4000000 in
theorem back_m2 {w : World} {m n : Nat} {wn : Want} (h : WantAt w m n wn) (k fn d a b imm : Int) (hn : n ≤ 100000) (ho : OpIn n ⟨k, fn, d, a, b, imm⟩) (hd : -9223372036854775808 ≤ d ∧ d < 9223372036854775808) (hw : worksB k = false) (hset : setsB k = true) (hd2 : wn d = true) (hk2 : (k == 2) = true) (had : (a == d) = false) :
    Calls Tryz.prog 59 #[.map (some m), .agg #[.int .u8 k, .int .u8 fn, .int .i64 d, .int .i64 a, .int .i64 b, .int .u64 imm]] w (BackPost w m n wn ⟨k, fn, d, a, b, imm⟩) := by
  have k1 : 1 ≤ k := ho.k
  have k2 : k ≤ 13 := ho.k2
  have hk13 : k = 1 ∨ k = 2 ∨ k = 3 ∨ k = 4 ∨ k = 5 ∨ k = 6 ∨ k = 7 ∨ k = 8 ∨ k = 9 ∨ k = 10 ∨ k = 11 ∨ k = 12 ∨ k = 13 := by omega
  obtain ⟨o, hoe⟩ : ∃ o : SOp, (⟨k, fn, d, a, b, imm⟩ : SOp) = o := ⟨_, rfl⟩
  have hst : stays wn o = true := by rw [← hoe]; unfold stays; rw [hw]; show (false || (wn d && !(k == 2 && a == d))) = true; rw [hd2, hk2, had]; rfl
  have hfin : ∀ W, FB w W m n (backW wn o) o → BackPost w m n wn o (.returned (.bool true)) W := by
    intro W hW
    refine ⟨by rw [hst], ?_, hW.T⟩
    rw [hst]
    exact hW.W
  have HQ := Lib.hid hfin
  obtain ⟨w1, hw1, hF1⟩ := fb_begin h o
  have HA := Lib.hid (fun w => asks_lit k hk13 fn d a b imm w)
  have HS := Lib.hid (fun w => sets_c k fn d a b imm w)
  have HW := Lib.hid (fun w => works_c k fn d a b imm w)
  have hC1 : ∀ W wn', FB w W m n wn' o → (W.cell? ⟨w.heap.size, 0, none⟩ = some (.int .u8 k) ∧ W.cell? ⟨w.heap.size, 1, none⟩ = some (.int .u8 fn) ∧ W.cell? ⟨w.heap.size, 2, none⟩ = some (.int .i64 d) ∧ W.cell? ⟨w.heap.size, 3, none⟩ = some (.int .i64 a) ∧ W.cell? ⟨w.heap.size, 4, none⟩ = some (.int .i64 b) ∧ W.cell? ⟨w.heap.size, 5, none⟩ = some (.int .u64 imm)) := by
    intro W wn' hW
    have hB := hW.B
    rw [← hoe] at hB
    exact ⟨hB.cell 0, hB.cell 1, hB.cell 2, hB.cell 3, hB.cell 4, hB.cell 5⟩
  have HC := Lib.hid hC1
  have hasks : (asksL ⟨k, fn, d, a, b, imm⟩) = asksL o := by rw [hoe]
  have hwc : w.alloc (.cells #[.int .u8 k, .int .u8 fn, .int .i64 d, .int .i64 a, .int .i64 b, .int .u64 imm] 54) = w1 := by rw [hw1, ← hoe]; rfl
  have HL := Lib.hid hasks
  have hin : ∀ x ∈ asksL o, 0 ≤ x ∧ x < (n : Int) := by
    intro x hx
    have := backW_in (w := fun _ => false) (o := o) (n := n) (fun _ h => by cases h) (hoe ▸ ho) x ((backW_iff _ _ _).2 (.inr hx))
    exact this
  have HIN := Lib.hid hin
  obtain ⟨wn', hwn'⟩ : ∃ wn', wn.del d = wn' := ⟨_, rfl⟩
  have HB := Lib.hid (show backW wn o = wn'.addL (asksL o) by rw [← hwn', ← hoe]; unfold backW; exact congrArg (fun z => Want.addL z _) (if_pos hset))
  rw [show BackPost w m n wn ⟨k, fn, d, a, b, imm⟩ = BackPost w m n wn o by rw [hoe]]
  have HOE := Lib.hid hoe
  clear hC1 hasks hin hst hfin hoe hw1
  go_enter Tryz.func59, Tryz.ntmps59
  go_upto_region 1 with (fail)
  clear hwc
  obtain ⟨c0, c1, c2, c3, c4, c5⟩ := HC.out _ _ hF1
  go_upto_region 3 with (go_at_call 79; go_must (refine (HW.out _).mono ?_); rintro e w2 ⟨rfl, hb2⟩; rw [hw]; have hF2 := hF1.below hb2; obtain ⟨d0, d1, d2, d3, d4, d5⟩ := HC.out _ _ hF2; have hlk := wantLook hF2.W (x := d) (by omega) (by omega); rw [hd2] at hlk)
  go_upto_region 4 with (go_at_call 76; go_must (refine (HS.out _).mono ?_); rintro e w3 ⟨rfl, hb3⟩; rw [hset])
  have hF3 := hF2.below hb3
  clear hF2 hb3 d0 d1 d2 d3 d4 d5 hlk
  obtain ⟨d0, d1, d2, d3, d4, d5⟩ := HC.out _ _ hF3
  obtain ⟨D, hown, hrd, hin⟩ := hF3.W
  have hkey := keyI (x := d) (by omega) (by omega)
  go_upto_region 5 with (at_delete; go_must (refine wpList_delete_own _ rfl _ _ 70 3 rfl 4 kInt_law Tryz.underlying70 _ m _ D rfl hown _ _ rfl hkey ?_); intro w4 hown4 ht4)
  have hF4 := hF3.turn (wn' := wn.del d) ⟨_, map_fit hown4, hrd.del d, hin.del d⟩ ht4
  clear hF3 d0 d1 d2 d3 d4 d5 hown hown4 ht4
  have hwn : wn.del d = wn' := hwn'
  rw [hwn] at hF4
  clear hrd hin
  clear hwn hwn'
  obtain ⟨d0, d1, d2, d3, d4, d5⟩ := HC.out _ _ hF4
  go_upto_region 6 with (go_at_call 74; go_must (refine (HA.out _).mono ?_); unfold AsksPost; rw [HL.out]; rintro e w5 ⟨A, c, rfl, hb5, hrow⟩)
  have hF5 := hF4.below hb5
  have hml := hF5.W.lt
  have hm4 := hF4.W.lt
  clear d0 d1 d2 d3 d4 d5 hF4 HA HS HW HL
  obtain ⟨L, hL⟩ : ∃ L, asksL o = L := ⟨_, rfl⟩
  have hL2 := asksL_len o
  rw [hL] at hL2 HIN HB hrow ⊢
  clear hL
  have HR := Lib.hid hrow
  go_loopw [37] (fun s wr => ∃ k : Nat, s = .int .i64 k ∧ k ≤ L.length ∧ FB w wr m n (wn'.addL (L.take k)) o ∧ TB (fun j => j = m) w5 wr) (fun s _ => L.length - (intOf s).toNat)
  case atStart => exact ⟨0, rfl, Nat.zero_le _, hF5, TB.refl _ _⟩
  case round =>
    clear hF5
    obtain ⟨k, rfl, hk, hF, hT⟩ := hrel
    by_cases hlt : k < L.length
    · obtain ⟨bA, rfl, hbA, hcell⟩ := HR.out k hlt
      have hcell := hT.cell hcell (by show ¬ bA = m; omega)
      have hx := HIN.out _ (List.getElem_mem hlt)
      have HS2 := Lib.hid (show L.take (k + 1) = L.take k ++ [L[k]] from List.take_succ_eq_append_getElem hlt)
      obtain ⟨x, hxe⟩ : ∃ x, L[k] = x := ⟨_, rfl⟩
      rw [hxe] at hcell hx HS2
      clear hxe
      obtain ⟨D, hown, hrd, hin⟩ := hF.W
      have hsz := Reads.size_le hrd (n := n) (fun y z e => hin y (by unfold wantG at e; split at e; assumption; cases e))
      have hkey := keyI (x := x) (by omega) (by omega)
      go_wp2_with (at_mapUpdate; go_must (refine wpList_mapUpdate_in _ rfl _ _ _ 70 rfl 3 4 kInt_law Tryz.underlying70 _ m _ D rfl hown (by unfold maxLen; omega) _ (.bool true) _ rfl rfl hkey _ [] (plainElem_bool Tryz.underlying4 true) ?_); intro w6 hown6 ht6)
      have T6 : TB (fun j => j = m) wr w6 := TB.of_grown ht6.grown (fun j e => by cases e; rfl)
      have hF6 := hF.turn (wn' := (wn'.addL (L.take k)).add x) ⟨_, map_fit hown6, hrd.put x, hin.add hx⟩ ht6
      go_roundw
      case rel =>
        refine ⟨k + 1, rfl, hlt, ?_, hT.trans T6⟩
        rw [HS2.out, addL_snoc]
        exact hF6
      case measure => simp [intOf]; omega
    · have hke : k = L.length := by omega
      rw [hke, List.take_length] at hF
      go_wp2_with fail
      go_ret
      refine HQ.out _ ?_
      rw [HB.out]
      exact hF
set_option maxRecDepth 100000 in
set_option maxHeartbeats 4000000 in
theorem back_mn {w : World} {m n : Nat} {wn : Want} (h : WantAt w m n wn) (k fn d a b imm : Int) (hn : n ≤ 100000) (ho : OpIn n ⟨k, fn, d, a, b, imm⟩) (hd : -9223372036854775808 ≤ d ∧ d < 9223372036854775808) (hw : worksB k = false) (hset : setsB k = true) (hd2 : wn d = true) (hk2 : (k == 2) = false) :
    Calls Tryz.prog 59 #[.map (some m), .agg #[.int .u8 k, .int .u8 fn, .int .i64 d, .int .i64 a, .int .i64 b, .int .u64 imm]] w (BackPost w m n wn ⟨k, fn, d, a, b, imm⟩) := by
  have k1 : 1 ≤ k := ho.k
  have k2 : k ≤ 13 := ho.k2
  have hk13 : k = 1 ∨ k = 2 ∨ k = 3 ∨ k = 4 ∨ k = 5 ∨ k = 6 ∨ k = 7 ∨ k = 8 ∨ k = 9 ∨ k = 10 ∨ k = 11 ∨ k = 12 ∨ k = 13 := by omega
  obtain ⟨o, hoe⟩ : ∃ o : SOp, (⟨k, fn, d, a, b, imm⟩ : SOp) = o := ⟨_, rfl⟩
  have hst : stays wn o = true := by rw [← hoe]; unfold stays; rw [hw]; show (false || (wn d && !(k == 2 && a == d))) = true; rw [hd2, hk2]; rfl
  have hfin : ∀ W, FB w W m n (backW wn o) o → BackPost w m n wn o (.returned (.bool true)) W := by
    intro W hW
    refine ⟨by rw [hst], ?_, hW.T⟩
    rw [hst]
    exact hW.W
  have HQ := Lib.hid hfin
  obtain ⟨w1, hw1, hF1⟩ := fb_begin h o
  have HA := Lib.hid (fun w => asks_lit k hk13 fn d a b imm w)
  have HS := Lib.hid (fun w => sets_c k fn d a b imm w)
  have HW := Lib.hid (fun w => works_c k fn d a b imm w)
  have hC1 : ∀ W wn', FB w W m n wn' o → (W.cell? ⟨w.heap.size, 0, none⟩ = some (.int .u8 k) ∧ W.cell? ⟨w.heap.size, 1, none⟩ = some (.int .u8 fn) ∧ W.cell? ⟨w.heap.size, 2, none⟩ = some (.int .i64 d) ∧ W.cell? ⟨w.heap.size, 3, none⟩ = some (.int .i64 a) ∧ W.cell? ⟨w.heap.size, 4, none⟩ = some (.int .i64 b) ∧ W.cell? ⟨w.heap.size, 5, none⟩ = some (.int .u64 imm)) := by
    intro W wn' hW
    have hB := hW.B
    rw [← hoe] at hB
    exact ⟨hB.cell 0, hB.cell 1, hB.cell 2, hB.cell 3, hB.cell 4, hB.cell 5⟩
  have HC := Lib.hid hC1
  have hasks : (asksL ⟨k, fn, d, a, b, imm⟩) = asksL o := by rw [hoe]
  have hwc : w.alloc (.cells #[.int .u8 k, .int .u8 fn, .int .i64 d, .int .i64 a, .int .i64 b, .int .u64 imm] 54) = w1 := by rw [hw1, ← hoe]; rfl
  have HL := Lib.hid hasks
  have hin : ∀ x ∈ asksL o, 0 ≤ x ∧ x < (n : Int) := by
    intro x hx
    have := backW_in (w := fun _ => false) (o := o) (n := n) (fun _ h => by cases h) (hoe ▸ ho) x ((backW_iff _ _ _).2 (.inr hx))
    exact this
  have HIN := Lib.hid hin
  obtain ⟨wn', hwn'⟩ : ∃ wn', wn.del d = wn' := ⟨_, rfl⟩
  have HB := Lib.hid (show backW wn o = wn'.addL (asksL o) by rw [← hwn', ← hoe]; unfold backW; exact congrArg (fun z => Want.addL z _) (if_pos hset))
  rw [show BackPost w m n wn ⟨k, fn, d, a, b, imm⟩ = BackPost w m n wn o by rw [hoe]]
  have HOE := Lib.hid hoe
  clear hC1 hasks hin hst hfin hoe hw1
  go_enter Tryz.func59, Tryz.ntmps59
  go_upto_region 1 with (fail)
  clear hwc
  obtain ⟨c0, c1, c2, c3, c4, c5⟩ := HC.out _ _ hF1
  go_upto_region 3 with (go_at_call 79; go_must (refine (HW.out _).mono ?_); rintro e w2 ⟨rfl, hb2⟩; rw [hw]; have hF2 := hF1.below hb2; obtain ⟨d0, d1, d2, d3, d4, d5⟩ := HC.out _ _ hF2; have hlk := wantLook hF2.W (x := d) (by omega) (by omega); rw [hd2] at hlk)
  go_upto_region 4 with (go_at_call 76; go_must (refine (HS.out _).mono ?_); rintro e w3 ⟨rfl, hb3⟩; rw [hset])
  have hF3 := hF2.below hb3
  clear hF2 hb3 d0 d1 d2 d3 d4 d5 hlk
  obtain ⟨d0, d1, d2, d3, d4, d5⟩ := HC.out _ _ hF3
  obtain ⟨D, hown, hrd, hin⟩ := hF3.W
  have hkey := keyI (x := d) (by omega) (by omega)
  go_upto_region 5 with (at_delete; go_must (refine wpList_delete_own _ rfl _ _ 70 3 rfl 4 kInt_law Tryz.underlying70 _ m _ D rfl hown _ _ rfl hkey ?_); intro w4 hown4 ht4)
  have hF4 := hF3.turn (wn' := wn.del d) ⟨_, map_fit hown4, hrd.del d, hin.del d⟩ ht4
  clear hF3 d0 d1 d2 d3 d4 d5 hown hown4 ht4
  have hwn : wn.del d = wn' := hwn'
  rw [hwn] at hF4
  clear hrd hin
  clear hwn hwn'
  obtain ⟨d0, d1, d2, d3, d4, d5⟩ := HC.out _ _ hF4
  go_upto_region 6 with (go_at_call 74; go_must (refine (HA.out _).mono ?_); unfold AsksPost; rw [HL.out]; rintro e w5 ⟨A, c, rfl, hb5, hrow⟩)
  have hF5 := hF4.below hb5
  have hml := hF5.W.lt
  have hm4 := hF4.W.lt
  clear d0 d1 d2 d3 d4 d5 hF4 HA HS HW HL
  obtain ⟨L, hL⟩ : ∃ L, asksL o = L := ⟨_, rfl⟩
  have hL2 := asksL_len o
  rw [hL] at hL2 HIN HB hrow ⊢
  clear hL
  have HR := Lib.hid hrow
  go_loopw [37] (fun s wr => ∃ k : Nat, s = .int .i64 k ∧ k ≤ L.length ∧ FB w wr m n (wn'.addL (L.take k)) o ∧ TB (fun j => j = m) w5 wr) (fun s _ => L.length - (intOf s).toNat)
  case atStart => exact ⟨0, rfl, Nat.zero_le _, hF5, TB.refl _ _⟩
  case round =>
    clear hF5
    obtain ⟨k, rfl, hk, hF, hT⟩ := hrel
    by_cases hlt : k < L.length
    · obtain ⟨bA, rfl, hbA, hcell⟩ := HR.out k hlt
      have hcell := hT.cell hcell (by show ¬ bA = m; omega)
      have hx := HIN.out _ (List.getElem_mem hlt)
      have HS2 := Lib.hid (show L.take (k + 1) = L.take k ++ [L[k]] from List.take_succ_eq_append_getElem hlt)
      obtain ⟨x, hxe⟩ : ∃ x, L[k] = x := ⟨_, rfl⟩
      rw [hxe] at hcell hx HS2
      clear hxe
      obtain ⟨D, hown, hrd, hin⟩ := hF.W
      have hsz := Reads.size_le hrd (n := n) (fun y z e => hin y (by unfold wantG at e; split at e; assumption; cases e))
      have hkey := keyI (x := x) (by omega) (by omega)
      go_wp2_with (at_mapUpdate; go_must (refine wpList_mapUpdate_in _ rfl _ _ _ 70 rfl 3 4 kInt_law Tryz.underlying70 _ m _ D rfl hown (by unfold maxLen; omega) _ (.bool true) _ rfl rfl hkey _ [] (plainElem_bool Tryz.underlying4 true) ?_); intro w6 hown6 ht6)
      have T6 : TB (fun j => j = m) wr w6 := TB.of_grown ht6.grown (fun j e => by cases e; rfl)
      have hF6 := hF.turn (wn' := (wn'.addL (L.take k)).add x) ⟨_, map_fit hown6, hrd.put x, hin.add hx⟩ ht6
      go_roundw
      case rel =>
        refine ⟨k + 1, rfl, hlt, ?_, hT.trans T6⟩
        rw [HS2.out, addL_snoc]
        exact hF6
      case measure => simp [intOf]; omega
    · have hke : k = L.length := by omega
      rw [hke, List.take_length] at hF
      go_wp2_with fail
      go_ret
      refine HQ.out _ ?_
      rw [HB.out]
      exact hF
set_option maxRecDepth 100000 in
set_option maxHeartbeats 4000000 in
theorem back_d0 {w : World} {m n : Nat} {wn : Want} (h : WantAt w m n wn) (k fn d a b imm : Int) (hn : n ≤ 100000) (ho : OpIn n ⟨k, fn, d, a, b, imm⟩) (hd : -9223372036854775808 ≤ d ∧ d < 9223372036854775808) (hw : worksB k = false) (hd2 : wn d = false) :
    Calls Tryz.prog 59 #[.map (some m), .agg #[.int .u8 k, .int .u8 fn, .int .i64 d, .int .i64 a, .int .i64 b, .int .u64 imm]] w (BackPost w m n wn ⟨k, fn, d, a, b, imm⟩) := by
  have k1 : 1 ≤ k := ho.k
  have k2 : k ≤ 13 := ho.k2
  have hk13 : k = 1 ∨ k = 2 ∨ k = 3 ∨ k = 4 ∨ k = 5 ∨ k = 6 ∨ k = 7 ∨ k = 8 ∨ k = 9 ∨ k = 10 ∨ k = 11 ∨ k = 12 ∨ k = 13 := by omega
  obtain ⟨o, hoe⟩ : ∃ o : SOp, (⟨k, fn, d, a, b, imm⟩ : SOp) = o := ⟨_, rfl⟩
  have hst : stays wn o = false := by rw [← hoe]; unfold stays; rw [hw]; show (false || (wn d && !(k == 2 && a == d))) = false; rw [hd2]; rfl
  have hfin : ∀ W, FB w W m n wn o → BackPost w m n wn o (.returned (.bool false)) W := by
    intro W hW
    refine ⟨by rw [hst], ?_, hW.T⟩
    rw [hst]
    exact hW.W
  have HQ := Lib.hid hfin
  obtain ⟨w1, hw1, hF1⟩ := fb_begin h o
  have HA := Lib.hid (fun w => asks_lit k hk13 fn d a b imm w)
  have HS := Lib.hid (fun w => sets_c k fn d a b imm w)
  have HW := Lib.hid (fun w => works_c k fn d a b imm w)
  have hC1 : ∀ W wn', FB w W m n wn' o → (W.cell? ⟨w.heap.size, 0, none⟩ = some (.int .u8 k) ∧ W.cell? ⟨w.heap.size, 1, none⟩ = some (.int .u8 fn) ∧ W.cell? ⟨w.heap.size, 2, none⟩ = some (.int .i64 d) ∧ W.cell? ⟨w.heap.size, 3, none⟩ = some (.int .i64 a) ∧ W.cell? ⟨w.heap.size, 4, none⟩ = some (.int .i64 b) ∧ W.cell? ⟨w.heap.size, 5, none⟩ = some (.int .u64 imm)) := by
    intro W wn' hW
    have hB := hW.B
    rw [← hoe] at hB
    exact ⟨hB.cell 0, hB.cell 1, hB.cell 2, hB.cell 3, hB.cell 4, hB.cell 5⟩
  have HC := Lib.hid hC1
  have hasks : (asksL ⟨k, fn, d, a, b, imm⟩) = asksL o := by rw [hoe]
  have hwc : w.alloc (.cells #[.int .u8 k, .int .u8 fn, .int .i64 d, .int .i64 a, .int .i64 b, .int .u64 imm] 54) = w1 := by rw [hw1, ← hoe]; rfl
  have HL := Lib.hid hasks
  have hin : ∀ x ∈ asksL o, 0 ≤ x ∧ x < (n : Int) := by
    intro x hx
    have := backW_in (w := fun _ => false) (o := o) (n := n) (fun _ h => by cases h) (hoe ▸ ho) x ((backW_iff _ _ _).2 (.inr hx))
    exact this
  have HIN := Lib.hid hin
  skip
  rw [show BackPost w m n wn ⟨k, fn, d, a, b, imm⟩ = BackPost w m n wn o by rw [hoe]]
  have HOE := Lib.hid hoe
  clear hC1 hasks hin hst hfin hoe hw1
  go_enter Tryz.func59, Tryz.ntmps59
  go_upto_region 1 with (fail)
  clear hwc
  obtain ⟨c0, c1, c2, c3, c4, c5⟩ := HC.out _ _ hF1
  go_upto_region 2 with (go_at_call 79; go_must (refine (HW.out _).mono ?_); rintro e w2 ⟨rfl, hb2⟩; rw [hw]; have hF2 := hF1.below hb2; obtain ⟨d0, d1, d2, d3, d4, d5⟩ := HC.out _ _ hF2; have hlk := wantLook hF2.W (x := d) (by omega) (by omega); rw [hd2] at hlk)
  go_wp2_with fail
  go_ret
  exact HQ.out _ hF2
set_option maxRecDepth 100000 in
set_option maxHeartbeats 4000000 in
theorem back_d2 {w : World} {m n : Nat} {wn : Want} (h : WantAt w m n wn) (k fn d a b imm : Int) (hn : n ≤ 100000) (ho : OpIn n ⟨k, fn, d, a, b, imm⟩) (hd : -9223372036854775808 ≤ d ∧ d < 9223372036854775808) (hw : worksB k = false) (hd2 : wn d = true) (hk2 : (k == 2) = true) (had : (a == d) = true) :
    Calls Tryz.prog 59 #[.map (some m), .agg #[.int .u8 k, .int .u8 fn, .int .i64 d, .int .i64 a, .int .i64 b, .int .u64 imm]] w (BackPost w m n wn ⟨k, fn, d, a, b, imm⟩) := by
  have k1 : 1 ≤ k := ho.k
  have k2 : k ≤ 13 := ho.k2
  have hk13 : k = 1 ∨ k = 2 ∨ k = 3 ∨ k = 4 ∨ k = 5 ∨ k = 6 ∨ k = 7 ∨ k = 8 ∨ k = 9 ∨ k = 10 ∨ k = 11 ∨ k = 12 ∨ k = 13 := by omega
  obtain ⟨o, hoe⟩ : ∃ o : SOp, (⟨k, fn, d, a, b, imm⟩ : SOp) = o := ⟨_, rfl⟩
  have hst : stays wn o = false := by rw [← hoe]; unfold stays; rw [hw]; show (false || (wn d && !(k == 2 && a == d))) = false; rw [hd2, hk2, had]; rfl
  have hfin : ∀ W, FB w W m n wn o → BackPost w m n wn o (.returned (.bool false)) W := by
    intro W hW
    refine ⟨by rw [hst], ?_, hW.T⟩
    rw [hst]
    exact hW.W
  have HQ := Lib.hid hfin
  obtain ⟨w1, hw1, hF1⟩ := fb_begin h o
  have HA := Lib.hid (fun w => asks_lit k hk13 fn d a b imm w)
  have HS := Lib.hid (fun w => sets_c k fn d a b imm w)
  have HW := Lib.hid (fun w => works_c k fn d a b imm w)
  have hC1 : ∀ W wn', FB w W m n wn' o → (W.cell? ⟨w.heap.size, 0, none⟩ = some (.int .u8 k) ∧ W.cell? ⟨w.heap.size, 1, none⟩ = some (.int .u8 fn) ∧ W.cell? ⟨w.heap.size, 2, none⟩ = some (.int .i64 d) ∧ W.cell? ⟨w.heap.size, 3, none⟩ = some (.int .i64 a) ∧ W.cell? ⟨w.heap.size, 4, none⟩ = some (.int .i64 b) ∧ W.cell? ⟨w.heap.size, 5, none⟩ = some (.int .u64 imm)) := by
    intro W wn' hW
    have hB := hW.B
    rw [← hoe] at hB
    exact ⟨hB.cell 0, hB.cell 1, hB.cell 2, hB.cell 3, hB.cell 4, hB.cell 5⟩
  have HC := Lib.hid hC1
  have hasks : (asksL ⟨k, fn, d, a, b, imm⟩) = asksL o := by rw [hoe]
  have hwc : w.alloc (.cells #[.int .u8 k, .int .u8 fn, .int .i64 d, .int .i64 a, .int .i64 b, .int .u64 imm] 54) = w1 := by rw [hw1, ← hoe]; rfl
  have HL := Lib.hid hasks
  have hin : ∀ x ∈ asksL o, 0 ≤ x ∧ x < (n : Int) := by
    intro x hx
    have := backW_in (w := fun _ => false) (o := o) (n := n) (fun _ h => by cases h) (hoe ▸ ho) x ((backW_iff _ _ _).2 (.inr hx))
    exact this
  have HIN := Lib.hid hin
  skip
  rw [show BackPost w m n wn ⟨k, fn, d, a, b, imm⟩ = BackPost w m n wn o by rw [hoe]]
  have HOE := Lib.hid hoe
  clear hC1 hasks hin hst hfin hoe hw1
  go_enter Tryz.func59, Tryz.ntmps59
  go_upto_region 1 with (fail)
  clear hwc
  obtain ⟨c0, c1, c2, c3, c4, c5⟩ := HC.out _ _ hF1
  go_upto_region 2 with (go_at_call 79; go_must (refine (HW.out _).mono ?_); rintro e w2 ⟨rfl, hb2⟩; rw [hw]; have hF2 := hF1.below hb2; obtain ⟨d0, d1, d2, d3, d4, d5⟩ := HC.out _ _ hF2; have hlk := wantLook hF2.W (x := d) (by omega) (by omega); rw [hd2] at hlk)
  go_wp2_with fail
  go_ret
  exact HQ.out _ hF2
/-- A step backwards. -/
theorem back_c {w : World} {m n : Nat} {wn : Want} (h : WantAt w m n wn) (o : SOp) (hn : n ≤ 100000) (ho : OpIn n o) (hd : -9223372036854775808 ≤ o.d ∧ o.d < 9223372036854775808) :
    Calls Tryz.prog 59 #[.map (some m), o.val] w (BackPost w m n wn o) := by
  obtain ⟨k, fn, d, a, b, imm⟩ := o
  cases hw : worksB k with
  | true =>
    cases hset : setsB k with
    | true => exact back_ws h k fn d a b imm hn ho hd hw hset
    | false => exact back_wn h k fn d a b imm hn ho hd hw hset
  | false =>
    have hset : setsB k = true := by
      have k1 : 1 ≤ k := ho.k
      have k2 : k ≤ 13 := ho.k2
      unfold worksB at hw
      rw [Bool.and_eq_false_iff, decide_eq_false_iff_not, decide_eq_false_iff_not] at hw
      have : k ≤ 4 := by omega
      unfold setsB
      simp [this]
    cases hd2 : wn d with
    | false => exact back_d0 h k fn d a b imm hn ho hd hw hd2
    | true =>
      cases hk2 : (k == 2) with
      | false => exact back_mn h k fn d a b imm hn ho hd hw hset hd2 hk2
      | true =>
        cases had : (a == d) with
        | false => exact back_m2 h k fn d a b imm hn ho hd hw hset hd2 hk2 had
        | true => exact back_d2 h k fn d a b imm hn ho hd hw hd2 hk2 had
end Go.Proofs.YtoabiignjkcdmaaGreat
