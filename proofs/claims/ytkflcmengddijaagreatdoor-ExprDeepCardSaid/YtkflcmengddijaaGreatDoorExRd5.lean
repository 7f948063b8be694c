/-
  The reader's op, walked.
-/
import Derived.Test.YtkflcmengddijaaGreatDoorExRd4
namespace Go.Proofs.YtkflcmengddijaaGreatDoor
open Go.RowKit Lx
set_option linter.unusedVariables false
set_option linter.unusedSimpArgs false

theorem belowD {B : Nat} {a w : World} (h : Below B a w) : Below B a w.drew := ⟨h.os, h.tape, h.output, h.size, h.block⟩
theorem opIdx_at {t : List UInt8} (k : Nat) (hk : k < signsL.length) (h : ∀ j (hj : j < signsL.length), j < k → (signsL[j] == t) = false) (he : signsL[k] = t) : Rd.opIdx t = k := by
  unfold Rd.opIdx
  have : signsL.findIdx? (· == t) = some k := by
    rw [List.findIdx?_eq_some_iff_getElem]
    exact ⟨hk, by simp [he], fun j hj => by rw [h j (by omega) hj]; simp⟩
  rw [this]
theorem opIdx_no {t : List UInt8} (h : ∀ j (hj : j < signsL.length), (signsL[j] == t) = false) : Rd.opIdx t = -1 := by
  unfold Rd.opIdx
  have : signsL.findIdx? (· == t) = none := by
    rw [List.findIdx?_eq_none_iff]
    intro x hx
    obtain ⟨i, hi, rfl⟩ := List.getElem_of_mem hx
    exact h i hi
  rw [this]
theorem ret_int' {k : IntKind} {a b : Int} (h : a = b) : Ending.returned (.int k a) = .returned (.int k b) := by rw [h]
theorem opIdx_le (t : List UInt8) : Rd.opIdx t ≤ 14 := by
  unfold Rd.opIdx
  cases h : signsL.findIdx? (· == t) with
  | none => simp
  | some i =>
    rw [List.findIdx?_eq_some_iff_getElem] at h
    obtain ⟨hi, _⟩ := h
    have : signsL.length = 15 := rfl
    show (i : Int) ≤ 14
    omega

set_option maxRecDepth 100000 in
set_option maxHeartbeats 2000000 in
theorem sIdx_c (t : ByteArray) (w : World) (hsg : SgTab w) : Calls Tryz.prog 85 #[.slice (some ⟨1, 0, none⟩) 15 15, .string t] w fun e w' => e = .returned (.int .i64 (Rd.opIdx t.data.toList)) ∧ w' = w := by
  have hl15 : signsL.length = 15 := rfl
  go_enter Tryz.func85, Tryz.ntmps85
  go_wp2_with fail
  go_loop [8] (fun i => ∃ k : Nat, k ≤ 15 ∧ i = .int .i64 k ∧ ∀ j (hj : j < signsL.length), j < k → (signsL[j] == t.data.toList) = false) (fun i => 15 - (intOf i).toNat)
  case atStart => exact ⟨0, Nat.zero_le _, rfl, fun j _ h => absurd h (by omega)⟩
  case round =>
    obtain ⟨k, hk, rfl, hall⟩ := hrel
    have HA := Lib.hid hall
    clear hall
    by_cases hlt : k < 15
    · have g0 := hsg.cell k hlt
      have hlk : k < signsL.length := by omega
      have e0 : signsL.getD k [] = signsL[k] := by rw [List.getD_eq_getElem?_getD, List.getElem?_eq_getElem hlk]; rfl
      rw [e0] at g0
      obtain ⟨X, hX⟩ : ∃ X : ByteArray, X = ⟨(signsL[k]).toArray⟩ := ⟨_, rfl⟩
      rw [← hX] at g0
      have hXd : X.data.toList = signsL[k] := by rw [hX]
      have i0 : (0 : Int) ≤ (k : Int) := by omega
      have i1 : (k : Int) < 15 := by omega
      cases he : (t.toList == X.toList) with
      | true =>
        have he' : t.toList = X.toList := eq_of_beq he
        have hsx : signsL[k] = t.data.toList := by rw [← hXd, ← toList_data, ← he', toList_data]
        have HE := Lib.hid hsx
        clear hsx hXd hX e0
        go_wp2_with fail
        go_ret
        exact ⟨ret_int' (opIdx_at k hlk HA.out HE.out).symm, rfl⟩
      | false =>
        have he' : ¬ t.toList = X.toList := fun h => by rw [h] at he; simp at he
        have hsx : (signsL[k] == t.data.toList) = false := by
          rw [← hXd, ← toList_data, ← toList_data]
          simpa using fun h => he' h.symm
        have HE := Lib.hid hsx
        clear hsx hXd hX e0
        go_wp2_with fail
        refine ⟨⟨k + 1, by omega, by go_num, fun j hj hjk => ?_⟩, by simp [intOf]; omega⟩
        by_cases e : j = k
        · subst e; exact HE.out
        · exact HA.out j hj (by omega)
    · have i1 : (15 : Int) ≤ (k : Int) := by omega
      go_wp2_with fail
      go_ret
      exact ⟨ret_int' (opIdx_no (fun j hj => HA.out j hj (by omega))).symm, rfl⟩

set_option maxRecDepth 100000 in
set_option maxHeartbeats 1000000 in
theorem op_err (L : List STok) (A : Option Addr) (c rb : Nat) (w0 w : World) (p : Int) (xa xc : Int) (h : Rdr L A c rb w0 w ⟨p, some (xa, xc)⟩) (hsg : SgTab w) (k : Int) (t : ByteArray) (n a : Int) (ek : (Rd.look L p).k = k) (et : (Rd.look L p).text = t.data.toList) (en : (Rd.look L p).num = n) (ea : (Rd.look L p).at' = a) (i : Int) (ei : Rd.opIdx t.data.toList = i)  :
    Calls Tryz.prog 71 #[.pointer (some ⟨rb, 0, none⟩)] w (RdR L A c rb w (.int .u8 0) ⟨p, some (xa, xc)⟩) := by
  have HLK := Lib.hid (look_v h k t n a ek et en ea)
  have hk2 : Bk w rb #[.slice A L.length c, .int .i64 p, .iface 30 (.agg #[.int .i64 xa, .int .i64 xc])] 75 := h.bk
  have hIX : ∀ W, Below w.heap.size w W → Calls Tryz.prog 85 #[.slice (some ⟨1, 0, none⟩) 15 15, .string t] W fun e w' => e = .returned (.int .i64 i) ∧ w' = W := fun W hb => by rw [← ei]; exact sIdx_c t W (hsg.mono hb)
  have HIX := Lib.hid hIX
  clear ek et en ea hIX ei
  go_enter Tryz.func71, Tryz.ntmps71
  go_wp2_with (go_at_call 68; refine HLK.out.mono ?_; rintro e w1 ⟨rfl, hb1⟩)
  have T1 := Bk.new w1 #[.int .u8 k, .string t, .int .u64 n, .int .i64 a] 50
  have hbA := hb1.alloc hb1.size (.cells #[.int .u8 k, .string t, .int .u64 n, .int .i64 a] 50)
  have hgA : w.grownBy (w1.alloc (.cells #[.int .u8 k, .string t, .int .u64 n, .int .i64 a] 50)) (some rb) := grow_trans (grow_below hb1) (grow_alloc ..)
  obtain ⟨W, hW⟩ : ∃ W, W = w1.alloc (.cells #[.int .u8 k, .string t, .int .u64 n, .int .i64 a] 50) := ⟨_, rfl⟩
  rw [← hW] at T1 hbA hgA ⊢
  have C1 := T1.cell
  have hkW := hk2.mono hbA
  have CW := hkW.cell
  have FW := hkW.free
  have hzW := hkW.lt
  clear hW
  go_region_held3 (fun w' => w'.cell? ⟨w1.heap.size, 1, none⟩ = some (.string t)) (first | go_keep | assumption)
    (first
      | (go_at_call 85; refine (HIX.out _ (belowD hbA)).mono ?_; rintro e w' ⟨rfl, rfl⟩))
  go_wp2_with fail
  refine (bad_c L A c rb w0 _ ⟨p, some (xa, xc)⟩ 7 (h.keep (belowD hbA))).mono ?_
  rintro e w2 ⟨rfl, hp2⟩
  go_wp2_with fail
  go_ret
  exact ⟨rfl, hp2.bk, grow_trans (grow_below (belowD hbA)) hp2.grow⟩

set_option maxRecDepth 100000 in
set_option maxHeartbeats 1000000 in
theorem op_kind (L : List STok) (A : Option Addr) (c rb : Nat) (w0 w : World) (p : Int)  (h : Rdr L A c rb w0 w ⟨p, none⟩) (hsg : SgTab w) (k : Int) (t : ByteArray) (n a : Int) (ek : (Rd.look L p).k = k) (et : (Rd.look L p).text = t.data.toList) (en : (Rd.look L p).num = n) (ea : (Rd.look L p).at' = a) (i : Int) (ei : Rd.opIdx t.data.toList = i) (h4 : ¬ k = 4) :
    Calls Tryz.prog 71 #[.pointer (some ⟨rb, 0, none⟩)] w (RdR L A c rb w (.int .u8 0) (Rd.bad L ⟨p, none⟩ 7)) := by
  have HLK := Lib.hid (look_v h k t n a ek et en ea)
  have hk2 : Bk w rb #[.slice A L.length c, .int .i64 p, .nilIface] 75 := h.bk
  have hIX : ∀ W, Below w.heap.size w W → Calls Tryz.prog 85 #[.slice (some ⟨1, 0, none⟩) 15 15, .string t] W fun e w' => e = .returned (.int .i64 i) ∧ w' = W := fun W hb => by rw [← ei]; exact sIdx_c t W (hsg.mono hb)
  have HIX := Lib.hid hIX
  have q1 : (k == 4) = false := by simpa using h4
  have q2 : (k != 4) = true := by simpa using h4
  clear ek et en ea hIX ei
  go_enter Tryz.func71, Tryz.ntmps71
  go_wp2_with (go_at_call 68; refine HLK.out.mono ?_; rintro e w1 ⟨rfl, hb1⟩)
  have T1 := Bk.new w1 #[.int .u8 k, .string t, .int .u64 n, .int .i64 a] 50
  have hbA := hb1.alloc hb1.size (.cells #[.int .u8 k, .string t, .int .u64 n, .int .i64 a] 50)
  have hgA : w.grownBy (w1.alloc (.cells #[.int .u8 k, .string t, .int .u64 n, .int .i64 a] 50)) (some rb) := grow_trans (grow_below hb1) (grow_alloc ..)
  obtain ⟨W, hW⟩ : ∃ W, W = w1.alloc (.cells #[.int .u8 k, .string t, .int .u64 n, .int .i64 a] 50) := ⟨_, rfl⟩
  rw [← hW] at T1 hbA hgA ⊢
  have C1 := T1.cell
  have hkW := hk2.mono hbA
  have CW := hkW.cell
  have FW := hkW.free
  have hzW := hkW.lt
  clear hW
  go_region_held3 (fun w' => w'.cell? ⟨w1.heap.size, 1, none⟩ = some (.string t)) (first | go_keep | assumption)
    (first
      | (go_at_call 85; refine (HIX.out _ (belowD hbA)).mono ?_; rintro e w' ⟨rfl, rfl⟩))
  go_wp2_with fail
  refine (bad_c L A c rb w0 _ ⟨p, none⟩ 7 (h.keep (belowD hbA))).mono ?_
  rintro e w2 ⟨rfl, hp2⟩
  go_wp2_with fail
  go_ret
  exact ⟨rfl, hp2.bk, grow_trans (grow_below (belowD hbA)) hp2.grow⟩

set_option maxRecDepth 100000 in
set_option maxHeartbeats 1000000 in
theorem op_low (L : List STok) (A : Option Addr) (c rb : Nat) (w0 w : World) (p : Int)  (h : Rdr L A c rb w0 w ⟨p, none⟩) (hsg : SgTab w) (k : Int) (t : ByteArray) (n a : Int) (ek : (Rd.look L p).k = k) (et : (Rd.look L p).text = t.data.toList) (en : (Rd.look L p).num = n) (ea : (Rd.look L p).at' = a) (i : Int) (ei : Rd.opIdx t.data.toList = i) (h4 : k = 4) (h5 : i < 1) :
    Calls Tryz.prog 71 #[.pointer (some ⟨rb, 0, none⟩)] w (RdR L A c rb w (.int .u8 0) (Rd.bad L ⟨p, none⟩ 7)) := by
  have HLK := Lib.hid (look_v h k t n a ek et en ea)
  have hk2 : Bk w rb #[.slice A L.length c, .int .i64 p, .nilIface] 75 := h.bk
  have hIX : ∀ W, Below w.heap.size w W → Calls Tryz.prog 85 #[.slice (some ⟨1, 0, none⟩) 15 15, .string t] W fun e w' => e = .returned (.int .i64 i) ∧ w' = W := fun W hb => by rw [← ei]; exact sIdx_c t W (hsg.mono hb)
  have HIX := Lib.hid hIX
  subst h4
  clear ek et en ea hIX ei
  go_enter Tryz.func71, Tryz.ntmps71
  go_wp2_with (go_at_call 68; refine HLK.out.mono ?_; rintro e w1 ⟨rfl, hb1⟩)
  have T1 := Bk.new w1 #[.int .u8 4, .string t, .int .u64 n, .int .i64 a] 50
  have hbA := hb1.alloc hb1.size (.cells #[.int .u8 4, .string t, .int .u64 n, .int .i64 a] 50)
  have hgA : w.grownBy (w1.alloc (.cells #[.int .u8 4, .string t, .int .u64 n, .int .i64 a] 50)) (some rb) := grow_trans (grow_below hb1) (grow_alloc ..)
  obtain ⟨W, hW⟩ : ∃ W, W = w1.alloc (.cells #[.int .u8 4, .string t, .int .u64 n, .int .i64 a] 50) := ⟨_, rfl⟩
  rw [← hW] at T1 hbA hgA ⊢
  have C1 := T1.cell
  have hkW := hk2.mono hbA
  have CW := hkW.cell
  have FW := hkW.free
  have hzW := hkW.lt
  clear hW
  go_region_held3 (fun w' => w'.cell? ⟨w1.heap.size, 1, none⟩ = some (.string t)) (first | go_keep | assumption)
    (first
      | (go_at_call 85; refine (HIX.out _ (belowD hbA)).mono ?_; rintro e w' ⟨rfl, rfl⟩))
  go_wp2_with fail
  refine (bad_c L A c rb w0 _ ⟨p, none⟩ 7 (h.keep (belowD hbA))).mono ?_
  rintro e w2 ⟨rfl, hp2⟩
  go_wp2_with fail
  go_ret
  exact ⟨rfl, hp2.bk, grow_trans (grow_below (belowD hbA)) hp2.grow⟩

set_option maxRecDepth 100000 in
set_option maxHeartbeats 1000000 in
theorem op_yes (L : List STok) (A : Option Addr) (c rb : Nat) (w0 w : World) (p : Int)  (h : Rdr L A c rb w0 w ⟨p, none⟩) (hsg : SgTab w) (k : Int) (t : ByteArray) (n a : Int) (ek : (Rd.look L p).k = k) (et : (Rd.look L p).text = t.data.toList) (en : (Rd.look L p).num = n) (ea : (Rd.look L p).at' = a) (i : Int) (ei : Rd.opIdx t.data.toList = i) (h4 : k = 4) (h5 : 1 ≤ i) (h6 : i ≤ 14) (h0 : 0 ≤ p) (h1 : p < 1000000000000) :
    Calls Tryz.prog 71 #[.pointer (some ⟨rb, 0, none⟩)] w (RdR L A c rb w (.int .u8 i) ⟨p + 1, none⟩) := by
  have HLK := Lib.hid (look_v h k t n a ek et en ea)
  have hk2 : Bk w rb #[.slice A L.length c, .int .i64 p, .nilIface] 75 := h.bk
  have hIX : ∀ W, Below w.heap.size w W → Calls Tryz.prog 85 #[.slice (some ⟨1, 0, none⟩) 15 15, .string t] W fun e w' => e = .returned (.int .i64 i) ∧ w' = W := fun W hb => by rw [← ei]; exact sIdx_c t W (hsg.mono hb)
  have HIX := Lib.hid hIX
  subst h4
  clear ek et en ea hIX ei
  go_enter Tryz.func71, Tryz.ntmps71
  go_wp2_with (go_at_call 68; refine HLK.out.mono ?_; rintro e w1 ⟨rfl, hb1⟩)
  have T1 := Bk.new w1 #[.int .u8 4, .string t, .int .u64 n, .int .i64 a] 50
  have hbA := hb1.alloc hb1.size (.cells #[.int .u8 4, .string t, .int .u64 n, .int .i64 a] 50)
  have hgA : w.grownBy (w1.alloc (.cells #[.int .u8 4, .string t, .int .u64 n, .int .i64 a] 50)) (some rb) := grow_trans (grow_below hb1) (grow_alloc ..)
  obtain ⟨W, hW⟩ : ∃ W, W = w1.alloc (.cells #[.int .u8 4, .string t, .int .u64 n, .int .i64 a] 50) := ⟨_, rfl⟩
  rw [← hW] at T1 hbA hgA ⊢
  have C1 := T1.cell
  have hkW := hk2.mono hbA
  have CW := hkW.cell
  have FW := hkW.free
  have hzW := hkW.lt
  clear hW
  go_region_held3 (fun w' => w'.cell? ⟨w1.heap.size, 1, none⟩ = some (.string t)) (first | go_keep | assumption)
    (first
      | (go_at_call 85; refine (HIX.out _ (belowD hbA)).mono ?_; rintro e w' ⟨rfl, rfl⟩))
  go_wp2_with fail
  go_ret
  exact ⟨rfl, (hkW.drew.set 1 (.int .i64 (p + 1))), grow_trans (grow_drew hgA) (grow_set ..)⟩
theorem op_c (L : List STok) (A : Option Addr) (c rb : Nat) (w0 w : World) (s : RS) (h : Rdr L A c rb w0 w s) (hsg : SgTab w) :
    Calls Tryz.prog 71 #[.pointer (some ⟨rb, 0, none⟩)] w (RdR L A c rb w (.int .u8 (Rd.op L s).1) (Rd.op L s).2) := by
  obtain ⟨p, x⟩ := s
  cases x with
  | some x =>
    have e : Rd.op L ⟨p, some x⟩ = (0, ⟨p, some x⟩) := rfl
    rw [e]
    exact op_err L A c rb w0 w p x.1 x.2 h hsg _ ⟨(Rd.look L p).text.toArray⟩ _ _ rfl rfl rfl rfl _ rfl
  | none =>
    by_cases h4 : (Rd.look L p).k = 4
    · by_cases h5 : 1 ≤ Rd.opIdx (Rd.look L p).text
      · have e : Rd.op L ⟨p, none⟩ = (Rd.opIdx (Rd.look L p).text, ⟨p + 1, none⟩) := by simp [Rd.op, Rd.opB, h4, h5, Rd.adv]
        rw [e]
        obtain ⟨h0, h1⟩ := Rd.look_in (L := L) (p := p) (by omega)
        exact op_yes L A c rb w0 w p h hsg _ ⟨(Rd.look L p).text.toArray⟩ _ _ rfl rfl rfl rfl _ rfl h4 h5 (opIdx_le _) h0 (by have := h.len; omega)
      · have e : Rd.op L ⟨p, none⟩ = (0, Rd.bad L ⟨p, none⟩ 7) := by simp [Rd.op, Rd.opB, h4, h5]
        rw [e]
        exact op_low L A c rb w0 w p h hsg _ ⟨(Rd.look L p).text.toArray⟩ _ _ rfl rfl rfl rfl _ rfl h4 (by show Rd.opIdx (Rd.look L p).text < 1; omega)
    · have e : Rd.op L ⟨p, none⟩ = (0, Rd.bad L ⟨p, none⟩ 7) := by simp [Rd.op, Rd.opB, h4]
      rw [e]
      exact op_kind L A c rb w0 w p h hsg _ ⟨(Rd.look L p).text.toArray⟩ _ _ rfl rfl rfl rfl _ rfl h4
end Go.Proofs.YtkflcmengddijaaGreatDoor
