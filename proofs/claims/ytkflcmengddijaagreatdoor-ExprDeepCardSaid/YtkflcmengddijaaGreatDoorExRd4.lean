/-
  The reader's name, walked.
-/
import Derived.Test.YtkflcmengddijaaGreatDoorExRd3
import Derived.Test.YtkflcmengddijaaGreatDoorExMay
namespace Go.Proofs.YtkflcmengddijaaGreatDoor
open Go.RowKit Lx
set_option linter.unusedVariables false
set_option linter.unusedSimpArgs false

theorem rdErr {L : List STok} {p : Int} {x : Int × Int} (e : Int) : Rd.bad L ⟨p, some x⟩ e = ⟨p, some x⟩ := rfl
set_option maxRecDepth 100000 in
set_option maxHeartbeats 1000000 in
theorem name_err (L : List STok) (A : Option Addr) (c rb : Nat) (w0 w : World) (p xa xc : Int) (h : Rdr L A c rb w0 w ⟨p, some (xa, xc)⟩) (k : Int) (t : ByteArray) (n a : Int) (ek : (Rd.look L p).k = k) (et : (Rd.look L p).text = t.data.toList) (en : (Rd.look L p).num = n) (ea : (Rd.look L p).at' = a) :
    Calls Tryz.prog 70 #[.pointer (some ⟨rb, 0, none⟩)] w (RdR L A c rb w (.string ⟨#[]⟩) ⟨p, some (xa, xc)⟩) := by
  have HLK := Lib.hid (look_v h k t n a ek et en ea)
  have hk2 : Bk w rb #[.slice A L.length c, .int .i64 p, .iface 30 (.agg #[.int .i64 xa, .int .i64 xc])] 75 := h.bk
  clear ek et en ea
  go_enter Tryz.func70, Tryz.ntmps70
  go_wp2_with (go_at_call 68; refine HLK.out.mono ?_; rintro e w1 ⟨rfl, hb1⟩; have hk1 := hk2.mono hb1; have C1 := hk1.cell; have F1 := hk1.free; have hz1 := hk1.lt)
  refine (bad_some L A c rb w0 _ p (xa, xc) 7 ((h.keep hb1).alloc _)).mono ?_
  rintro e w2 ⟨rfl, hp2⟩
  go_wp2_with fail
  go_ret
  exact ⟨rfl, hp2.bk, grow_trans (grow_trans (grow_below hb1) (grow_alloc ..)) hp2.grow⟩
set_option maxRecDepth 100000 in
set_option maxHeartbeats 1000000 in
theorem name_kind (L : List STok) (A : Option Addr) (c rb : Nat) (w0 w : World) (p : Int) (h : Rdr L A c rb w0 w ⟨p, none⟩) (k : Int) (t : ByteArray) (n a : Int) (ek : (Rd.look L p).k = k) (et : (Rd.look L p).text = t.data.toList) (en : (Rd.look L p).num = n) (ea : (Rd.look L p).at' = a) (h1 : ¬ k = 1) :
    Calls Tryz.prog 70 #[.pointer (some ⟨rb, 0, none⟩)] w (RdR L A c rb w (.string ⟨#[]⟩) (Rd.bad L ⟨p, none⟩ 7)) := by
  have HLK := Lib.hid (look_v h k t n a ek et en ea)
  have hk2 : Bk w rb #[.slice A L.length c, .int .i64 p, .nilIface] 75 := h.bk
  have q1 : (k == 1) = false := by simpa using h1
  have q2 : (k != 1) = true := by simpa using h1
  clear ek et en ea
  go_enter Tryz.func70, Tryz.ntmps70
  go_wp2_with (go_at_call 68; refine HLK.out.mono ?_; rintro e w1 ⟨rfl, hb1⟩; have hk1 := hk2.mono hb1; have C1 := hk1.cell; have F1 := hk1.free; have hz1 := hk1.lt)
  refine (bad_c L A c rb w0 _ ⟨p, none⟩ 7 ((h.keep hb1).alloc _)).mono ?_
  rintro e w2 ⟨rfl, hp2⟩
  go_wp2_with fail
  go_ret
  exact ⟨rfl, hp2.bk, grow_trans (grow_trans (grow_below hb1) (grow_alloc ..)) hp2.grow⟩
set_option maxRecDepth 100000 in
set_option maxHeartbeats 1000000 in
theorem name_bad (L : List STok) (A : Option Addr) (c rb : Nat) (w0 w : World) (p : Int) (h : Rdr L A c rb w0 w ⟨p, none⟩) (t : ByteArray) (n a : Int) (ek : (Rd.look L p).k = 1) (et : (Rd.look L p).text = t.data.toList) (en : (Rd.look L p).num = n) (ea : (Rd.look L p).at' = a) (hN : isName t.data.toList = false) :
    Calls Tryz.prog 70 #[.pointer (some ⟨rb, 0, none⟩)] w (RdR L A c rb w (.string ⟨#[]⟩) (Rd.bad L ⟨p, none⟩ 7)) := by
  have HLK := Lib.hid (look_v h 1 t n a ek et en ea)
  have hk2 : Bk w rb #[.slice A L.length c, .int .i64 p, .nilIface] 75 := h.bk
  have HNM := Lib.hid hN
  clear ek et en ea hN
  go_enter Tryz.func70, Tryz.ntmps70
  go_wp2_with (first
    | (go_at_call 68; refine HLK.out.mono ?_; rintro e w1 ⟨rfl, hb1⟩; have hk1 := hk2.mono hb1; have C1 := hk1.cell; have F1 := hk1.free; have hz1 := hk1.lt)
    | (go_at_call 12; refine (named_any _ _).mono ?_; rintro e w' ⟨rfl, rfl⟩; rw [HNM.out]))
  refine (bad_c L A c rb w0 _ ⟨p, none⟩ 7 ((h.keep hb1).alloc _)).mono ?_
  rintro e w2 ⟨rfl, hp2⟩
  go_wp2_with fail
  go_ret
  exact ⟨rfl, hp2.bk, grow_trans (grow_trans (grow_below hb1) (grow_alloc ..)) hp2.grow⟩
set_option maxRecDepth 100000 in
set_option maxHeartbeats 1000000 in
theorem name_yes (L : List STok) (A : Option Addr) (c rb : Nat) (w0 w : World) (p : Int) (h : Rdr L A c rb w0 w ⟨p, none⟩) (t : ByteArray) (n a : Int) (ek : (Rd.look L p).k = 1) (et : (Rd.look L p).text = t.data.toList) (en : (Rd.look L p).num = n) (ea : (Rd.look L p).at' = a) (hN : isName t.data.toList = true) (h0 : 0 ≤ p) (h1 : p < 1000000000000) :
    Calls Tryz.prog 70 #[.pointer (some ⟨rb, 0, none⟩)] w (RdR L A c rb w (.string t) ⟨p + 1, none⟩) := by
  have HLK := Lib.hid (look_v h 1 t n a ek et en ea)
  have hk2 : Bk w rb #[.slice A L.length c, .int .i64 p, .nilIface] 75 := h.bk
  have HNM := Lib.hid hN
  clear ek et en ea hN
  go_enter Tryz.func70, Tryz.ntmps70
  go_wp2_with (first
    | (go_at_call 68; refine HLK.out.mono ?_; rintro e w1 ⟨rfl, hb1⟩; have hk1 := hk2.mono hb1; have C1 := hk1.cell; have F1 := hk1.free; have hz1 := hk1.lt)
    | (go_at_call 12; refine (named_any _ _).mono ?_; rintro e w' ⟨rfl, rfl⟩; rw [HNM.out]))
  go_ret
  exact ⟨rfl, (hk1.set 1 (.int .i64 (p + 1))).alloc _, grow_trans (grow_below hb1) (grow_trans (grow_set ..) (grow_alloc ..))⟩
theorem name_c (L : List STok) (A : Option Addr) (c rb : Nat) (w0 w : World) (s : RS) (h : Rdr L A c rb w0 w s) :
    Calls Tryz.prog 70 #[.pointer (some ⟨rb, 0, none⟩)] w (RdR L A c rb w (.string (Rd.str (Rd.name L s).1)) (Rd.name L s).2) := by
  obtain ⟨p, x⟩ := s
  cases x with
  | some x =>
    have e : Rd.name L ⟨p, some x⟩ = ([], ⟨p, some x⟩) := rfl
    rw [e]
    exact name_err L A c rb w0 w p x.1 x.2 h _ ⟨(Rd.look L p).text.toArray⟩ _ _ rfl rfl rfl rfl
  | none =>
    by_cases h4 : (Rd.look L p).k = 1
    · cases hN : isName (Rd.look L p).text with
      | true =>
        have e : Rd.name L ⟨p, none⟩ = ((Rd.look L p).text, ⟨p + 1, none⟩) := by simp [Rd.name, Rd.nameB, h4, hN, Rd.adv]
        rw [e]
        obtain ⟨h0, h1⟩ := Rd.look_in (L := L) (p := p) (by omega)
        exact name_yes L A c rb w0 w p h ⟨(Rd.look L p).text.toArray⟩ _ _ h4 rfl rfl rfl hN h0 (by have := h.len; omega)
      | false =>
        have e : Rd.name L ⟨p, none⟩ = ([], Rd.bad L ⟨p, none⟩ 7) := by simp [Rd.name, Rd.nameB, h4, hN]
        rw [e]
        exact name_bad L A c rb w0 w p h ⟨(Rd.look L p).text.toArray⟩ _ _ h4 rfl rfl rfl hN
    · have e : Rd.name L ⟨p, none⟩ = ([], Rd.bad L ⟨p, none⟩ 7) := by simp [Rd.name, Rd.nameB, h4]
      rw [e]
      exact name_kind L A c rb w0 w p h _ ⟨(Rd.look L p).text.toArray⟩ _ _ rfl rfl rfl rfl h4
end Go.Proofs.YtkflcmengddijaaGreatDoor
