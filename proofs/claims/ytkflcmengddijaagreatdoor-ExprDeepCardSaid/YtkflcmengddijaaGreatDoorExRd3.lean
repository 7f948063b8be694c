/-
  The reader's sign and need, walked.
-/
import Derived.Test.YtkflcmengddijaaGreatDoorExRd2
namespace Go.Proofs.YtkflcmengddijaaGreatDoor
open Go.RowKit Lx
set_option linter.unusedVariables false
set_option linter.unusedSimpArgs false

theorem grow_below {w w' : World} {r : Option Nat} (h : Below w.heap.size w w') : w.grownBy w' r := ⟨h.os, h.tape, h.output, h.size, fun n hn _ => h.block n hn⟩
/-- What a function of the reader that answers one value leaves. -/
def RdR (L : List STok) (A : Option Addr) (c rb : Nat) (w : World) (v : Value) (s : RS) (e : Ending) (w' : World) : Prop := e = .returned v ∧ RdPost L A c rb w w' s
theorem mkStr (s : ByteArray) : (⟨s.data.toList.toArray⟩ : ByteArray) = s := rfl
theorem look_v {L : List STok} {A : Option Addr} {c rb : Nat} {w0 w : World} {s : RS} (h : Rdr L A c rb w0 w s) (k : Int) (t : ByteArray) (n a : Int) (hk : (Rd.look L s.pos).k = k) (ht : (Rd.look L s.pos).text = t.data.toList) (hn : (Rd.look L s.pos).num = n) (ha : (Rd.look L s.pos).at' = a) :
    Calls Tryz.prog 68 #[.pointer (some ⟨rb, 0, none⟩)] w fun e w' => e = .returned (.agg #[.int .u8 k, .string t, .int .u64 n, .int .i64 a]) ∧ Below w.heap.size w w' := by
  refine (look_c L A c rb w0 w s h).mono fun e w' ⟨he, hb⟩ => ⟨?_, hb⟩
  rw [he]
  unfold tkArr
  rw [hk, ht, hn, ha]

set_option maxRecDepth 100000 in
set_option maxHeartbeats 1000000 in
theorem sign_err (L : List STok) (A : Option Addr) (c rb : Nat) (w0 w : World) (p : Int) (xa xc : Int) (s : ByteArray) (h : Rdr L A c rb w0 w ⟨p, some (xa, xc)⟩) (k : Int) (t : ByteArray) (n a : Int) (ek : (Rd.look L p).k = k) (et : (Rd.look L p).text = t.data.toList) (en : (Rd.look L p).num = n) (ea : (Rd.look L p).at' = a)  :
    Calls Tryz.prog 69 #[.pointer (some ⟨rb, 0, none⟩), .string s] w (RdR L A c rb w (.bool false) ⟨p, some (xa, xc)⟩) := by
  have HLK := Lib.hid (look_v h k t n a ek et en ea)
  have hlen := h.len
  have hk2 : Bk w rb #[.slice A L.length c, .int .i64 p, .iface 30 (.agg #[.int .i64 xa, .int .i64 xc])] 75 := h.bk
  have C0 := hk2.cell
  clear ek et en ea
  go_enter Tryz.func69, Tryz.ntmps69
  go_wp2_with (go_at_call 68; refine HLK.out.mono ?_; rintro e w1 ⟨rfl, hb1⟩; have hk1 := hk2.mono hb1; have C1 := hk1.cell; have F1 := hk1.free; have hz1 := hk1.lt)
  go_ret
  exact ⟨rfl, hk1.alloc _, grow_trans (grow_below hb1) (grow_alloc ..)⟩

set_option maxRecDepth 100000 in
set_option maxHeartbeats 1000000 in
theorem sign_kind (L : List STok) (A : Option Addr) (c rb : Nat) (w0 w : World) (p : Int)  (s : ByteArray) (h : Rdr L A c rb w0 w ⟨p, none⟩) (k : Int) (t : ByteArray) (n a : Int) (ek : (Rd.look L p).k = k) (et : (Rd.look L p).text = t.data.toList) (en : (Rd.look L p).num = n) (ea : (Rd.look L p).at' = a) (h4 : ¬ k = 4) :
    Calls Tryz.prog 69 #[.pointer (some ⟨rb, 0, none⟩), .string s] w (RdR L A c rb w (.bool false) ⟨p, none⟩) := by
  have HLK := Lib.hid (look_v h k t n a ek et en ea)
  have hlen := h.len
  have hk2 : Bk w rb #[.slice A L.length c, .int .i64 p, .nilIface] 75 := h.bk
  have C0 := hk2.cell
  have q1 : (k == 4) = false := by simpa using h4
  clear ek et en ea
  go_enter Tryz.func69, Tryz.ntmps69
  go_wp2_with (go_at_call 68; refine HLK.out.mono ?_; rintro e w1 ⟨rfl, hb1⟩; have hk1 := hk2.mono hb1; have C1 := hk1.cell; have F1 := hk1.free; have hz1 := hk1.lt)
  go_ret
  exact ⟨rfl, hk1.alloc _, grow_trans (grow_below hb1) (grow_alloc ..)⟩

set_option maxRecDepth 100000 in
set_option maxHeartbeats 1000000 in
theorem sign_text (L : List STok) (A : Option Addr) (c rb : Nat) (w0 w : World) (p : Int)  (s : ByteArray) (h : Rdr L A c rb w0 w ⟨p, none⟩) (k : Int) (t : ByteArray) (n a : Int) (ek : (Rd.look L p).k = k) (et : (Rd.look L p).text = t.data.toList) (en : (Rd.look L p).num = n) (ea : (Rd.look L p).at' = a) (h4 : k = 4) (h5 : ¬ t.toList = s.toList) :
    Calls Tryz.prog 69 #[.pointer (some ⟨rb, 0, none⟩), .string s] w (RdR L A c rb w (.bool false) ⟨p, none⟩) := by
  have HLK := Lib.hid (look_v h k t n a ek et en ea)
  have hlen := h.len
  have hk2 : Bk w rb #[.slice A L.length c, .int .i64 p, .nilIface] 75 := h.bk
  have C0 := hk2.cell
  have q1 : (t.toList == s.toList) = false := by simpa using h5
  subst h4
  clear ek et en ea
  go_enter Tryz.func69, Tryz.ntmps69
  go_wp2_with (go_at_call 68; refine HLK.out.mono ?_; rintro e w1 ⟨rfl, hb1⟩; have hk1 := hk2.mono hb1; have C1 := hk1.cell; have F1 := hk1.free; have hz1 := hk1.lt)
  go_ret
  exact ⟨rfl, hk1.alloc _, grow_trans (grow_below hb1) (grow_alloc ..)⟩

set_option maxRecDepth 100000 in
set_option maxHeartbeats 1000000 in
theorem sign_yes (L : List STok) (A : Option Addr) (c rb : Nat) (w0 w : World) (p : Int)  (s : ByteArray) (h : Rdr L A c rb w0 w ⟨p, none⟩) (k : Int) (t : ByteArray) (n a : Int) (ek : (Rd.look L p).k = k) (et : (Rd.look L p).text = t.data.toList) (en : (Rd.look L p).num = n) (ea : (Rd.look L p).at' = a) (h4 : k = 4) (h5 : t = s) (h0 : 0 ≤ p) (h1 : p < 1000000000000) :
    Calls Tryz.prog 69 #[.pointer (some ⟨rb, 0, none⟩), .string s] w (RdR L A c rb w (.bool true) ⟨p + 1, none⟩) := by
  have HLK := Lib.hid (look_v h k t n a ek et en ea)
  have hlen := h.len
  have hk2 : Bk w rb #[.slice A L.length c, .int .i64 p, .nilIface] 75 := h.bk
  have C0 := hk2.cell
  subst h4 h5
  clear ek et en ea
  go_enter Tryz.func69, Tryz.ntmps69
  go_wp2_with (go_at_call 68; refine HLK.out.mono ?_; rintro e w1 ⟨rfl, hb1⟩; have hk1 := hk2.mono hb1; have C1 := hk1.cell; have F1 := hk1.free; have hz1 := hk1.lt)
  go_ret
  exact ⟨rfl, (hk1.set 1 (.int .i64 (p + 1))).alloc _, grow_trans (grow_below hb1) (grow_trans (grow_set ..) (grow_alloc ..))⟩

theorem eq_toList {s t : ByteArray} (h : s.data.toList = t.data.toList) : s = t := by
  have e : ∀ Y : ByteArray, Y = ⟨Y.data.toList.toArray⟩ := fun _ => rfl
  rw [e s, e t, h]
theorem rSign_any (L : List STok) (A : Option Addr) (c rb : Nat) (w0 w : World) (s : RS) (t : ByteArray) (h : Rdr L A c rb w0 w s) :
    Calls Tryz.prog 69 #[.pointer (some ⟨rb, 0, none⟩), .string t] w (RdR L A c rb w (.bool (Rd.signB L s t.data.toList)) (if Rd.signB L s t.data.toList = true then Rd.adv s else s)) := by
  obtain ⟨p, x⟩ := s
  cases x with
  | some x =>
    have e : Rd.signB L ⟨p, some x⟩ t.data.toList = false := rfl
    rw [e]
    exact sign_err L A c rb w0 w p x.1 x.2 t h _ ⟨(Rd.look L p).text.toArray⟩ _ _ rfl rfl rfl rfl
  | none =>
    by_cases h4 : (Rd.look L p).k = 4
    · by_cases h5 : (Rd.look L p).text = t.data.toList
      · have e : Rd.signB L ⟨p, none⟩ t.data.toList = true := by simp [Rd.signB, h4, h5]
        rw [e]
        obtain ⟨h0, h1⟩ := Rd.look_in (L := L) (p := p) (by omega)
        exact sign_yes L A c rb w0 w p t h _ t _ _ rfl h5 rfl rfl h4 rfl h0 (by have := h.len; omega)
      · have e : Rd.signB L ⟨p, none⟩ t.data.toList = false := by simp [Rd.signB, h4, h5]
        rw [e]
        exact sign_text L A c rb w0 w p t h _ ⟨(Rd.look L p).text.toArray⟩ _ _ rfl rfl rfl rfl h4 (by rw [toList_data, toList_data]; exact h5)
    · have e : Rd.signB L ⟨p, none⟩ t.data.toList = false := by simp [Rd.signB, h4]
      rw [e]
      exact sign_kind L A c rb w0 w p t h _ ⟨(Rd.look L p).text.toArray⟩ _ _ rfl rfl rfl rfl h4
theorem RdPost.trans {L : List STok} {A : Option Addr} {c rb : Nat} {w w1 w2 : World} {s s2 : RS} (h : RdPost L A c rb w w1 s) (k : RdPost L A c rb w1 w2 s2) : RdPost L A c rb w w2 s2 := ⟨k.bk, grow_trans h.grow k.grow⟩

set_option maxRecDepth 100000 in
theorem need_c (L : List STok) (A : Option Addr) (c rb : Nat) (w0 w : World) (s : RS) (t : ByteArray) (h : Rdr L A c rb w0 w s) :
    Calls Tryz.prog 72 #[.pointer (some ⟨rb, 0, none⟩), .string t] w (RdR L A c rb w (.tuple #[]) (Rd.need L s t.data.toList)) := by
  have HS := Lib.hid (rSign_any L A c rb w0 w s t h)
  unfold Rd.need
  cases hb : Rd.signB L s t.data.toList with
  | true =>
    have hS := HS.out
    rw [hb] at hS
    have HS2 := Lib.hid hS
    clear hS HS hb
    go_enter Tryz.func72, Tryz.ntmps72
    go_wp2_with fail
    refine HS2.out.mono ?_
    rintro e w1 ⟨rfl, hp⟩
    go_wp2_with fail
    go_end0
    exact ⟨rfl, hp⟩
  | false =>
    have hS := HS.out
    rw [hb] at hS
    have HS2 := Lib.hid hS
    clear hS HS hb
    go_enter Tryz.func72, Tryz.ntmps72
    go_wp2_with fail
    refine HS2.out.mono ?_
    rintro e w1 ⟨rfl, hp⟩
    go_wp2_with fail
    refine (bad_c L A c rb w0 w1 s 7 (h.next hp)).mono ?_
    rintro e w2 ⟨rfl, hp2⟩
    go_wp2_with fail
    go_end0
    exact ⟨rfl, hp.trans hp2⟩
end Go.Proofs.YtkflcmengddijaaGreatDoor
