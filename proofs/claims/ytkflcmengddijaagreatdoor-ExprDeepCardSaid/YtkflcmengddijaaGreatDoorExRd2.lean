/-
  The reader's bad, walked.
-/
import Derived.Test.YtkflcmengddijaaGreatDoorExRd1
import Derived.WalkLawsBesides
import Derived.IntWalk
namespace Go.Proofs.YtkflcmengddijaaGreatDoor
open Go.RowKit Lx
set_option linter.unusedVariables false
set_option linter.unusedSimpArgs false

theorem Rdr.keep {L : List STok} {A : Option Addr} {c rb : Nat} {w0 w w' : World} {s : RS} (h : Rdr L A c rb w0 w s) (hb : Below w.heap.size w w') : Rdr L A c rb w0 w' s :=
  ⟨h.row, h.len, h.below.trans (hb.mono h.below.size), h.rb0, h.bk.mono hb⟩
theorem grow_drew {w w' : World} {r : Option Nat} (h : w.grownBy w' r) : w.grownBy w'.drew r := ⟨h.os, h.tape, h.output, h.size, h.block⟩
def BadR (L : List STok) (A : Option Addr) (c rb : Nat) (w : World) (s : RS) (e : Ending) (w' : World) : Prop := e = .returned (.tuple #[]) ∧ RdPost L A c rb w w' s
theorem bad_some (L : List STok) (A : Option Addr) (c rb : Nat) (w0 w : World) (p : Int) (x : Int × Int) (er : Int) (h : Rdr L A c rb w0 w ⟨p, some x⟩) :
    Calls Tryz.prog 67 #[.pointer (some ⟨rb, 0, none⟩), .int .i64 er] w (BadR L A c rb w ⟨p, some x⟩) := by
  obtain ⟨hrow, hlen, hB, hrb, hk⟩ := h
  obtain ⟨xa, xc⟩ := x
  have hk2 : Bk w rb #[.slice A L.length c, .int .i64 p, .iface 30 (.agg #[.int .i64 xa, .int .i64 xc])] 75 := hk
  have C0 := hk2.cell
  have hr : RdPost L A c rb w w ⟨p, some (xa, xc)⟩ := ⟨hk, rfl, rfl, rfl, Nat.le_refl _, fun _ _ _ => rfl⟩
  go_enter Tryz.func67, Tryz.ntmps67
  go_wp2_with fail
  exact bodyPost_ret (results_none rfl _ _ _) rfl ⟨rfl, hr⟩
set_option maxRecDepth 100000 in
set_option maxHeartbeats 1000000 in
theorem bad_in (L : List STok) (A : Option Addr) (c rb : Nat) (w0 w : World) (p er : Int) (h : Rdr L A c rb w0 w ⟨p, none⟩) (h0 : 0 ≤ p) (h1 : p < (L.length : Int)) (hm : p.toNat < L.length) :
    Calls Tryz.prog 67 #[.pointer (some ⟨rb, 0, none⟩), .int .i64 er] w (BadR L A c rb w ⟨p, some (L[p.toNat].at', er)⟩) := by
  obtain ⟨hrow, hlen, hB, hrb, hk⟩ := h
  have hk2 : Bk w rb #[.slice A L.length c, .int .i64 p, .nilIface] 75 := hk
  have C0 := hk2.cell
  have hrl := hk.lt
  have h2 : (0 : Int) < (L.length : Int) := by omega
  have h3 : (L.length : Int) ≤ 1000000000000 := by omega
  have hw : IntKind.i64.wrap ((L.length : Int) - 1) = (L.length : Int) - 1 := IntWalk.i64_in _ (by omega)
  have hmi : min p ((L.length : Int) - 1) = p := by omega
  obtain ⟨b, o, rfl, g0, g1, g2, g3⟩ := tok_at (hrow.mono hB) (p.toNat) hm
  clear g0 g1 g2
  obtain ⟨a9, ha9⟩ : ∃ a9, a9 = L[p.toNat].at' := ⟨_, rfl⟩
  rw [← ha9] at g3 ⊢
  have HA := Lib.hid ha9
  have Z := Bk.new w #[.int .i64 0, .int .i64 er] 30
  clear ha9
  go_enter Tryz.func67, Tryz.ntmps67
  go_wp2_with fail
  obtain ⟨W, hW⟩ : ∃ W, W = w.alloc (.cells #[.int .i64 0, .int .i64 er] 30) := ⟨_, rfl⟩
  have hgW : w.grownBy W (some rb) := by rw [hW]; exact grow_alloc ..
  have hbW : Below w.heap.size w W := by rw [hW]; exact (Below.refl _ _).alloc (Nat.le_refl _) _
  have ZW : Bk W w.heap.size #[.int .i64 0, .int .i64 er] 30 := by rw [hW]; exact Z
  have hkW := hk2.mono hbW
  have CW := hkW.cell
  have FW := hkW.free
  have k3 := cm g3 hbW
  have ZC := ZW.cell
  have ZF := ZW.free
  rw [← hW]
  clear hW g3 C0
  go_still_tail 19, (by kernel_rfl)
  go_wp2_with fail
  go_end0
  have hk9 := ((hkW.other (a := ⟨w.heap.size, 0, none⟩) (by show rb ≠ w.heap.size; omega) (.int .i64 a9)).drew).set 2 (.iface 30 (.agg #[.int .i64 a9, .int .i64 er]))
  exact ⟨rfl, hk9, grow_trans (grow_drew (grow_new hgW w.heap.size 0 _ (Nat.le_refl _))) (grow_set ..)⟩
set_option maxRecDepth 100000 in
set_option maxHeartbeats 1000000 in
theorem bad_out (L : List STok) (A : Option Addr) (c rb : Nat) (w0 w : World) (p er : Int) (h : Rdr L A c rb w0 w ⟨p, none⟩) (h0 : 0 ≤ p) (h1 : (L.length : Int) ≤ p) (hm : L.length - 1 < L.length) :
    Calls Tryz.prog 67 #[.pointer (some ⟨rb, 0, none⟩), .int .i64 er] w (BadR L A c rb w ⟨p, some (L[L.length - 1].at', er)⟩) := by
  obtain ⟨hrow, hlen, hB, hrb, hk⟩ := h
  have hk2 : Bk w rb #[.slice A L.length c, .int .i64 p, .nilIface] 75 := hk
  have C0 := hk2.cell
  have hrl := hk.lt
  have h2 : (0 : Int) < (L.length : Int) := by omega
  have h3 : (L.length : Int) ≤ 1000000000000 := by omega
  have hw : IntKind.i64.wrap ((L.length : Int) - 1) = (L.length : Int) - 1 := IntWalk.i64_in _ (by omega)
  obtain ⟨m, hmm⟩ : ∃ m : Nat, m = L.length - 1 := ⟨_, rfl⟩
  have hmi : min p ((L.length : Int) - 1) = (m : Int) := by omega
  have hm1 : (0 : Int) ≤ (m : Int) := by omega
  have hm2 : (m : Int) < (L.length : Int) := by omega
  have hm3 : m < L.length := by omega
  have e9 : L[L.length - 1].at' = L[m].at' := by simp only [hmm]
  rw [e9]
  clear hm e9 hmm
  obtain ⟨b, o, rfl, g0, g1, g2, g3⟩ := tok_at (hrow.mono hB) m hm3
  clear g0 g1 g2
  obtain ⟨a9, ha9⟩ : ∃ a9, a9 = L[m].at' := ⟨_, rfl⟩
  rw [← ha9] at g3 ⊢
  have HA := Lib.hid ha9
  have Z := Bk.new w #[.int .i64 0, .int .i64 er] 30
  clear ha9
  go_enter Tryz.func67, Tryz.ntmps67
  go_wp2_with fail
  obtain ⟨W, hW⟩ : ∃ W, W = w.alloc (.cells #[.int .i64 0, .int .i64 er] 30) := ⟨_, rfl⟩
  have hgW : w.grownBy W (some rb) := by rw [hW]; exact grow_alloc ..
  have hbW : Below w.heap.size w W := by rw [hW]; exact (Below.refl _ _).alloc (Nat.le_refl _) _
  have ZW : Bk W w.heap.size #[.int .i64 0, .int .i64 er] 30 := by rw [hW]; exact Z
  have hkW := hk2.mono hbW
  have CW := hkW.cell
  have FW := hkW.free
  have k3 := cm g3 hbW
  have ZC := ZW.cell
  have ZF := ZW.free
  rw [← hW]
  clear hW g3 C0
  go_still_tail 19, (by kernel_rfl)
  go_wp2_with fail
  go_end0
  have hk9 := ((hkW.other (a := ⟨w.heap.size, 0, none⟩) (by show rb ≠ w.heap.size; omega) (.int .i64 a9)).drew).set 2 (.iface 30 (.agg #[.int .i64 a9, .int .i64 er]))
  exact ⟨rfl, hk9, grow_trans (grow_drew (grow_new hgW w.heap.size 0 _ (Nat.le_refl _))) (grow_set ..)⟩
set_option maxRecDepth 100000 in
set_option maxHeartbeats 1000000 in
theorem bad_neg (L : List STok) (A : Option Addr) (c rb : Nat) (w0 w : World) (p er : Int) (h : Rdr L A c rb w0 w ⟨p, none⟩) (h0 : ¬ (0 : Int) ≤ p) :
    Calls Tryz.prog 67 #[.pointer (some ⟨rb, 0, none⟩), .int .i64 er] w (BadR L A c rb w ⟨p, some (0, er)⟩) := by
  obtain ⟨hrow, hlen, hB, hrb, hk⟩ := h
  have hk2 : Bk w rb #[.slice A L.length c, .int .i64 p, .nilIface] 75 := hk
  have C0 := hk2.cell
  have F0 := hk2.free
  have hrl := hk.lt
  have hd : decide ((0 : Int) ≤ p) = false := decide_eq_false h0
  have hgW : w.grownBy (w.alloc (.cells #[.int .i64 0, .int .i64 er] 30)) (some rb) := grow_alloc ..
  have hkW := hk2.alloc (.cells #[.int .i64 0, .int .i64 er] 30)
  go_enter Tryz.func67, Tryz.ntmps67
  go_wp2_with fail
  go_end0
  exact ⟨rfl, (hk2.set 2 (.iface 30 (.agg #[.int .i64 0, .int .i64 er]))).alloc _, grow_trans (grow_set ..) (grow_alloc ..)⟩
set_option maxRecDepth 100000 in
set_option maxHeartbeats 1000000 in
theorem bad_nil (L : List STok) (A : Option Addr) (c rb : Nat) (w0 w : World) (p er : Int) (h : Rdr L A c rb w0 w ⟨p, none⟩) (h0 : (0 : Int) ≤ p) (h1 : L.length = 0) :
    Calls Tryz.prog 67 #[.pointer (some ⟨rb, 0, none⟩), .int .i64 er] w (BadR L A c rb w ⟨p, some (0, er)⟩) := by
  obtain ⟨hrow, hlen, hB, hrb, hk⟩ := h
  have hk2 : Bk w rb #[.slice A L.length c, .int .i64 p, .nilIface] 75 := hk
  have C0 := hk2.cell
  have F0 := hk2.free
  have hrl := hk.lt
  have h2 : ¬ (0 : Int) < (L.length : Int) := by omega
  have hd : decide ((0 : Int) < (L.length : Int)) = false := decide_eq_false h2
  clear h1
  have hgW : w.grownBy (w.alloc (.cells #[.int .i64 0, .int .i64 er] 30)) (some rb) := grow_alloc ..
  have hkW := hk2.alloc (.cells #[.int .i64 0, .int .i64 er] 30)
  go_enter Tryz.func67, Tryz.ntmps67
  go_wp2_with fail
  go_end0
  exact ⟨rfl, (hk2.set 2 (.iface 30 (.agg #[.int .i64 0, .int .i64 er]))).alloc _, grow_trans (grow_set ..) (grow_alloc ..)⟩

theorem bad_c (L : List STok) (A : Option Addr) (c rb : Nat) (w0 w : World) (s : RS) (er : Int) (h : Rdr L A c rb w0 w s) :
    Calls Tryz.prog 67 #[.pointer (some ⟨rb, 0, none⟩), .int .i64 er] w (BadR L A c rb w (Rd.bad L s er)) := by
  obtain ⟨p, x⟩ := s
  cases x with
  | some x => exact bad_some L A c rb w0 w p x er h
  | none =>
    have hb : Rd.bad L ⟨p, none⟩ er = ⟨p, some (Rd.place L p, er)⟩ := rfl
    rw [hb]
    by_cases h0 : 0 ≤ p
    · by_cases h1 : L.length = 0
      · have : Rd.place L p = 0 := by unfold Rd.place; rw [if_neg (by omega)]
        rw [this]
        exact bad_nil L A c rb w0 w p er h h0 h1
      · by_cases h2 : p < (L.length : Int)
        · have hm : p.toNat < L.length := by omega
          have : Rd.place L p = L[p.toNat].at' := by
            unfold Rd.place
            rw [if_pos (by omega), Nat.min_eq_left (by omega), List.getElem?_eq_getElem hm]
            rfl
          rw [this]
          exact bad_in L A c rb w0 w p er h h0 h2 hm
        · have hm : L.length - 1 < L.length := by omega
          have : Rd.place L p = L[L.length - 1].at' := by
            unfold Rd.place
            rw [if_pos (by omega), Nat.min_eq_right (by omega), List.getElem?_eq_getElem hm]
            rfl
          rw [this]
          exact bad_out L A c rb w0 w p er h h0 (by omega) hm
    · have : Rd.place L p = 0 := by unfold Rd.place; rw [if_neg (by omega)]
      rw [this]
      exact bad_neg L A c rb w0 w p er h h0
end Go.Proofs.YtkflcmengddijaaGreatDoor
