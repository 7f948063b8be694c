/-
  The reader's small functions, walked.
-/
import Derived.Test.YtkflcmengddijaaGreatDoorExRdP
import Derived.StillTailTactics
import Derived.Laws.Rows
namespace Go.Proofs.YtkflcmengddijaaGreatDoor
open Go.RowKit Lx
set_option linter.unusedVariables false
set_option linter.unusedSimpArgs false

theorem tok_at {w : World} {A : Option Addr} {xs : List STok} (h : kTok.Row w A xs) (i : Nat) (hi : i < xs.length) : ∃ b o, A = some ⟨b, o, none⟩ ∧
    w.cell? ⟨b, o + i * 4, none⟩ = some (.int .u8 xs[i].k) ∧ w.cell? ⟨b, o + i * 4 + 1, none⟩ = some (.string ⟨xs[i].text.toArray⟩) ∧ w.cell? ⟨b, o + i * 4 + 2, none⟩ = some (.int .u64 xs[i].num) ∧ w.cell? ⟨b, o + i * 4 + 3, none⟩ = some (.int .i64 xs[i].at') := by
  obtain ⟨b, o, cs, e, h1, h2⟩ := h.at i hi
  obtain rfl : cs = tokCells xs[i] := h1
  exact ⟨b, o, e, h2 0 (by simp [tokCells]), h2 1 (by simp [tokCells]), h2 2 (by simp [tokCells]), h2 3 (by simp [tokCells])⟩
abbrev tkArr (t : STok) : Array Value := #[.int .u8 t.k, .string ⟨t.text.toArray⟩, .int .u64 t.num, .int .i64 t.at']
theorem look_bel {w W : World} (h : Below w.heap.size w W) (a b c d : Value) : Below w.heap.size w ((((W.setCell ⟨w.heap.size, 0, none⟩ a).setCell ⟨w.heap.size, 1, none⟩ b).setCell ⟨w.heap.size, 2, none⟩ c).setCell ⟨w.heap.size, 3, none⟩ d) :=
  (((h.setCell (p := ⟨w.heap.size, 0, none⟩) (Nat.le_refl _) _).setCell (p := ⟨w.heap.size, 1, none⟩) (Nat.le_refl _) _).setCell (p := ⟨w.heap.size, 2, none⟩) (Nat.le_refl _) _).setCell (p := ⟨w.heap.size, 3, none⟩) (Nat.le_refl _) _
theorem belowZ {w : World} {n : Nat} {cs : Array Value} {t : TypeId} (h : Bk w n cs t) (q : Nat) : Bk (w.drewN q) n cs t := h
def LookR (L : List STok) (p : Int) (w : World) (e : Ending) (w' : World) : Prop := e = .returned (.agg (tkArr (Rd.look L p))) ∧ Below w.heap.size w w'

set_option maxRecDepth 100000 in
set_option maxHeartbeats 1000000 in
theorem look_c (L : List STok) (A : Option Addr) (c rb : Nat) (w0 w : World) (s : RS) (h : Rdr L A c rb w0 w s) :
    Calls Tryz.prog 68 #[.pointer (some ⟨rb, 0, none⟩)] w (LookR L s.pos w) := by
  obtain ⟨hrow, hlen, hB, hrb, hk⟩ := h
  have C0 := hk.cell
  have hrl := hk.lt
  have Z := Bk.new w #[.int .u8 0, .string ⟨#[]⟩, .int .u64 0, .int .i64 0] 50
  have hb0 := (Below.refl w.heap.size w).alloc (Nat.le_refl _) (.cells #[.int .u8 0, .string ⟨#[]⟩, .int .u64 0, .int .i64 0] 50)
  by_cases h0 : (0 : Int) ≤ s.pos
  · by_cases h1 : s.pos < (L.length : Int)
    · have hlt : s.pos.toNat < L.length := by omega
      have hr := hrow.mono hB
      obtain ⟨b, o, rfl, g0, g1, g2, g3⟩ := tok_at hr s.pos.toNat hlt
      have hlk := Rd.look_at h0 hlt
      have HL := Lib.hid hlk
      have hb2 : Below w.heap.size w (w.alloc (.cells (tkArr L[s.pos.toNat]) 50)) := (Below.refl w.heap.size w).alloc (Nat.le_refl _) _
      clear hlk hr hrow
      go_enter Tryz.func68, Tryz.ntmps68
      go_wp2_with fail
      go_quiet (fail)
      obtain ⟨W, hW⟩ : ∃ W, W = (w.alloc (.cells #[.int .u8 0, .string ⟨#[]⟩, .int .u64 0, .int .i64 0] 50)).drewN nq := ⟨_, rfl⟩
      have hbW : Below w.heap.size w W := by rw [hW]; exact belowN hb0 _
      have ZW : Bk W w.heap.size #[.int .u8 0, .string ⟨#[]⟩, .int .u64 0, .int .i64 0] 50 := by rw [hW]; exact Z
      have CW := (hk.mono hbW).cell
      have k0 := cm g0 hbW
      have k1 := cm g1 hbW
      have k2 := cm g2 hbW
      have k3 := cm g3 hbW
      have ZC := ZW.cell
      have ZF := ZW.free
      rw [← hW]
      clear hW g0 g1 g2 g3 C0
      go_wp2_with fail
      go_still_tail 10, (by kernel_rfl)
      go_wp2_with fail
      have Z8 := ((((((((ZW.set 0 (.int .u8 L[s.pos.toNat].k)).set 1 (.string ⟨L[s.pos.toNat].text.toArray⟩)).set 2 (.int .u64 L[s.pos.toNat].num)).set 3 (.int .i64 L[s.pos.toNat].at')).set 0 (.int .u8 L[s.pos.toNat].k)).set 1 (.string ⟨L[s.pos.toNat].text.toArray⟩)).set 2 (.int .u64 L[s.pos.toNat].num)).set 3 (.int .i64 L[s.pos.toNat].at')).drew
      refine bodyPost_ret (results_cell_row rfl _ _ w.heap.size 50 _ (0, 0) _ rfl Z8 Tryz.underlying50 rfl (by kernel_rfl)) rfl ⟨?_, (look_bel (look_bel hbW _ _ _ _) _ _ _ _).drew⟩
      rw [HL.out]
      rfl
    · have hlk := Rd.look_out (L := L) (p := s.pos) (by omega)
      have HL := Lib.hid hlk
      clear hlk
      go_enter Tryz.func68, Tryz.ntmps68
      go_wp2_with fail
      go_quiet (fail)
      go_wp2_with fail
      have Z4 := (((belowZ Z nq).set 0 (.int .u8 0)).set 1 (.string ⟨#[]⟩)).set 2 (.int .u64 0) |>.set 3 (.int .i64 0)
      refine bodyPost_ret (results_cell_row rfl _ _ w.heap.size 50 _ (0, 0) _ rfl Z4 Tryz.underlying50 rfl (by kernel_rfl)) rfl ⟨?_, look_bel (belowN hb0 nq) _ _ _ _⟩
      rw [HL.out]
      rfl
  · have hlk := Rd.look_out (L := L) (p := s.pos) (by omega)
    have hd : decide ((0 : Int) ≤ s.pos) = false := decide_eq_false h0
    have HL := Lib.hid hlk
    clear hlk
    go_enter Tryz.func68, Tryz.ntmps68
    go_wp2_with fail
    go_quiet (fail)
    go_wp2_with fail
    have Z4 := (((belowZ Z nq).set 0 (.int .u8 0)).set 1 (.string ⟨#[]⟩)).set 2 (.int .u64 0) |>.set 3 (.int .i64 0)
    refine bodyPost_ret (results_cell_row rfl _ _ w.heap.size 50 _ (0, 0) _ rfl Z4 Tryz.underlying50 rfl (by kernel_rfl)) rfl ⟨?_, look_bel (belowN hb0 nq) _ _ _ _⟩
    rw [HL.out]
    rfl
end Go.Proofs.YtkflcmengddijaaGreatDoor
