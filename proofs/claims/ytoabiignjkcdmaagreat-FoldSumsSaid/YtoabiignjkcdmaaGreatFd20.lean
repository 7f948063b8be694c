/-
  Lemmas (texts RunI Quiet), each proved without a condition beyond its own hypotheses.
-/
import Derived.Test.YtoabiignjkcdmaaGreatFd19
import Derived.Test.YtoabiignjkcdmaaGreatFd1
namespace Go.Proofs.YtoabiignjkcdmaaGreat
open Go.RowKit
set_option linter.unusedVariables false
set_option linter.unusedSimpArgs false

def okBuf (b : ByteArray) : Bool := decide (b.size ≤ 4096)
theorem fits1_c (s : ByteArray) (hz : s.size ≤ 9223372036854775807) (w : World) : Calls Tryz.prog 66 #[.string s] w fun e w' => e = .returned (.bool (!okBuf s)) ∧ w = w' := by
  by_cases hb : (4096 : Int) < (s.size : Int)
  · have e : okBuf s = false := by unfold okBuf; simp; omega
    have HE := Lib.hid e
    clear e
    go_enter Tryz.func66, Tryz.ntmps66
    go_wp2_with fail
    go_ret
    exact ⟨by rw [HE.out]; rfl, rfl⟩
  · have e : okBuf s = true := by unfold okBuf; simp; omega
    have HE := Lib.hid e
    clear e
    go_enter Tryz.func66, Tryz.ntmps66
    go_wp2_with fail
    go_ret
    exact ⟨by rw [HE.out]; rfl, rfl⟩
/-- Which one is found. -/
def IdxS (xs : List ByteArray) (w : World) (e : Ending) (w' : World) : Prop := ∃ r : Int, e = .returned (.int .i64 r) ∧ (0 ≤ r ↔ xs.all okBuf = false) ∧ w = w'
set_option maxHeartbeats 1000000 in
theorem indexStr_c (xs : List ByteArray) (A : Option Addr) (c : Nat) (w : World) (hA : kStr.Row w A xs) (hm : xs.length ≤ 9223372036854775807) (hz : ∀ b ∈ xs, b.size ≤ 9223372036854775807) :
    Calls Tryz.prog 81 #[.slice A xs.length c, .func (.func 66) #[] #[]] w (IdxS xs w) := by
  go_enter Tryz.func81, Tryz.ntmps81
  go_wp2_with fail
  go_loop [8] (fun s => ∃ k : Nat, k ≤ xs.length ∧ s = .int .i64 k ∧ (∀ j (h : j < xs.length), j < k → okBuf xs[j] = true)) (fun s => xs.length - (intOf s).toNat)
  case atStart => exact ⟨0, Nat.zero_le _, rfl, fun j _ h => absurd h (by omega)⟩
  case round =>
    obtain ⟨k, hk, rfl, hall⟩ := hrel
    have HA := Lib.hid hall; clear hall
    by_cases hlt : k < xs.length
    · obtain ⟨ob, oo, rfl, g0⟩ := kStr_at' hA k hlt
      obtain ⟨s, hs⟩ : ∃ s, s = xs[k] := ⟨_, rfl⟩
      have hzs := hz s (by rw [hs]; exact List.getElem_mem hlt)
      rw [← hs] at g0
      have HS := Lib.hid hs
      clear hs
      have HC := Lib.hid (fits1_c s hzs w)
      cases hb : okBuf s with
      | false =>
        rw [hb] at HC
        have HB := Lib.hid hb
        clear hb
        go_wp2_with (go_at_call 66; refine HC.out.mono ?_; rintro e w' ⟨rfl, rfl⟩)
        go_ret
        refine ⟨k, rfl, ⟨fun _ => ?_, fun _ => by omega⟩, rfl⟩
        rw [List.all_eq_false]
        exact ⟨xs[k], List.getElem_mem hlt, by rw [← HS.out, HB.out]; decide⟩
      | true =>
        rw [hb] at HC
        have HB := Lib.hid hb
        clear hb
        go_wp2_with (go_at_call 66; refine HC.out.mono ?_; rintro e w' ⟨rfl, rfl⟩)
        go_round
        case rel => exact ⟨k + 1, by omega, by go_num, fun j h hj => by
          by_cases e : j = k
          · subst e; rw [← HS.out]; exact HB.out
          · exact HA.out j h (by omega)⟩
        case measure => simp [intOf]; omega
    · have hkl : k = xs.length := by omega
      have HK := Lib.hid hkl
      clear hkl
      go_wp2_with fail
      go_ret
      refine ⟨-1, rfl, ⟨fun h => by omega, fun h => ?_⟩, rfl⟩
      rw [List.all_eq_false] at h
      obtain ⟨o, ho, hf⟩ := h
      obtain ⟨j, hj, rfl⟩ := List.getElem_of_mem ho
      exact absurd (HA.out j hj (by rw [HK.out]; exact hj)) hf
theorem contains_c (xs : List ByteArray) (A : Option Addr) (c : Nat) (w : World) (hA : kStr.Row w A xs) (hm : xs.length ≤ 9223372036854775807) (hz : ∀ b ∈ xs, b.size ≤ 9223372036854775807) (r : Bool) (hr : xs.all okBuf = r) :
    Calls Tryz.prog 65 #[.slice A xs.length c, .func (.func 66) #[] #[]] w
      fun e w' => e = .returned (.bool (!r)) ∧ w = w' := by
  have HR := Lib.hid hr
  clear hr
  go_enter Tryz.func65, Tryz.ntmps65
  go_wp2_with fail
  refine (indexStr_c xs A c w hA hm hz).mono ?_
  rintro e w' ⟨q, rfl, hq, rfl⟩
  rw [HR.out] at hq
  cases r with
  | false =>
    have h0 : 0 ≤ q := hq.2 rfl
    clear hq
    go_wp2_with fail
    go_ret
    exact ⟨by first | (simp; omega) | simp, rfl⟩
  | true =>
    have h0 : q < 0 := by
      rcases Int.lt_or_le q 0 with h | h
      · exact h
      · cases hq.1 h
    clear hq
    go_wp2_with fail
    go_ret
    exact ⟨by first | (simp; omega) | simp, rfl⟩
set_option maxRecDepth 100000 in
set_option maxHeartbeats 4000000 in
theorem fits_c (p : SIr) (inp : SIn) (w : World) (S P B NA BA : Option Addr) (c1 c2 c3 nc bc : Nat) (hP : kHanded.Row w P p.par) (hBA : kStr.Row w BA inp.bufs) (hpl : p.par.length ≤ 1000000) (hm1 : inp.nums.length ≤ 9223372036854775807) (hm : inp.bufs.length ≤ 9223372036854775807) (hz : ∀ b ∈ inp.bufs, b.size ≤ 9223372036854775807) (r : Bool) (hr : fitsS p inp = r) :
    Calls Tryz.prog 39 #[.agg #[.slice S p.sec.length c1, .slice P p.par.length c2, .slice B p.blk.length c3], .agg #[.slice NA inp.nums.length nc, .slice BA inp.bufs.length bc]] w
      fun e w' => e = .returned (.bool r) ∧ Below w.heap.size w w' := by
  obtain ⟨w1, hw1⟩ : ∃ w1, w1 = (w.alloc (.cells #[.slice S p.sec.length c1, .slice P p.par.length c2, .slice B p.blk.length c3] 26)).alloc (.cells #[.slice NA inp.nums.length nc, .slice BA inp.bufs.length bc] 43) := ⟨_, rfl⟩
  have hb1 : Below w.heap.size w w1 := by rw [hw1]; exact ((Below.refl w.heap.size w).alloc (Nat.le_refl _) _).alloc (by simp) _
  have BP : Bk w1 w.heap.size #[.slice S p.sec.length c1, .slice P p.par.length c2, .slice B p.blk.length c3] 26 := by rw [hw1]; exact (Bk.new w _ _).alloc _
  have BI : Bk w1 (w.heap.size + 1) #[.slice NA inp.nums.length nc, .slice BA inp.bufs.length bc] 43 := by rw [hw1]; exact Bk.newAt _ _ (by simp)
  have HR := Lib.hid hr
  clear hr
  go_enter Tryz.func39, Tryz.ntmps39
  go_upto_region 1 with (fail)
  rw [← hw1]
  clear hw1
  have CP := BP.cell
  go_wp2_with fail
  go_loopw [5, 6, 12] (fun u v s wr => ∃ j : Nat, j ≤ p.par.length ∧ s = .int .i64 j ∧ u = .int .i64 (numsOf (p.par.take j)).length ∧ v = .int .i64 (bufsOf (p.par.take j)).length ∧ Below w.heap.size w wr ∧ Bk wr w.heap.size #[.slice S p.sec.length c1, .slice P p.par.length c2, .slice B p.blk.length c3] 26 ∧ Bk wr (w.heap.size + 1) #[.slice NA inp.nums.length nc, .slice BA inp.bufs.length bc] 43) (fun _ _ s _ => p.par.length - (intOf s).toNat)
  case atStart => exact ⟨0, Nat.zero_le _, rfl, rfl, rfl, hb1, BP, BI⟩
  case round =>
    clear BP BI hb1 CP
    obtain ⟨j, hj, rfl, rfl, rfl, hb, hBP, hBI⟩ := hrel
    have hnl : (numsOf (p.par.take j)).length ≤ p.par.length := Nat.le_trans (List.length_filter_le _ _) (List.length_take_le' _ _)
    have hbl : (bufsOf (p.par.take j)).length ≤ p.par.length := Nat.le_trans (List.length_filter_le _ _) (List.length_take_le' _ _)
    by_cases hlt : j < p.par.length
    · obtain ⟨pb, po, rfl, g0, g1, g2, g3, g4⟩ := kHanded_at' (hP.mono hb) j hlt
      have ht : p.par.take (j + 1) = p.par.take j ++ [p.par[j]] := List.take_succ_eq_append_getElem hlt
      obtain ⟨h, hh⟩ : ∃ h, h = p.par[j] := ⟨_, rfl⟩
      rw [← hh] at g0 g1 g2 g3 g4 ht
      have HT := Lib.hid ht
      clear ht hh
      go_upto_region 5 with (fail)
      obtain ⟨Wh, hWh⟩ : ∃ Wh, Wh = wr.alloc (.cells (parCells h) 61) := ⟨_, rfl⟩
      rw [← hWh]
      have BH : Bk Wh wr.heap.size (parCells h) 61 := by rw [hWh]; exact Bk.new wr _ _
      have hbh : Below wr.heap.size wr Wh := by rw [hWh]; exact (Below.refl wr.heap.size wr).alloc (Nat.le_refl _) _
      clear hWh g0 g1 g2 g3 g4
      have hbW := bt hb hbh
      have hBPh := hBP.mono hbh
      have hBIh := hBI.mono hbh
      clear hb hBP hBI hbh
      have CH := BH.cell
      cases hbuf : h.buf with
      | true =>
        have HB : Hid (((bufsOf (p.par.take j)).length : Int) + 1 = (bufsOf (p.par.take (j + 1))).length ∧ (numsOf (p.par.take j)).length = (numsOf (p.par.take (j + 1))).length) := Lib.hid (by rw [HT.out]; unfold bufsOf numsOf; simp [List.filter_append, List.filter_cons, hbuf])
        go_wp2_with fail
        go_roundw
        case rel => exact ⟨j + 1, by omega, by go_num, by rw [HB.out.2], by rw [HB.out.1], hbW, hBPh, hBIh⟩
        case measure => simp [intOf]; omega
      | false =>
        have HB : Hid (((numsOf (p.par.take j)).length : Int) + 1 = (numsOf (p.par.take (j + 1))).length ∧ (bufsOf (p.par.take j)).length = (bufsOf (p.par.take (j + 1))).length) := Lib.hid (by rw [HT.out]; unfold bufsOf numsOf; simp [List.filter_append, List.filter_cons, hbuf])
        go_wp2_with fail
        go_roundw
        case rel => exact ⟨j + 1, by omega, by go_num, by rw [HB.out.1], by rw [HB.out.2], hbW, hBPh, hBIh⟩
        case measure => simp [intOf]; omega
    · have hjl : j = p.par.length := by omega
      have htl : p.par.take j = p.par := by rw [hjl, List.take_length]
      rw [htl] at hnl hbl ⊢
      clear htl hjl
      have CI := hBI.cell
      have hfs : fitsS p inp = (decide (inp.nums.length = (numsOf p.par).length) && decide (inp.bufs.length = (bufsOf p.par).length) && inp.bufs.all okBuf) := rfl
      rw [HR.out] at hfs
      have HFS := Lib.hid hfs
      clear hfs
      by_cases h1 : inp.nums.length = (numsOf p.par).length
      · by_cases h2 : inp.bufs.length = (bufsOf p.par).length
        · cases h3 : inp.bufs.all okBuf with
          | true =>
            have he : r = true := by rw [HFS.out, decide_eq_true h1, decide_eq_true h2, h3]; rfl
            have t1 : ((inp.nums.length : Int) == ((numsOf p.par).length : Int)) = true := by rw [h1]; exact beq_self_eq_true _
            have t2 : ((inp.bufs.length : Int) == ((bufsOf p.par).length : Int)) = true := by rw [h2]; exact beq_self_eq_true _
            have HE := Lib.hid he
            have HC := Lib.hid (contains_c inp.bufs BA bc wr (hBA.mono hb) hm hz true h3)
            clear h1 h2 h3 he
            go_wp2_with (go_at_call 65; refine HC.out.mono ?_; rintro e w' ⟨rfl, rfl⟩)
            go_ret
            exact ⟨by rw [HE.out]; rfl, hb⟩
          | false =>
            have he : r = false := by rw [HFS.out, h3]; simp
            have t1 : ((inp.nums.length : Int) == ((numsOf p.par).length : Int)) = true := by rw [h1]; exact beq_self_eq_true _
            have t2 : ((inp.bufs.length : Int) == ((bufsOf p.par).length : Int)) = true := by rw [h2]; exact beq_self_eq_true _
            have HE := Lib.hid he
            have HC := Lib.hid (contains_c inp.bufs BA bc wr (hBA.mono hb) hm hz false h3)
            clear h1 h2 h3 he
            go_wp2_with (go_at_call 65; refine HC.out.mono ?_; rintro e w' ⟨rfl, rfl⟩)
            go_ret
            exact ⟨by rw [HE.out]; rfl, hb⟩
        · have he : r = false := by rw [HFS.out, decide_eq_false h2]; simp
          have t1 : ((inp.nums.length : Int) == ((numsOf p.par).length : Int)) = true := by rw [h1]; exact beq_self_eq_true _
          have t2 : ((inp.bufs.length : Int) == ((bufsOf p.par).length : Int)) = false := by simp; omega
          have HE := Lib.hid he
          clear h1 h2 he
          go_wp2_with fail
          go_ret
          exact ⟨by rw [HE.out]; rfl, hb⟩
      · have he : r = false := by rw [HFS.out, decide_eq_false h1]; simp
        have t1 : ((inp.nums.length : Int) == ((numsOf p.par).length : Int)) = false := by simp; omega
        have HE := Lib.hid he
        clear h1 he
        go_wp2_with fail
        go_ret
        exact ⟨by rw [HE.out]; rfl, hb⟩
end Go.Proofs.YtoabiignjkcdmaaGreat

namespace Go.Proofs.YtoabiignjkcdmaaGreat
open Go.RowKit
set_option linter.unusedVariables false
set_option linter.unusedSimpArgs false

/-- What a step that only reads comes to, the loads yielding these values in order; and where it loaded. -/
def srun {α : Type} (P : Program) : Sem α → List Value → Option (α × List (Addr × Value))
  | .pure a, _ => some (a, [])
  | .load _ a k, v :: vs => (srun P (k v) vs).map fun x => (x.1, (a, v) :: x.2)
  | .program k, vs => srun P (k P) vs
  | .mark _ k, vs => srun P k vs
  | _, _ => none

theorem srun_run {α : Type} {P : Program} (m : Sem α) : ∀ (vs : List Value) (x : α) (l : List (Addr × Value)), srun P m vs = some (x, l) → ∀ w : World, (∀ p ∈ l, w.cell? p.1 = some p.2) → m.run P w = .ok x w := by
  induction m with
  | pure a =>
    intro vs x l h w _
    simp only [srun, Option.some.injEq, Prod.mk.injEq] at h
    rw [Sem.run, h.1]
  | load m a k ih =>
    intro vs x l h w hl
    cases vs with
    | nil => simp [srun] at h
    | cons v vs =>
      simp only [srun, Option.map_eq_some_iff] at h
      obtain ⟨⟨y, l'⟩, h1, h2⟩ := h
      simp only [Prod.mk.injEq] at h2
      obtain ⟨rfl, rfl⟩ := h2
      have hc : w.cell? a = some v := hl (a, v) (by simp)
      rw [Sem.run]
      simp only [hc]
      exact ih v vs y l' h1 w fun p hp => hl p (by simp [hp])
  | program k ih => intro vs x l h w hl; rw [Sem.run]; exact ih P vs x l (by simpa only [srun] using h) w hl
  | mark m k ih => intro vs x l h w hl; rw [Sem.run]; exact ih vs x l (by simpa only [srun] using h) w hl
  | _ => intro vs x l h; simp [srun] at h

/-- What is handed over: what a step's loads yield, from which place on; what a call yields; where an element lies. -/
inductive QH where
  | ld (b o : Nat) (l : List Value)
  | call (f : FuncId) (args : Array Value) (v : Value)
  | at (t : TypeId) (x i v : Value)

/-- What is owed for it. -/
inductive QOb where
  | cell (a : Addr) (v : Value)
  | call (f : FuncId) (args : Array Value) (v : Value)
  | at (t : TypeId) (x i v : Value)
def QOb.Holds (P : Program) (C : World → Prop) : QOb → Prop
  | .cell a v => ∀ w, C w → w.cell? a = some v
  | .call f args v => ∀ w, C w → Calls P f args w fun e w' => e = .returned v ∧ C w'
  | .at t x i v => ∀ w, C w → (Instr.indexAt t x i).run P w = .ok v w
def AllHold (P : Program) (C : World → Prop) : List QOb → Prop
  | [] => True
  | o :: r => o.Holds P C ∧ AllHold P C r
theorem allHold_append {P : Program} {C : World → Prop} : ∀ (l r : List QOb), AllHold P C (l ++ r) → AllHold P C l ∧ AllHold P C r
  | [], r, h => ⟨trivial, h⟩
  | o :: l, r, h => let ⟨h1, h2⟩ := h; let ⟨h3, h4⟩ := allHold_append l r h2; ⟨⟨h1, h3⟩, h4⟩
def cellObs : List (Addr × Value) → List QOb
  | [] => []
  | p :: r => .cell p.1 p.2 :: cellObs r
theorem cells_of {P : Program} {C : World → Prop} : ∀ (l : List (Addr × Value)), AllHold P C (cellObs l) → ∀ w, C w → ∀ p ∈ l, w.cell? p.1 = some p.2
  | [], _, _, _, p, hp => by cases hp
  | q :: r, h, w, hw, p, hp => by
    rcases List.mem_cons.1 hp with rfl | hp
    · exact h.1 w hw
    · exact cells_of r h.2 w hw p hp

/-- The lexical walk, reckoned. -/
def evQ (P : Program) (ops : Array Oper) : List Oper → List QH → Act → Option (Act × List QOb)
  | [], _, a => some (a, [])
  | o :: rest, hs, a =>
    match Region.wanted o (yielded ops a.tmps) with
    | false => evQ P ops rest hs (a.put o.dst undef)
    | true =>
      match o.op, hs with
      | .indexAddr t x i, .at _ _ _ v :: hs => (evQ P ops rest hs (a.put o.dst v)).map fun y => (y.1, .at t (a.eval x) (a.eval i) v :: y.2)
      | _, hs =>
      match srun P (execOp a.eval o) [] with
      | some (.value v, _) => evQ P ops rest hs (a.put o.dst v)
      | some (.enter f args, _) =>
        match hs with
        | .call _ _ v :: hs => (evQ P ops rest hs (a.put o.dst v)).map fun x => (x.1, .call f args v :: x.2)
        | _ => none
      | some _ => none
      | none =>
        match hs with
        | .ld _ _ l :: hs =>
          match srun P (execOp a.eval o) l with
          | some (.value v, m) => (evQ P ops rest hs (a.put o.dst v)).map fun x => (x.1, cellObs m ++ x.2)
          | _ => none
        | _ => none

theorem srun_nil {α : Type} {P : Program} (m : Sem α) : ∀ (x : α) (l : List (Addr × Value)), srun P m [] = some (x, l) → l = [] := by
  induction m with
  | pure a => intro x l h; simp only [srun, Option.some.injEq, Prod.mk.injEq] at h; exact h.2.symm
  | load m a k ih => intro x l h; simp [srun] at h
  | program k ih => intro x l h; exact ih P x l (by simpa only [srun] using h)
  | mark m k ih => intro x l h; exact ih x l (by simpa only [srun] using h)
  | _ => intro x l h; simp [srun] at h

theorem evQ_quiet {P : Program} {ops : Array Oper} {C : World → Prop} {Q : Act → Prop} : ∀ (l : List Oper) (hs : List QH) (a a' : Act) (obs : List QOb), evQ P ops l hs a = some (a', obs) → AllHold P C obs → Q a' → wpQuiet P ops C Q l a
  | [], hs, a, a', obs, h, _, hq => by
    simp only [evQ, Option.some.injEq, Prod.mk.injEq] at h
    obtain ⟨rfl, _⟩ := h
    exact hq
  | o :: rest, hs, a, a', obs, h, hobs, hq => by
    unfold evQ at h
    unfold wpQuiet
    cases hw : Region.wanted o (yielded ops a.tmps) with
    | false =>
      rw [hw] at h
      simp only [Bool.false_eq_true, if_false]
      exact evQ_quiet rest hs _ a' obs h hobs hq
    | true =>
      rw [hw] at h
      simp only [if_true]
      simp only at h
      split at h
      · rename_i t x i _ _ _ v hs' ho
        simp only [Option.map_eq_some_iff, Prod.mk.injEq] at h
        obtain ⟨⟨a2, obs2⟩, h1, h2, h3⟩ := h
        simp only at h2 h3
        subst h2; subst h3
        refine ⟨v, fun w hC => ?_, evQ_quiet rest hs' _ a2 obs2 h1 hobs.2 hq⟩
        have hx : (execOp a.eval o).run P w = .ok (.value v) w := by
          unfold execOp
          simp only [ho, Sem.run_bind]
          rw [show (Instr.indexAt t (a.eval x) (a.eval i)).run P w = .ok v w from hobs.1 w hC]
          rfl
        unfold Oper.quietAt
        rw [hx]
        exact ⟨rfl, rfl⟩
      · rename_i hs0 hno
        clear hno
        split at h
        · rename_i v l0 hr
          obtain rfl := srun_nil _ _ _ hr
          refine ⟨v, fun w hC => ?_, evQ_quiet rest _ _ a' obs h hobs hq⟩
          unfold Oper.quietAt
          rw [srun_run _ _ _ _ hr w (by simp)]
          exact ⟨rfl, rfl⟩
        · rename_i f args l0 hr
          obtain rfl := srun_nil _ _ _ hr
          split at h
          · rename_i _ _ v hs'
            simp only [Option.map_eq_some_iff, Prod.mk.injEq] at h
            obtain ⟨⟨a2, obs2⟩, h1, h2, h3⟩ := h
            simp only at h2 h3
            subst h2; subst h3
            refine ⟨v, fun w hC => ?_, evQ_quiet rest hs' _ a2 obs2 h1 hobs.2 hq⟩
            unfold Oper.quietAt
            rw [srun_run _ _ _ _ hr w (by simp)]
            exact ⟨rfl, hobs.1 w hC⟩
          · cases h
        · cases h
        · split at h
          · rename_i _ _ l1 hs'
            split at h
            · rename_i v m hr
              simp only [Option.map_eq_some_iff, Prod.mk.injEq] at h
              obtain ⟨⟨a2, obs2⟩, h1, h2, h3⟩ := h
              simp only at h2 h3
              subst h2; subst h3
              obtain ⟨g1, g2⟩ := allHold_append _ _ hobs
              refine ⟨v, fun w hC => ?_, evQ_quiet rest hs' _ a2 obs2 h1 g2 hq⟩
              unfold Oper.quietAt
              rw [srun_run _ _ _ _ hr w (cells_of m g1 w hC)]
              exact ⟨rfl, rfl⟩
            · cases h
          · cases h

/-- What the hints owe. -/
def ldObs (b o : Nat) : List Value → List QOb
  | [] => []
  | v :: r => .cell ⟨b, o, none⟩ v :: ldObs b (o + 1) r
def hintObs : List QH → List QOb
  | [] => []
  | .ld b o l :: r => ldObs b o l ++ hintObs r
  | .call f args v :: r => .call f args v :: hintObs r
  | .at t x i v :: r => .at t x i v :: hintObs r
/-- The slots asked for, and what is owed. -/
def evQs (P : Program) (ops : Array Oper) (l : List Oper) (hs : List QH) (a : Act) (ks : List Nat) : Option (List Value × List QOb) :=
  (evQ P ops l hs a).map fun x => (ks.map fun k => x.1.tmps.getD k undef, x.2)

def writes (l : List Oper) (j : Nat) : Bool := l.any fun o => o.dst == some j
theorem put_other {a : Act} {d : Option Tmp} {v : Value} {j : Nat} (h : (d == some j) = false) : (a.put d v).tmps[j]? = a.tmps[j]? := by
  cases d with
  | none => rfl
  | some d =>
    have : d ≠ j := by simpa using h
    simp [Act.put, Array.getElem?_setIfInBounds, this]
theorem put_size {a : Act} {d : Option Tmp} {v : Value} : (a.put d v).tmps.size = a.tmps.size := by cases d <;> simp [Act.put]
theorem put_defers {a : Act} {d : Option Tmp} {v : Value} : (a.put d v).defers = a.defers := by cases d <;> rfl

theorem evQ_keeps {P : Program} {ops : Array Oper} : ∀ (l : List Oper) (hs : List QH) (a a' : Act) (obs : List QOb), evQ P ops l hs a = some (a', obs) →
    a'.tmps.size = a.tmps.size ∧ a'.defers = a.defers ∧ ∀ j, writes l j = false → a'.tmps[j]? = a.tmps[j]?
  | [], hs, a, a', obs, h => by
    simp only [evQ, Option.some.injEq, Prod.mk.injEq] at h
    obtain ⟨rfl, _⟩ := h
    exact ⟨rfl, rfl, fun _ _ => rfl⟩
  | o :: rest, hs, a, a', obs, h => by
    have key : ∀ (v : Value) (hs' : List QH) (a2 : Act) (obs2 : List QOb), evQ P ops rest hs' (a.put o.dst v) = some (a2, obs2) →
        a2.tmps.size = a.tmps.size ∧ a2.defers = a.defers ∧ ∀ j, writes (o :: rest) j = false → a2.tmps[j]? = a.tmps[j]? := by
      intro v hs' a2 obs2 h
      obtain ⟨h1, h2, h3⟩ := evQ_keeps rest hs' _ a2 obs2 h
      refine ⟨h1.trans put_size, h2.trans put_defers, fun j hj => ?_⟩
      simp only [writes, List.any_cons, Bool.or_eq_false_iff] at hj
      exact (h3 j hj.2).trans (put_other hj.1)
    unfold evQ at h
    split at h
    · exact key _ _ _ _ h
    · split at h
      · simp only [Option.map_eq_some_iff, Prod.mk.injEq] at h
        obtain ⟨⟨a2, obs2⟩, h1, h2, h3⟩ := h
        simp only at h2; subst h2
        exact key _ _ _ _ h1
      · split at h
        · exact key _ _ _ _ h
        · split at h
          · simp only [Option.map_eq_some_iff, Prod.mk.injEq] at h
            obtain ⟨⟨a2, obs2⟩, h1, h2, h3⟩ := h
            simp only at h2; subst h2
            exact key _ _ _ _ h1
          · cases h
        · cases h
        · split at h
          · split at h
            · simp only [Option.map_eq_some_iff, Prod.mk.injEq] at h
              obtain ⟨⟨a2, obs2⟩, h1, h2, h3⟩ := h
              simp only at h2; subst h2
              exact key _ _ _ _ h1
            · cases h
          · cases h

/-- The frame behind: what was asked for; something in the other slots that were written; the rest as it was. -/
def frameOf (t : List Value) (w : Nat → Bool) (g : Nat → Value) : Nat → List Value
  | i => match t with
    | [] => []
    | v :: r => (if w i then g i else v) :: frameOf r w g (i + 1)
theorem frameOf_eq (w : Nat → Bool) (T : Array Value) : ∀ (t : List Value) (i : Nat), i + t.length = T.size → (∀ j, j < t.length → w (i + j) = false → T[i + j]? = t[j]?) →
    frameOf t w (fun j => T.getD j undef) i = T.toList.drop i
  | [], i, h, _ => by simp [frameOf]; simp at h; omega
  | v :: r, i, h, hk => by
    have hi : i < T.size := by simp at h; omega
    have ih := frameOf_eq w T r (i + 1) (by simp at h; omega) (fun j hj hw => by
      have := hk (j + 1) (by simp; omega) (by rw [← hw]; congr 1; omega)
      rw [show i + 1 + j = i + (j + 1) by omega, this]
      simp)
    have hd : T.toList.drop i = T[i] :: T.toList.drop (i + 1) := by
      rw [List.drop_eq_getElem_cons (by simpa using hi)]
      simp
    rw [frameOf, ih, hd]
    congr 1
    split
    · simp [hi]
    · rename_i hw
      have := hk 0 (by simp) (by simpa using hw)
      simp at this
      rw [Array.getElem?_eq_getElem hi] at this
      simpa using this.symm

/-- A region that draws its order, by the reckoning. -/
theorem wp_evQ {P : Program} {id : Nat} {l : List Oper} {Q : Exit → Act → World → Prop} {t : List Value} {ds : List Deferred} {w : World} (C : World → Prop) (hs : List QH) (ks : List Nat) (vs : List Value)
    (hm : P.follows .mixedOrders = true) (hB : Region.lexB .any l.toArray = true) (h : evQs P l.toArray l hs ⟨t.toArray, ds⟩ ks = some (vs, hintObs hs)) (hC : C { w with drawn := w.drawn + 1 }) (hobs : AllHold P C (hintObs hs))
    (hK : ∀ w' (g : Nat → Value), C w' → ks.map g = vs → Q .normal ⟨(frameOf t (writes l) g 0).toArray, ds⟩ w') : (Code.region id l.toArray true).wp P Q ⟨t.toArray, ds⟩ w := by
  simp only [evQs, Option.map_eq_some_iff, Prod.mk.injEq] at h
  obtain ⟨⟨a', obs⟩, h1, h2, h3⟩ := h
  simp only at h2 h3
  subst h3
  obtain ⟨k1, k2, k3⟩ := evQ_keeps _ _ _ _ _ h1
  refine wp_region_quiet hm hB hC (evQ_quiet _ hs _ a' _ (by simpa using h1) hobs fun w' hw' => ?_)
  have e := frameOf_eq (writes l) a'.tmps t 0 (by rw [k1]; simp) (fun j hj hw => by
    have := k3 j (by simpa using hw)
    simpa using this)
  have := hK w' (fun j => a'.tmps.getD j undef) hw' h2
  rw [e] at this
  have e2 : (⟨(a'.tmps.toList.drop 0).toArray, ds⟩ : Act) = a' := by
    cases a'
    simp only at k2
    simp [k2]
  rw [e2] at this
  exact this

/-- The same frame, the slots that are written being lo to lo + n - 1, and es. -/
def frameIn (t : List Value) (lo n : Nat) (es : List Nat) (g : Nat → Value) : List Value :=
  es.foldl (fun t j => t.set j (g j)) (t.take lo ++ ((List.range' lo n).map g ++ t.drop (lo + n)))
def inRange (lo n : Nat) (es : List Nat) (l : List Oper) : Bool := l.all fun o => match o.dst with | none => true | some d => (Nat.ble lo d && Nat.blt d (lo + n)) || es.contains d

theorem foldl_set_get (g : Nat → Value) : ∀ (es : List Nat) (t : List Value) (j : Nat), (es.foldl (fun t j => t.set j (g j)) t)[j]? = if es.contains j then (t[j]?).map (fun _ => g j) else t[j]?
  | [], _, _ => by simp
  | e :: es, t, j => by
    rw [List.foldl_cons, foldl_set_get g es, List.getElem?_set]
    by_cases h : e = j
    · subst h
      by_cases hl : e < t.length
      · simp [hl]
      · simp [hl]
    · have h' : (j == e) = false := by simp; exact fun e' => h e'.symm
      have h2 : ¬ j = e := fun e' => h e'.symm
      simp [h, h2]
theorem frameOf_length (w : Nat → Bool) (g : Nat → Value) : ∀ (t : List Value) (i : Nat), (frameOf t w g i).length = t.length
  | [], _ => rfl
  | v :: r, i => by simp [frameOf, frameOf_length w g r]
theorem frameOf_get (w : Nat → Bool) (g : Nat → Value) : ∀ (t : List Value) (i j : Nat), (frameOf t w g i)[j]? = (t[j]?).map fun v => if w (i + j) then g (i + j) else v
  | [], _, _ => by simp [frameOf]
  | v :: r, i, 0 => by simp [frameOf]
  | v :: r, i, j + 1 => by
    rw [frameOf, List.getElem?_cons_succ, frameOf_get w g r, List.getElem?_cons_succ]
    rw [show i + 1 + j = i + (j + 1) by omega]

/-- A frame that differs in the written slots alone is one of those. -/
theorem frameOf_in {t : List Value} {l : List Oper} {lo n : Nat} {es : List Nat} (hr : inRange lo n es l = true) (hn : lo + n ≤ t.length) (g : Nat → Value) :
    frameOf t (writes l) g 0 = frameIn t lo n es (fun j => (frameOf t (writes l) g 0).getD j undef) := by
  apply List.ext_getElem?
  intro j
  have hlen : (t.take lo ++ ((List.range' lo n).map (fun j => (frameOf t (writes l) g 0).getD j undef) ++ t.drop (lo + n))).length = t.length := by simp; omega
  rw [frameIn, foldl_set_get]
  by_cases hj : j < t.length
  · have hf : (frameOf t (writes l) g 0)[j]? = some ((frameOf t (writes l) g 0).getD j undef) := by
      have : j < (frameOf t (writes l) g 0).length := by rw [frameOf_length]; exact hj
      simp [this]
    have hx : ∃ x, (t.take lo ++ ((List.range' lo n).map (fun j => (frameOf t (writes l) g 0).getD j undef) ++ t.drop (lo + n)))[j]? = some x := ⟨_, List.getElem?_eq_getElem (by rw [hlen]; exact hj)⟩
    by_cases he : es.contains j = true
    · obtain ⟨x, hx⟩ := hx
      rw [if_pos he, hx, hf]
      rfl
    · rw [if_neg he]
      by_cases h1 : lo ≤ j ∧ j < lo + n
      · rw [hf, List.getElem?_append_right (by simp; omega), List.getElem?_append_left (by simp; omega)]
        have : (List.range' lo n)[j - min lo t.length]? = some j := by
          rw [List.getElem?_range' (by omega)]
          simp; omega
        simp [this]
      · have hw : writes l j = false := by
          unfold writes
          rw [List.any_eq_false]
          intro o ho hd
          have := List.all_eq_true.1 hr o ho
          have hd' : o.dst = some j := by simpa using hd
          rw [hd'] at this
          simp only [Bool.or_eq_true, Bool.and_eq_true, Nat.ble_eq, Nat.blt_eq] at this
          rcases this with ⟨a, b⟩ | a
          · exact h1 ⟨a, b⟩
          · exact he a
        rw [frameOf_get]
        simp only [Nat.zero_add, hw, Bool.false_eq_true, if_false, Option.map_id']
        by_cases h2 : j < lo
        · rw [List.getElem?_append_left (by simp; omega), List.getElem?_take_of_lt h2]
        · rw [List.getElem?_append_right (by simp; omega), List.getElem?_append_right (by simp; omega), List.getElem?_drop]
          simp
          congr 1
          omega
  · rw [List.getElem?_eq_none (by rw [frameOf_length]; omega), List.getElem?_eq_none (by rw [hlen]; omega)]
    simp

theorem wp_evQ' {P : Program} {id : Nat} {l : List Oper} {Q : Exit → Act → World → Prop} {t : List Value} {ds : List Deferred} {w : World} (C : World → Prop) (hs : List QH) (ks : List Nat) (vs : List Value) (lo n : Nat) (es : List Nat)
    (hm : P.follows .mixedOrders = true) (hB : Region.lexB .any l.toArray = true) (hr : inRange lo n es l = true) (hn : Nat.ble (lo + n) t.length = true) (hks : (ks.all fun k => Nat.blt k t.length && writes l k) = true)
    (h : evQs P l.toArray l hs ⟨t.toArray, ds⟩ ks = some (vs, hintObs hs)) (hC : C { w with drawn := w.drawn + 1 }) (hobs : AllHold P C (hintObs hs))
    (hK : ∀ w' (g : Nat → Value), C w' → ks.map g = vs → Q .normal ⟨(frameIn t lo n es g).toArray, ds⟩ w') : (Code.region id l.toArray true).wp P Q ⟨t.toArray, ds⟩ w :=
  wp_evQ C hs ks vs hm hB h hC hobs fun w' g hw hg => by
    rw [frameOf_in hr (by simpa using hn) g]
    refine hK w' _ hw ?_
    rw [← hg]
    apply List.map_congr_left
    intro k hk
    have h1 := List.all_eq_true.1 hks k hk
    simp only [Bool.and_eq_true, Nat.blt_eq] at h1
    rw [List.getD_eq_getElem?_getD, frameOf_get]
    simp [h1.1, h1.2]

end Go.Proofs.YtoabiignjkcdmaaGreat
