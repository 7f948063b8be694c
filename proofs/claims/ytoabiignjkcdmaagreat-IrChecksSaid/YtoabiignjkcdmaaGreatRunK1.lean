/-
  The laws' own words, walked: which rows and outcomes are the same; what is large.
-/
import Derived.Test.YtoabiignjkcdmaaGreatRunJ
namespace Go.Proofs.YtoabiignjkcdmaaGreat
open Go.RowKit
set_option linter.unusedVariables false
set_option linter.unusedSimpArgs false

def SamePost (w : World) (q : Prop) (e : Ending) (w' : World) : Prop := ∃ r : Bool, e = .returned (.bool r) ∧ (r = true ↔ q) ∧ Below w.heap.size w w'
theorem same_no {w w' : World} {q : Prop} (h : ¬ q) (hb : Below w.heap.size w w') : SamePost w q (.returned (.bool false)) w' := ⟨false, rfl, ⟨nofun, fun h' => absurd h' h⟩, hb⟩
theorem same_yes {w w' : World} {q : Prop} (h : q) (hb : Below w.heap.size w w') : SamePost w q (.returned (.bool true)) w' := ⟨true, rfl, ⟨fun _ => h, fun _ => rfl⟩, hb⟩
set_option maxHeartbeats 1000000 in
theorem sameNums_c (xs ys : List Int) (A C : Option Addr) (ca cc : Nat) (w : World) (hA : kU64.Row w A xs) (hC : kU64.Row w C ys) (hx : xs.length ≤ 9223372036854775807) (hy : ys.length ≤ 9223372036854775807) :
    Calls Tryz.prog 43 #[.slice A xs.length ca, .slice C ys.length cc] w (SamePost w (xs = ys)) := by
  go_enter Tryz.func43, Tryz.ntmps43
  by_cases hl : xs.length = ys.length
  case neg =>
    have t1 : ((xs.length : Int) == (ys.length : Int)) = false := by simp; omega
    have t2 : ((xs.length : Int) != (ys.length : Int)) = true := by simp; omega
    have HL := Lib.hid hl
    clear hl
    go_wp2_with fail
    go_ret
    exact same_no (fun e => HL.out (by rw [e])) (Below.refl _ _)
  have t1 : ((xs.length : Int) == (ys.length : Int)) = true := by rw [hl]; exact beq_self_eq_true _
  have t2 : ((xs.length : Int) != (ys.length : Int)) = false := by rw [hl]; simp
  have HL := Lib.hid hl
  clear hl
  go_wp2_with fail
  go_loopw [5] (fun s wr => ∃ k : Nat, k ≤ xs.length ∧ s = .int .i64 k ∧ (∀ j (h : j < xs.length) (h' : j < ys.length), j < k → xs[j] = ys[j]) ∧ Below w.heap.size w wr) (fun s _ => xs.length - (intOf s).toNat)
  case atStart => exact ⟨0, Nat.zero_le _, rfl, fun j _ _ h => absurd h (by omega), Below.refl _ _⟩
  case round =>
    clear t1 t2
    obtain ⟨k, hk, rfl, hall, hb⟩ := hrel
    have HA := Lib.hid hall
    clear hall
    by_cases hlt : k < xs.length
    · have hlt2 : k < ys.length := by have := HL.out; omega
      obtain ⟨b1, o1, rfl, g1⟩ := kU64_at' (hA.mono hb) k hlt
      obtain ⟨b2, o2, rfl, g2⟩ := kU64_at' (hC.mono hb) k hlt2
      obtain ⟨x, hx'⟩ : ∃ x, x = xs[k] := ⟨_, rfl⟩
      obtain ⟨y, hy'⟩ : ∃ y, y = ys[k] := ⟨_, rfl⟩
      rw [← hx'] at g1
      rw [← hy'] at g2
      have HX := Lib.hid hx'
      have HY := Lib.hid hy'
      clear hx' hy'
      by_cases he : x = y
      · have t1 : (x == y) = true := by rw [he]; exact beq_self_eq_true _
        have t2 : (x != y) = false := by rw [he]; simp
        have HE := Lib.hid he
        clear he
        go_wp2_with fail
        go_quiet (fail)
        go_wp2_with fail
        go_roundw
        case rel => exact ⟨k + 1, by omega, by go_num, fun j h h' hj => by
          by_cases e : j = k
          · subst e; rw [← HX.out, ← HY.out]; exact HE.out
          · exact HA.out j h h' (by omega), bt hb (drewN_below _ _)⟩
        case measure => simp [intOf]; omega
      · have t1 : (x == y) = false := by simpa using he
        have t2 : (x != y) = true := by simpa using he
        have HE := Lib.hid he
        clear he
        go_wp2_with fail
        go_quiet (fail)
        go_wp2_with fail
        go_ret
        exact same_no (fun e => HE.out (by rw [HX.out, HY.out]; simp only [e])) (bt hb (drewN_below _ _))
    · have hkl : k = xs.length := by omega
      have HK := Lib.hid hkl
      clear hkl
      go_wp2_with fail
      go_ret
      exact same_yes (List.ext_getElem HL.out fun j h h' => HA.out j h h' (by rw [HK.out]; exact h)) hb
set_option maxHeartbeats 1000000 in
theorem sameTexts_c (xs ys : List ByteArray) (A C : Option Addr) (ca cc : Nat) (w : World) (hA : kStr.Row w A xs) (hC : kStr.Row w C ys) (hx : xs.length ≤ 9223372036854775807) (hy : ys.length ≤ 9223372036854775807) (hxy : xs = ys) :
    Calls Tryz.prog 42 #[.slice A xs.length ca, .slice C ys.length cc] w fun e w' => e = .returned (.bool true) ∧ Below w.heap.size w w' := by
  subst hxy
  go_enter Tryz.func42, Tryz.ntmps42
  go_wp2_with fail
  go_loopw [5] (fun s wr => ∃ k : Nat, k ≤ xs.length ∧ s = .int .i64 k ∧ Below w.heap.size w wr) (fun s _ => xs.length - (intOf s).toNat)
  case atStart => exact ⟨0, Nat.zero_le _, rfl, Below.refl _ _⟩
  case round =>
    obtain ⟨k, hk, rfl, hb⟩ := hrel
    by_cases hlt : k < xs.length
    · obtain ⟨b1, o1, rfl, g1⟩ := kStr_at' (hA.mono hb) k hlt
      obtain ⟨b2, o2, rfl, g2⟩ := kStr_at' (hC.mono hb) k hlt
      obtain ⟨x, hx'⟩ : ∃ x, x = xs[k] := ⟨_, rfl⟩
      rw [← hx'] at g1 g2
      clear hx'
      go_wp2_with fail
      go_quiet (fail)
      go_wp2_with fail
      go_roundw
      case rel => exact ⟨k + 1, by omega, by go_num, bt hb (drewN_below _ _)⟩
      case measure => simp [intOf]; omega
    · go_wp2_with fail
      go_ret
      exact ⟨rfl, hb⟩
set_option maxRecDepth 100000 in
set_option maxHeartbeats 1000000 in
theorem sameOut_c (o : SOut) (v1 v2 : Value) (w : World) (h1 : OutAt o w v1) (h2 : OutAt o w v2) :
    Calls Tryz.prog 20 #[v1, v2] w fun e w' => e = .returned (.bool true) ∧ Below w.heap.size w w' := by
  obtain ⟨B1, b1, T1, t1, rfl, hB1, hT1, hx, hy⟩ := h1
  obtain ⟨B2, b2, T2, t2, rfl, hB2, hT2, -, -⟩ := h2
  have hbW : ∀ x y : Obj, Below w.heap.size w ((w.alloc x).alloc y) := fun x y => ((Below.refl w.heap.size w).alloc (Nat.le_refl _) _).alloc (by simp) _
  have HT : Hid (∀ w1, Below w.heap.size w w1 → Calls Tryz.prog 42 #[.slice B1 o.bufs.length b1, .slice B2 o.bufs.length b2] w1 fun e w' => e = .returned (.bool true) ∧ Below w1.heap.size w1 w') := Lib.hid (fun w1 h => sameTexts_c o.bufs o.bufs B1 B2 b1 b2 w1 (hB1.mono h) (hB2.mono h) hx hx rfl)
  have HN : Hid (∀ w1, Below w.heap.size w w1 → Calls Tryz.prog 43 #[.slice T1 o.told.length t1, .slice T2 o.told.length t2] w1 (SamePost w1 (o.told = o.told))) := Lib.hid (fun w1 h => sameNums_c o.told o.told T1 T2 t1 t2 w1 (hT1.mono h) (hT2.mono h) hy hy)
  obtain ⟨w0, hw0⟩ : ∃ w0, w0 = ((w.alloc (.cells #[.int .u8 o.en, .int .i64 o.trap, .int .u64 o.ret, .slice B1 o.bufs.length b1, .slice T1 o.told.length t1, .int .i64 o.steps] 48)).alloc (.cells #[.int .u8 o.en, .int .i64 o.trap, .int .u64 o.ret, .slice B2 o.bufs.length b2, .slice T2 o.told.length t2, .int .i64 o.steps] 48)) := ⟨_, rfl⟩
  have hb0 : Below w.heap.size w w0 := by rw [hw0]; exact hbW _ _
  have BA : Bk w0 w.heap.size #[.int .u8 o.en, .int .i64 o.trap, .int .u64 o.ret, .slice B1 o.bufs.length b1, .slice T1 o.told.length t1, .int .i64 o.steps] 48 := by rw [hw0]; exact (Bk.new w _ _).alloc _
  have BB : Bk w0 (w.heap.size + 1) #[.int .u8 o.en, .int .i64 o.trap, .int .u64 o.ret, .slice B2 o.bufs.length b2, .slice T2 o.told.length t2, .int .i64 o.steps] 48 := by rw [hw0]; exact Bk.newAt _ _ (by simp)
  clear hbW hB1 hT1 hB2 hT2
  go_enter Tryz.func20, Tryz.ntmps20
  go_upto_region 1 with (fail)
  rw [← hw0]
  clear hw0
  have CA := BA.cell
  have CB := BB.cell
  go_wp2_with (go_at_call 42; refine (HT.out _ hb0).mono ?_; rintro e w1 ⟨rfl, hb1⟩; have hb01 := bt hb0 hb1; have BA1 := BA.mono hb1; have BB1 := BB.mono hb1; clear CA CB; have CA := BA1.cell; have CB := BB1.cell)
  refine (HN.out _ hb01).mono ?_
  rintro e w2 ⟨r, rfl, hr, hb2⟩
  have hrt := hr.2 (by first | rfl | trivial)
  subst hrt
  clear hr
  go_wp2_with fail
  go_ret
  exact ⟨rfl, bt hb01 hb2⟩
theorem le_sum : ∀ {l : List Nat} {x : Nat}, x ∈ l → x ≤ l.sum
  | y :: l, x, h => by
    rw [List.sum_cons]
    rcases List.mem_cons.1 h with rfl | h
    · omega
    · have := le_sum h
      omega
/-- What a program that is not large keeps to. -/
structure Small (p : SIr) : Prop where
  sec : p.sec.length ≤ 800
  par : p.par.length ≤ 60
  blk : p.blk.length ≤ 500
  ops : sumOps p.blk ≤ 3000
theorem Small.each {p : SIr} (h : Small p) : ∀ b ∈ p.blk, b.ops.length ≤ 3000 := by
  intro b hb
  have h1 : b.ops.length ≤ sumOps p.blk := by
    unfold sumOps
    exact le_sum (List.mem_map.2 ⟨b, hb, rfl⟩)
  have := h.ops
  omega
def LargePost (p : SIr) (w : World) (e : Ending) (w' : World) : Prop := ∃ r : Bool, e = .returned (.bool r) ∧ (r = false → Small p) ∧ Below w.heap.size w w'
set_option maxRecDepth 100000 in
set_option maxHeartbeats 2000000 in
theorem large_c (p : SIr) (w : World) (S P B : Option Addr) (c1 c2 c3 : Nat) (hB : kBlock.Row w B p.blk) (hm : p.sec.length ≤ 9223372036854775807 ∧ p.par.length ≤ 9223372036854775807 ∧ p.blk.length ≤ 9223372036854775807) (hops : ∀ b ∈ p.blk, b.ops.length ≤ 1000000000000000) :
    Calls Tryz.prog 8 #[.agg #[.slice S p.sec.length c1, .slice P p.par.length c2, .slice B p.blk.length c3]] w (LargePost p w) := by
  obtain ⟨m1, m2, m3⟩ := hm
  obtain ⟨w1, hw1⟩ : ∃ w1, w1 = w.alloc (.cells #[.slice S p.sec.length c1, .slice P p.par.length c2, .slice B p.blk.length c3] 26) := ⟨_, rfl⟩
  have hb1 : Below w.heap.size w w1 := by rw [hw1]; exact (Below.refl w.heap.size w).alloc (Nat.le_refl _) _
  have BP : Bk w1 w.heap.size #[.slice S p.sec.length c1, .slice P p.par.length c2, .slice B p.blk.length c3] 26 := by rw [hw1]; exact Bk.new w _ _
  go_enter Tryz.func8, Tryz.ntmps8
  go_upto_region 1 with (fail)
  rw [← hw1]
  clear hw1
  go_wp2_with fail
  go_loop [3, 4] (fun n s => ∃ k : Nat, k ≤ p.blk.length ∧ k ≤ 600 ∧ s = .int .i64 k ∧ n = .int .i64 (sumOps (p.blk.take k)) ∧ sumOps (p.blk.take k) ≤ k * 1000000000000000) (fun _ s => p.blk.length - (intOf s).toNat)
  case atStart => exact ⟨0, Nat.zero_le _, by omega, rfl, rfl, Nat.zero_le _⟩
  case round =>
    obtain ⟨k, hk, hk6, rfl, rfl, hsum⟩ := hrel
    have CP := BP.cell
    by_cases hlt : k < p.blk.length
    · by_cases h6 : k < 600
      · obtain ⟨bb, bo, O, oc, rfl, g0, g1, g2, g3, g4, gm, hO⟩ := kBlock_at (hB.mono hb1) k hlt
        have hol := hops _ (List.getElem_mem hlt)
        have hsn : sumOps (p.blk.take (k + 1)) = sumOps (p.blk.take k) + p.blk[k].ops.length := by rw [List.take_succ_eq_append_getElem hlt, sumOps_snoc]
        have hs2 : sumOps (p.blk.take (k + 1)) ≤ (k + 1) * 1000000000000000 := by rw [hsn]; omega
        have HN : Hid ((sumOps (p.blk.take k) : Int) + (p.blk[k].ops.length : Int) = (sumOps (p.blk.take (k + 1)) : Int)) := Lib.hid (by rw [hsn]; push_cast; rfl)
        have HS := Lib.hid hs2
        clear hsn hs2 g1 g2 g3 g4
        go_wp2_with fail
        go_round
        case rel => exact ⟨k + 1, by omega, by omega, by go_num, by rw [HN.out], HS.out⟩
        case measure => simp [intOf]; omega
      · have t1 : 500 < p.blk.length := by omega
        go_wp2_with fail
        all_goals
          go_ret
          exact ⟨_, rfl, fun h => by first | exact absurd h (by decide) | (exfalso; omega) | (exfalso; simp at h; omega), hb1⟩
    · have hkl : k = p.blk.length := by omega
      have htk : p.blk.take k = p.blk := by rw [hkl, List.take_length]
      rw [htk] at hsum ⊢
      clear htk
      go_wp2_with fail
      all_goals
        go_ret
        exact ⟨_, rfl, fun h => by first | exact absurd h (by decide) | exact ⟨by omega, by omega, by omega, by omega⟩ | (simp at h; exact ⟨by omega, by omega, by omega, by omega⟩), hb1⟩
/-- What comes in is not heavy. -/
def HeavyPost (p : SIr) (inp : SIn) (w : World) (e : Ending) (w' : World) : Prop := ∃ r : Bool, e = .returned (.bool r) ∧ (r = false → Small p ∧ inp.nums.length ≤ 60 ∧ inp.bufs.length ≤ 60) ∧ Below w.heap.size w w'
set_option maxRecDepth 100000 in
set_option maxHeartbeats 2000000 in
theorem heavy_c (p : SIr) (inp : SIn) (w : World) (S P B NA BA : Option Addr) (c1 c2 c3 nc bc : Nat) (hB : kBlock.Row w B p.blk) (hm : p.sec.length ≤ 9223372036854775807 ∧ p.par.length ≤ 9223372036854775807 ∧ p.blk.length ≤ 9223372036854775807) (hops : ∀ b ∈ p.blk, b.ops.length ≤ 1000000000000000)
    (hn : inp.nums.length ≤ 9223372036854775807 ∧ inp.bufs.length ≤ 9223372036854775807) :
    Calls Tryz.prog 18 #[.agg #[.slice S p.sec.length c1, .slice P p.par.length c2, .slice B p.blk.length c3], .agg #[.slice NA inp.nums.length nc, .slice BA inp.bufs.length bc], .int .i64 0] w (HeavyPost p inp w) := by
  obtain ⟨n1, n2⟩ := hn
  obtain ⟨w1, hw1⟩ : ∃ w1, w1 = (w.alloc (.cells #[.slice S p.sec.length c1, .slice P p.par.length c2, .slice B p.blk.length c3] 26)).alloc (.cells #[.slice NA inp.nums.length nc, .slice BA inp.bufs.length bc] 43) := ⟨_, rfl⟩
  have hb1 : Below w.heap.size w w1 := by rw [hw1]; exact ((Below.refl w.heap.size w).alloc (Nat.le_refl _) _).alloc (by simp) _
  have BP : Bk w1 w.heap.size #[.slice S p.sec.length c1, .slice P p.par.length c2, .slice B p.blk.length c3] 26 := by rw [hw1]; exact (Bk.new w _ _).alloc _
  have BI : Bk w1 (w.heap.size + 1) #[.slice NA inp.nums.length nc, .slice BA inp.bufs.length bc] 43 := by rw [hw1]; exact Bk.newAt _ _ (by simp)
  have HL := Lib.hid (large_c p w1 S P B c1 c2 c3 (hB.mono hb1) hm hops)
  go_enter Tryz.func18, Tryz.ntmps18
  go_upto_region 1 with (fail)
  rw [← hw1]
  clear hw1
  have CP := BP.cell
  go_wp2_with fail
  refine HL.out.mono ?_
  rintro e w2 ⟨r, rfl, hr, hb2⟩
  have hbw := bt hb1 hb2
  have BI2 := BI.mono hb2
  have CI := BI2.cell
  have HR := Lib.hid hr
  clear hr CP
  cases r with
  | true =>
    go_wp2_with fail
    go_ret
    exact ⟨_, rfl, fun h => by simp at h, hbw⟩
  | false =>
    have hs := HR.out rfl
    have HS := Lib.hid hs
    clear hs HR
    go_wp2_with fail
    all_goals
      go_ret
      exact ⟨_, rfl, fun h => by first | exact absurd h (by decide) | exact ⟨HS.out, by omega, by omega⟩ | (simp at h; exact ⟨HS.out, by omega, by omega⟩), hbw⟩
end Go.Proofs.YtoabiignjkcdmaaGreat
