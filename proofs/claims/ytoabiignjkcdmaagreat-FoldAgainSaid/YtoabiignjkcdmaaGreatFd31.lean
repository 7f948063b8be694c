/-
  Lemmas (texts RunK1 RunK2), each proved without a condition beyond its own hypotheses.
-/
import Derived.Test.YtoabiignjkcdmaaGreatFd23
import Derived.Laws.OwnMore
import Derived.Deep.MidRow
namespace Go.Proofs.YtoabiignjkcdmaaGreat
open Go.RowKit
set_option linter.unusedVariables false
set_option linter.unusedSimpArgs false

def SamePost (w : World) (q : Prop) (e : Ending) (w' : World) : Prop := ∃ r : Bool, e = .returned (.bool r) ∧ (r = true ↔ q) ∧ Below w.heap.size w w'
theorem same_no {w w' : World} {q : Prop} (h : ¬ q) (hb : Below w.heap.size w w') : SamePost w q (.returned (.bool false)) w' := ⟨false, rfl, ⟨nofun, fun h' => absurd h' h⟩, hb⟩
theorem same_yes {w w' : World} {q : Prop} (h : q) (hb : Below w.heap.size w w') : SamePost w q (.returned (.bool true)) w' := ⟨true, rfl, ⟨fun _ => h, fun _ => rfl⟩, hb⟩
set_option maxHeartbeats 1000000 in
theorem sameNums_c (xs ys : List Int) (A C : Option Addr) (ca cc : Nat) (w : World) (hA : kU64.Row w A xs) (hC : kU64.Row w C ys) (hx : xs.length ≤ 9223372036854775807) (hy : ys.length ≤ 9223372036854775807) :
    Calls Tryz.prog 43 #[.slice A xs.length ca, .slice C ys.length cc] w (SamePost w (xs = ys)) := by
  go_enter Tryz.func43, Tryz.ntmps43
  by_cases hl : xs.length = ys.length
  case neg =>
    have t1 : ((xs.length : Int) == (ys.length : Int)) = false := by simp; omega
    have t2 : ((xs.length : Int) != (ys.length : Int)) = true := by simp; omega
    have HL := Lib.hid hl
    clear hl
    go_wp2_with fail
    go_ret
    exact same_no (fun e => HL.out (by rw [e])) (Below.refl _ _)
  have t1 : ((xs.length : Int) == (ys.length : Int)) = true := by rw [hl]; exact beq_self_eq_true _
  have t2 : ((xs.length : Int) != (ys.length : Int)) = false := by rw [hl]; simp
  have HL := Lib.hid hl
  clear hl
  go_wp2_with fail
  go_loopw [5] (fun s wr => ∃ k : Nat, k ≤ xs.length ∧ s = .int .i64 k ∧ (∀ j (h : j < xs.length) (h' : j < ys.length), j < k → xs[j] = ys[j]) ∧ Below w.heap.size w wr) (fun s _ => xs.length - (intOf s).toNat)
  case atStart => exact ⟨0, Nat.zero_le _, rfl, fun j _ _ h => absurd h (by omega), Below.refl _ _⟩
  case round =>
    clear t1 t2
    obtain ⟨k, hk, rfl, hall, hb⟩ := hrel
    have HA := Lib.hid hall
    clear hall
    by_cases hlt : k < xs.length
    · have hlt2 : k < ys.length := by have := HL.out; omega
      obtain ⟨b1, o1, rfl, g1⟩ := kU64_at' (hA.mono hb) k hlt
      obtain ⟨b2, o2, rfl, g2⟩ := kU64_at' (hC.mono hb) k hlt2
      obtain ⟨x, hx'⟩ : ∃ x, x = xs[k] := ⟨_, rfl⟩
      obtain ⟨y, hy'⟩ : ∃ y, y = ys[k] := ⟨_, rfl⟩
      rw [← hx'] at g1
      rw [← hy'] at g2
      have HX := Lib.hid hx'
      have HY := Lib.hid hy'
      clear hx' hy'
      by_cases he : x = y
      · have t1 : (x == y) = true := by rw [he]; exact beq_self_eq_true _
        have t2 : (x != y) = false := by rw [he]; simp
        have HE := Lib.hid he
        clear he
        go_wp2_with fail
        go_quiet (fail)
        go_wp2_with fail
        go_roundw
        case rel => exact ⟨k + 1, by omega, by go_num, fun j h h' hj => by
          by_cases e : j = k
          · subst e; rw [← HX.out, ← HY.out]; exact HE.out
          · exact HA.out j h h' (by omega), bt hb (drewN_below _ _)⟩
        case measure => simp [intOf]; omega
      · have t1 : (x == y) = false := by simpa using he
        have t2 : (x != y) = true := by simpa using he
        have HE := Lib.hid he
        clear he
        go_wp2_with fail
        go_quiet (fail)
        go_wp2_with fail
        go_ret
        exact same_no (fun e => HE.out (by rw [HX.out, HY.out]; simp only [e])) (bt hb (drewN_below _ _))
    · have hkl : k = xs.length := by omega
      have HK := Lib.hid hkl
      clear hkl
      go_wp2_with fail
      go_ret
      exact same_yes (List.ext_getElem HL.out fun j h h' => HA.out j h h' (by rw [HK.out]; exact h)) hb
set_option maxHeartbeats 1000000 in
theorem sameTexts_c (xs ys : List ByteArray) (A C : Option Addr) (ca cc : Nat) (w : World) (hA : kStr.Row w A xs) (hC : kStr.Row w C ys) (hx : xs.length ≤ 9223372036854775807) (hy : ys.length ≤ 9223372036854775807) (hxy : xs = ys) :
    Calls Tryz.prog 42 #[.slice A xs.length ca, .slice C ys.length cc] w fun e w' => e = .returned (.bool true) ∧ Below w.heap.size w w' := by
  subst hxy
  go_enter Tryz.func42, Tryz.ntmps42
  go_wp2_with fail
  go_loopw [5] (fun s wr => ∃ k : Nat, k ≤ xs.length ∧ s = .int .i64 k ∧ Below w.heap.size w wr) (fun s _ => xs.length - (intOf s).toNat)
  case atStart => exact ⟨0, Nat.zero_le _, rfl, Below.refl _ _⟩
  case round =>
    obtain ⟨k, hk, rfl, hb⟩ := hrel
    by_cases hlt : k < xs.length
    · obtain ⟨b1, o1, rfl, g1⟩ := kStr_at' (hA.mono hb) k hlt
      obtain ⟨b2, o2, rfl, g2⟩ := kStr_at' (hC.mono hb) k hlt
      obtain ⟨x, hx'⟩ : ∃ x, x = xs[k] := ⟨_, rfl⟩
      rw [← hx'] at g1 g2
      clear hx'
      go_wp2_with fail
      go_quiet (fail)
      go_wp2_with fail
      go_roundw
      case rel => exact ⟨k + 1, by omega, by go_num, bt hb (drewN_below _ _)⟩
      case measure => simp [intOf]; omega
    · go_wp2_with fail
      go_ret
      exact ⟨rfl, hb⟩
set_option maxRecDepth 100000 in
set_option maxHeartbeats 1000000 in
theorem sameOut_c (o : SOut) (v1 v2 : Value) (w : World) (h1 : OutAt o w v1) (h2 : OutAt o w v2) :
    Calls Tryz.prog 20 #[v1, v2] w fun e w' => e = .returned (.bool true) ∧ Below w.heap.size w w' := by
  obtain ⟨B1, b1, T1, t1, rfl, hB1, hT1, hx, hy⟩ := h1
  obtain ⟨B2, b2, T2, t2, rfl, hB2, hT2, -, -⟩ := h2
  have hbW : ∀ x y : Obj, Below w.heap.size w ((w.alloc x).alloc y) := fun x y => ((Below.refl w.heap.size w).alloc (Nat.le_refl _) _).alloc (by simp) _
  have HT : Hid (∀ w1, Below w.heap.size w w1 → Calls Tryz.prog 42 #[.slice B1 o.bufs.length b1, .slice B2 o.bufs.length b2] w1 fun e w' => e = .returned (.bool true) ∧ Below w1.heap.size w1 w') := Lib.hid (fun w1 h => sameTexts_c o.bufs o.bufs B1 B2 b1 b2 w1 (hB1.mono h) (hB2.mono h) hx hx rfl)
  have HN : Hid (∀ w1, Below w.heap.size w w1 → Calls Tryz.prog 43 #[.slice T1 o.told.length t1, .slice T2 o.told.length t2] w1 (SamePost w1 (o.told = o.told))) := Lib.hid (fun w1 h => sameNums_c o.told o.told T1 T2 t1 t2 w1 (hT1.mono h) (hT2.mono h) hy hy)
  obtain ⟨w0, hw0⟩ : ∃ w0, w0 = ((w.alloc (.cells #[.int .u8 o.en, .int .i64 o.trap, .int .u64 o.ret, .slice B1 o.bufs.length b1, .slice T1 o.told.length t1, .int .i64 o.steps] 48)).alloc (.cells #[.int .u8 o.en, .int .i64 o.trap, .int .u64 o.ret, .slice B2 o.bufs.length b2, .slice T2 o.told.length t2, .int .i64 o.steps] 48)) := ⟨_, rfl⟩
  have hb0 : Below w.heap.size w w0 := by rw [hw0]; exact hbW _ _
  have BA : Bk w0 w.heap.size #[.int .u8 o.en, .int .i64 o.trap, .int .u64 o.ret, .slice B1 o.bufs.length b1, .slice T1 o.told.length t1, .int .i64 o.steps] 48 := by rw [hw0]; exact (Bk.new w _ _).alloc _
  have BB : Bk w0 (w.heap.size + 1) #[.int .u8 o.en, .int .i64 o.trap, .int .u64 o.ret, .slice B2 o.bufs.length b2, .slice T2 o.told.length t2, .int .i64 o.steps] 48 := by rw [hw0]; exact Bk.newAt _ _ (by simp)
  clear hbW hB1 hT1 hB2 hT2
  go_enter Tryz.func20, Tryz.ntmps20
  go_upto_region 1 with (fail)
  rw [← hw0]
  clear hw0
  have CA := BA.cell
  have CB := BB.cell
  go_wp2_with (go_at_call 42; refine (HT.out _ hb0).mono ?_; rintro e w1 ⟨rfl, hb1⟩; have hb01 := bt hb0 hb1; have BA1 := BA.mono hb1; have BB1 := BB.mono hb1; clear CA CB; have CA := BA1.cell; have CB := BB1.cell)
  refine (HN.out _ hb01).mono ?_
  rintro e w2 ⟨r, rfl, hr, hb2⟩
  have hrt := hr.2 (by first | rfl | trivial)
  subst hrt
  clear hr
  go_wp2_with fail
  go_ret
  exact ⟨rfl, bt hb01 hb2⟩
theorem le_sum : ∀ {l : List Nat} {x : Nat}, x ∈ l → x ≤ l.sum
  | y :: l, x, h => by
    rw [List.sum_cons]
    rcases List.mem_cons.1 h with rfl | h
    · omega
    · have := le_sum h
      omega
/-- What a program that is not large keeps to. -/
structure Small (p : SIr) : Prop where
  sec : p.sec.length ≤ 800
  par : p.par.length ≤ 60
  blk : p.blk.length ≤ 500
  ops : sumOps p.blk ≤ 3000
theorem Small.each {p : SIr} (h : Small p) : ∀ b ∈ p.blk, b.ops.length ≤ 3000 := by
  intro b hb
  have h1 : b.ops.length ≤ sumOps p.blk := by
    unfold sumOps
    exact le_sum (List.mem_map.2 ⟨b, hb, rfl⟩)
  have := h.ops
  omega
def LargePost (p : SIr) (w : World) (e : Ending) (w' : World) : Prop := ∃ r : Bool, e = .returned (.bool r) ∧ (r = false → Small p) ∧ Below w.heap.size w w'
set_option maxRecDepth 100000 in
set_option maxHeartbeats 2000000 in
theorem large_c (p : SIr) (w : World) (S P B : Option Addr) (c1 c2 c3 : Nat) (hB : kBlock.Row w B p.blk) (hm : p.sec.length ≤ 9223372036854775807 ∧ p.par.length ≤ 9223372036854775807 ∧ p.blk.length ≤ 9223372036854775807) (hops : ∀ b ∈ p.blk, b.ops.length ≤ 1000000000000000) :
    Calls Tryz.prog 8 #[.agg #[.slice S p.sec.length c1, .slice P p.par.length c2, .slice B p.blk.length c3]] w (LargePost p w) := by
  obtain ⟨m1, m2, m3⟩ := hm
  obtain ⟨w1, hw1⟩ : ∃ w1, w1 = w.alloc (.cells #[.slice S p.sec.length c1, .slice P p.par.length c2, .slice B p.blk.length c3] 26) := ⟨_, rfl⟩
  have hb1 : Below w.heap.size w w1 := by rw [hw1]; exact (Below.refl w.heap.size w).alloc (Nat.le_refl _) _
  have BP : Bk w1 w.heap.size #[.slice S p.sec.length c1, .slice P p.par.length c2, .slice B p.blk.length c3] 26 := by rw [hw1]; exact Bk.new w _ _
  go_enter Tryz.func8, Tryz.ntmps8
  go_upto_region 1 with (fail)
  rw [← hw1]
  clear hw1
  go_wp2_with fail
  go_loop [3, 4] (fun n s => ∃ k : Nat, k ≤ p.blk.length ∧ k ≤ 600 ∧ s = .int .i64 k ∧ n = .int .i64 (sumOps (p.blk.take k)) ∧ sumOps (p.blk.take k) ≤ k * 1000000000000000) (fun _ s => p.blk.length - (intOf s).toNat)
  case atStart => exact ⟨0, Nat.zero_le _, by omega, rfl, rfl, Nat.zero_le _⟩
  case round =>
    obtain ⟨k, hk, hk6, rfl, rfl, hsum⟩ := hrel
    have CP := BP.cell
    by_cases hlt : k < p.blk.length
    · by_cases h6 : k < 600
      · obtain ⟨bb, bo, O, oc, rfl, g0, g1, g2, g3, g4, gm, hO⟩ := kBlock_at (hB.mono hb1) k hlt
        have hol := hops _ (List.getElem_mem hlt)
        have hsn : sumOps (p.blk.take (k + 1)) = sumOps (p.blk.take k) + p.blk[k].ops.length := by rw [List.take_succ_eq_append_getElem hlt, sumOps_snoc]
        have hs2 : sumOps (p.blk.take (k + 1)) ≤ (k + 1) * 1000000000000000 := by rw [hsn]; omega
        have HN : Hid ((sumOps (p.blk.take k) : Int) + (p.blk[k].ops.length : Int) = (sumOps (p.blk.take (k + 1)) : Int)) := Lib.hid (by rw [hsn]; push_cast; rfl)
        have HS := Lib.hid hs2
        clear hsn hs2 g1 g2 g3 g4
        go_wp2_with fail
        go_round
        case rel => exact ⟨k + 1, by omega, by omega, by go_num, by rw [HN.out], HS.out⟩
        case measure => simp [intOf]; omega
      · have t1 : 500 < p.blk.length := by omega
        go_wp2_with fail
        all_goals
          go_ret
          exact ⟨_, rfl, fun h => by first | exact absurd h (by decide) | (exfalso; omega) | (exfalso; simp at h; omega), hb1⟩
    · have hkl : k = p.blk.length := by omega
      have htk : p.blk.take k = p.blk := by rw [hkl, List.take_length]
      rw [htk] at hsum ⊢
      clear htk
      go_wp2_with fail
      all_goals
        go_ret
        exact ⟨_, rfl, fun h => by first | exact absurd h (by decide) | exact ⟨by omega, by omega, by omega, by omega⟩ | (simp at h; exact ⟨by omega, by omega, by omega, by omega⟩), hb1⟩
/-- What comes in is not heavy. -/
def HeavyPost (p : SIr) (inp : SIn) (w : World) (e : Ending) (w' : World) : Prop := ∃ r : Bool, e = .returned (.bool r) ∧ (r = false → Small p ∧ inp.nums.length ≤ 60 ∧ inp.bufs.length ≤ 60) ∧ Below w.heap.size w w'
set_option maxRecDepth 100000 in
set_option maxHeartbeats 2000000 in
theorem heavy_c (p : SIr) (inp : SIn) (w : World) (S P B NA BA : Option Addr) (c1 c2 c3 nc bc : Nat) (hB : kBlock.Row w B p.blk) (hm : p.sec.length ≤ 9223372036854775807 ∧ p.par.length ≤ 9223372036854775807 ∧ p.blk.length ≤ 9223372036854775807) (hops : ∀ b ∈ p.blk, b.ops.length ≤ 1000000000000000)
    (hn : inp.nums.length ≤ 9223372036854775807 ∧ inp.bufs.length ≤ 9223372036854775807) :
    Calls Tryz.prog 18 #[.agg #[.slice S p.sec.length c1, .slice P p.par.length c2, .slice B p.blk.length c3], .agg #[.slice NA inp.nums.length nc, .slice BA inp.bufs.length bc], .int .i64 0] w (HeavyPost p inp w) := by
  obtain ⟨n1, n2⟩ := hn
  obtain ⟨w1, hw1⟩ : ∃ w1, w1 = (w.alloc (.cells #[.slice S p.sec.length c1, .slice P p.par.length c2, .slice B p.blk.length c3] 26)).alloc (.cells #[.slice NA inp.nums.length nc, .slice BA inp.bufs.length bc] 43) := ⟨_, rfl⟩
  have hb1 : Below w.heap.size w w1 := by rw [hw1]; exact ((Below.refl w.heap.size w).alloc (Nat.le_refl _) _).alloc (by simp) _
  have BP : Bk w1 w.heap.size #[.slice S p.sec.length c1, .slice P p.par.length c2, .slice B p.blk.length c3] 26 := by rw [hw1]; exact (Bk.new w _ _).alloc _
  have BI : Bk w1 (w.heap.size + 1) #[.slice NA inp.nums.length nc, .slice BA inp.bufs.length bc] 43 := by rw [hw1]; exact Bk.newAt _ _ (by simp)
  have HL := Lib.hid (large_c p w1 S P B c1 c2 c3 (hB.mono hb1) hm hops)
  go_enter Tryz.func18, Tryz.ntmps18
  go_upto_region 1 with (fail)
  rw [← hw1]
  clear hw1
  have CP := BP.cell
  go_wp2_with fail
  refine HL.out.mono ?_
  rintro e w2 ⟨r, rfl, hr, hb2⟩
  have hbw := bt hb1 hb2
  have BI2 := BI.mono hb2
  have CI := BI2.cell
  have HR := Lib.hid hr
  clear hr CP
  cases r with
  | true =>
    go_wp2_with fail
    go_ret
    exact ⟨_, rfl, fun h => by simp at h, hbw⟩
  | false =>
    have hs := HR.out rfl
    have HS := Lib.hid hs
    clear hs HR
    go_wp2_with fail
    all_goals
      go_ret
      exact ⟨_, rfl, fun h => by first | exact absurd h (by decide) | exact ⟨HS.out, by omega, by omega⟩ | (simp at h; exact ⟨HS.out, by omega, by omega⟩), hbw⟩
end Go.Proofs.YtoabiignjkcdmaaGreat

namespace Go.Proofs.YtoabiignjkcdmaaGreat
open Go.RowKit Go.Proofs.YtoabiignjkcdmaaGreatW.PrintLast
set_option linter.unusedVariables false
set_option linter.unusedSimpArgs false

section
variable {P : Program}
theorem run_append_none (base : Nat) (t ty e : TypeId) (i : TypeInfo) (size c : Nat) (ht : P.underlying t = some (.slice e)) (hi : P.info? e = some i)
    (v : Value) (n : Nat) (xs : List Value) {w : World} (hown : w.ownsRow base e size v n xs) :
    (Builtin.append_ #[t, t] ty #[v, .slice none 0 c]).run P w = .ok v w := by
  rcases hown.2 with ⟨rfl, rfl⟩ | ⟨g, cap, cur, rfl, _, _, hnc, _⟩
  · simp [Builtin.append_, run_underlying ht, sizeOf, typeInfo, hi, Builtin.lenOf, Builtin.firstCells]
  · simp [Builtin.append_, run_underlying ht, sizeOf, typeInfo, hi, Builtin.lenOf, Builtin.firstCells, hnc, storeCells]
theorem flat_len {α : Type} (f : α → List Value) (sz : Nat) (hf : ∀ x, (f x).length = sz) : ∀ xs : List α, (xs.flatMap f).length = xs.length * sz
  | [] => by simp
  | x :: xs => by rw [List.flatMap_cons, List.length_append, hf, flat_len f sz hf xs, List.length_cons, Nat.add_mul]; omega
theorem flat_get {α : Type} (f : α → List Value) (sz : Nat) (hf : ∀ x, (f x).length = sz) : ∀ (xs : List α) (i : Nat) (hi : i < xs.length) (j : Nat), j < sz → (xs.flatMap f)[i * sz + j]? = (f xs[i])[j]?
  | x :: xs, 0, hi, j, hj => by
    rw [List.flatMap_cons, Nat.zero_mul, Nat.zero_add, List.getElem?_append_left (by rw [hf]; exact hj)]
    rfl
  | x :: xs, i + 1, hi, j, hj => by
    rw [List.flatMap_cons, List.getElem?_append_right (by rw [hf, Nat.add_mul]; omega), hf, show (i + 1) * sz + j - sz = i * sz + j by rw [Nat.add_mul]; omega, flat_get f sz hf xs i (by simpa using hi) j hj]
    rfl
/-- append(v, row...), the row of a kind that leads nowhere: nil, empty or not. -/
theorem run_append_flat {α : Type} (f : α → List Value) (sz : Nat) (hf : ∀ x, (f x).length = sz) (h1 : ∀ x, ∀ u ∈ f x, u.oneCell' = true) (t ty e : TypeId) (z : Value) (bytes : Nat) (ht : P.underlying t = some (.slice e)) (hinfo : (P.info? e).map (fun i => (i.zero, i.size, i.bytes)) = some (some z, sz, bytes)) (hz : z.cells.size = sz) (hs0 : 0 < sz)
    {w : World} (base : Nat) (v : Value) (n : Nat) (xs : List Value) (hown : w.ownsRow base e sz v n xs) (A : Option Addr) (c : Nat) (ts : List α) (hr : (Kd.flat sz f hf).Row w A ts) (h63 : n + ts.length ≤ 9223372036854775807) (hby : (n + ts.length) * bytes ≤ 140737488355328) (hbase : base ≤ w.heap.size) :
    ∃ v' w', (Builtin.append_ #[t, t] ty #[v, .slice A ts.length c]).run P w = .ok v' w' ∧ w'.ownsRow base e sz v' (n + ts.length) (xs ++ ts.flatMap f) ∧ w.grownBy w' v.ownBlock := by
  obtain ⟨i0, hi, hz0, hz1, hz2⟩ := info_parts hinfo
  cases A with
  | none =>
    have h0 : ts = [] := by
      rcases hr with h | ⟨b, o, e, _⟩
      · exact h
      · cases e
    subst h0
    exact ⟨v, w, run_append_none base t ty e i0 sz c ht hi v n xs hown, by simpa using hown, ⟨rfl, rfl, rfl, Nat.le_refl _, fun _ _ _ => rfl⟩⟩
  | some ad =>
    obtain ⟨v', w', g0, g1, g2, _⟩ := run_append_own (P := P) w base t ty e i0 z sz bytes ht hi hz0 hz1 hz2 hz hs0 v n xs hown ad ts.length c (ts.flatMap f) (flat_len f sz hf ts) (fun j u hu => by
      have hj : j < ts.length * sz := by rw [← flat_len f sz hf ts]; exact (List.getElem?_eq_some_iff.1 hu).1
      rcases hr with h | ⟨b, o, e, hc⟩
      · subst h; simp at hj
      injection e with e
      subst e
      have hij : j / sz < ts.length := Nat.div_lt_of_lt_mul (by rw [Nat.mul_comm]; exact hj)
      have hjm : j % sz < sz := Nat.mod_lt _ hs0
      have hd : j = j / sz * sz + j % sz := by rw [Nat.mul_comm]; exact (Nat.div_add_mod j sz).symm
      obtain ⟨cs, e1, e2⟩ := hc (j / sz) hij
      have e1' : cs = f ts[j / sz] := e1
      subst e1'
      have e3 := e2 (j % sz) (by rw [hf]; exact hjm)
      have e4 : (f ts[j / sz])[j % sz]? = some u := by
        rw [← flat_get f sz hf ts (j / sz) hij (j % sz) hjm, ← hd]
        exact hu
      have e5 : ((⟨b, o, none⟩ : Addr).add j) = ⟨b, o + j, none⟩ := Addr.add_mid b o j
      rw [e5, show o + j = o + j / sz * sz + j % sz by omega]
      have e6 : (f ts[j / sz])[j % sz]'(by rw [hf]; exact hjm) = u := by
        rw [List.getElem?_eq_getElem (by rw [hf]; exact hjm)] at e4
        injection e4
      rw [← e6]
      exact e3) (fun u hu => by
      obtain ⟨x, _, hx⟩ := List.mem_flatMap.1 hu
      exact h1 x u hx) (by unfold maxLen; omega) hby hbase
    exact ⟨v', w', g0, g1, g2⟩
theorem wp_append_flat {α : Type} (f : α → List Value) (sz : Nat) (hf : ∀ x, (f x).length = sz) (h1 : ∀ x, ∀ u ∈ f x, u.oneCell' = true) {o : Oper} {a : Act} {K : Act → World → Prop} {Q : Exit → Act → World → Prop} {w : World} (s x : Operand) (t e : TypeId) (z : Value) (bytes : Nat)
    (ho : o.op = .call { callee := .builtin .append, args := #[s, x], argTypes := #[t, t] }) (ht : P.underlying t = some (.slice e)) (hinfo : (P.info? e).map (fun i => (i.zero, i.size, i.bytes)) = some (some z, sz, bytes)) (hz : z.cells.size = sz) (hs0 : 0 < sz)
    (base : Nat) (v : Value) (n : Nat) (xs : List Value) (hs : a.eval s = v) (hown : w.ownsRow base e sz v n xs) (A : Option Addr) (c : Nat) (ts : List α) (hx : a.eval x = .slice A ts.length c) (hr : (Kd.flat sz f hf).Row w A ts) (h63 : n + ts.length ≤ 9223372036854775807) (hby : (n + ts.length) * bytes ≤ 140737488355328) (hbase : base ≤ w.heap.size)
    (h : ∀ v' w', w'.ownsRow base e sz v' (n + ts.length) (xs ++ ts.flatMap f) → w.grownBy w' v.ownBlock → K (a.put o.dst v') w') : o.wp P a w K Q := by
  obtain ⟨v', w', hr', h2, h3⟩ := run_append_flat (P := P) f sz hf h1 t o.type e z bytes ht hinfo hz hs0 base v n xs hown A c ts hr h63 hby hbase
  unfold Oper.wp execOp
  simp only [ho, resolve, invoke, builtin, Sem.run_bind, Sem.run_pure, Result.andThen_ok, List.map_toArray, List.map_cons, List.map_nil, hs, hx, hr']
  exact h v' w' h2 h3
theorem step_append_flat {α : Type} (f : α → List Value) (sz : Nat) (hf : ∀ x, (f x).length = sz) (h1 : ∀ x, ∀ u ∈ f x, u.oneCell' = true) {ops : Array Oper} {o : Oper} {a : Act} {K : Act → World → Prop} {Q : Exit → Act → World → Prop} {E : Prop} {w : World} (hgd : o.guard = none) (s x : Operand) (t e : TypeId) (z : Value) (bytes : Nat)
    (ho : o.op = .call { callee := .builtin .append, args := #[s, x], argTypes := #[t, t] }) (ht : P.underlying t = some (.slice e)) (hinfo : (P.info? e).map (fun i => (i.zero, i.size, i.bytes)) = some (some z, sz, bytes)) (hz : z.cells.size = sz) (hs0 : 0 < sz)
    (base : Nat) (v : Value) (n : Nat) (xs : List Value) (hs : a.eval s = v) (hown : w.ownsRow base e sz v n xs) (A : Option Addr) (c : Nat) (ts : List α) (hx : a.eval x = .slice A ts.length c) (hr : (Kd.flat sz f hf).Row w A ts) (h63 : n + ts.length ≤ 9223372036854775807) (hby : (n + ts.length) * bytes ≤ 140737488355328) (hbase : base ≤ w.heap.size)
    (h : ∀ v' w', w'.ownsRow base e sz v' (n + ts.length) (xs ++ ts.flatMap f) → w.grownBy w' v.ownBlock → K (a.put o.dst v') w') : if Region.wanted o (yielded ops a.tmps) = true then Oper.wp P o a w K Q else E := by
  have hw : Region.wanted o (yielded ops a.tmps) = true := by simp [Region.wanted, hgd]
  rw [if_pos hw]
  exact wp_append_flat f sz hf h1 s x t e z bytes ho ht hinfo hz hs0 base v n xs hs hown A c ts hx hr h63 hby hbase h
theorem wpList_append_flat {α : Type} (f : α → List Value) (sz : Nat) (hf : ∀ x, (f x).length = sz) (h1 : ∀ x, ∀ u ∈ f x, u.oneCell' = true) {ops : Array Oper} {rest : List Oper} {o : Oper} {a : Act} {Q : Exit → Act → World → Prop} {w : World} (hgd : o.guard = none) (s x : Operand) (t e : TypeId) (z : Value) (bytes : Nat)
    (ho : o.op = .call { callee := .builtin .append, args := #[s, x], argTypes := #[t, t] }) (ht : P.underlying t = some (.slice e)) (hinfo : (P.info? e).map (fun i => (i.zero, i.size, i.bytes)) = some (some z, sz, bytes)) (hz : z.cells.size = sz) (hs0 : 0 < sz)
    (base : Nat) (v : Value) (n : Nat) (xs : List Value) (hs : a.eval s = v) (hown : w.ownsRow base e sz v n xs) (A : Option Addr) (c : Nat) (ts : List α) (hx : a.eval x = .slice A ts.length c) (hr : (Kd.flat sz f hf).Row w A ts) (h63 : n + ts.length ≤ 9223372036854775807) (hby : (n + ts.length) * bytes ≤ 140737488355328) (hbase : base ≤ w.heap.size)
    (h : ∀ v' w', w'.ownsRow base e sz v' (n + ts.length) (xs ++ ts.flatMap f) → w.grownBy w' v.ownBlock → wpList P ops Q rest (a.put o.dst v') w') : wpList P ops Q (o :: rest) a w :=
  wpList_plain hgd fun K hK => wp_append_flat f sz hf h1 s x t e z bytes ho ht hinfo hz hs0 base v n xs hs hown A c ts hx hr h63 hby hbase fun v' w' h2 h3 => hK _ _ (h v' w' h2 h3)
end
theorem row_of_flat {α : Type} {f : α → List Value} {sz : Nat} {hf : ∀ x, (f x).length = sz} {w : World} {B n c : Nat} {e : TypeId} {A : Option Addr} {xs : List α} (h : w.ownsRow B e sz (.slice A n c) n (xs.flatMap f)) (hn : n = xs.length) : (Kd.flat sz f hf).Row w A xs := by
  subst hn
  by_cases h0 : xs = []
  · exact .inl h0
  obtain ⟨g, c', e', _, _⟩ := h.form (List.length_pos_iff.2 h0)
  injection e' with e1 _ e3
  subst e1 e3
  refine .inr ⟨g, 0, rfl, fun i hi => ⟨f xs[i], rfl, fun j hj => ?_⟩⟩
  have hj' : j < sz := by rw [hf] at hj; exact hj
  have hlt : i * sz + j < xs.length * sz := by
    have : (i + 1) * sz ≤ xs.length * sz := Nat.mul_le_mul_right _ hi
    rw [Nat.add_mul] at this
    omega
  have := World.ownsRow.cellAt h (i * sz + j) hlt
  show w.cell? ⟨g, 0 + i * sz + j, none⟩ = _
  rw [Nat.zero_add, this, flat_get f sz hf xs i hi j hj', List.getElem?_eq_getElem hj]
def blkC (b : SBlock) (ov : Value) : List Value := [ov, .int .u8 b.e, .int .i64 b.a, .int .i64 b.go, .int .i64 b.els]
def blksC (bs : List SBlock) (ovs : List Value) : List Value := (List.zipWith blkC bs ovs).flatten
theorem infoBool : (Tryz.prog.info? 4).map (fun i => (i.zero, i.size, i.bytes)) = some (some (.bool false), 1, 1) := by kernel_rfl
theorem infoHanded : (Tryz.prog.info? 61).map (fun i => (i.zero, i.size, i.bytes)) = some (some (.agg #[.bool false, .bool false, .bool false, .int .i64 0, .int .i64 0]), 5, 24) := by kernel_rfl
theorem infoOp : (Tryz.prog.info? 54).map (fun i => (i.zero, i.size, i.bytes)) = some (some (.agg #[.int .u8 0, .int .u8 0, .int .i64 0, .int .i64 0, .int .i64 0, .int .u64 0]), 6, 40) := by kernel_rfl
theorem infoBlock : (Tryz.prog.info? 38).map (fun i => (i.zero, i.size, i.bytes)) = some (some (.agg #[.slice none 0 0, .int .u8 0, .int .i64 0, .int .i64 0, .int .i64 0]), 5, 56) := by kernel_rfl
/-- A program of the call's own. -/
structure Copied (base : Nat) (p : SIr) (w : World) (sv pv bv : Value) (ovs : List Value) : Prop where
  rs : w.ownsRow base 4 1 sv p.sec.length (p.sec.flatMap fun x => [.bool x])
  rp : w.ownsRow base 61 5 pv p.par.length (p.par.flatMap SHanded.cells)
  l : ovs.length = p.blk.length
  rb : w.ownsRow base 38 5 bv p.blk.length (blksC p.blk ovs)
  ro : ∀ i (h : i < p.blk.length) (h' : i < ovs.length), w.ownsRow base 54 6 ovs[i] p.blk[i].ops.length (p.blk[i].ops.flatMap SOp.cells)
theorem nil_own (w : World) (base sz : Nat) (e : TypeId) : w.ownsRow base e sz (.slice none 0 0) 0 [] := ⟨by simp, .inl ⟨rfl, rfl⟩⟩
abbrev zeroIr : Array Value := #[.slice none 0 0, .slice none 0 0, .slice none 0 0]
set_option maxRecDepth 100000 in
set_option maxHeartbeats 4000000 in
theorem copy_c (p : SIr) (w : World) (S P B : Option Addr) (c1 c2 c3 : Nat) (hS : kBool.Row w S p.sec) (hP : kHanded.Row w P p.par) (hB : kBlock.Row w B p.blk) (hsm : Small p) :
    Calls Tryz.prog 10 #[.agg #[.slice S p.sec.length c1, .slice P p.par.length c2, .slice B p.blk.length c3]] w fun e w' => ∃ sv pv bv ovs, e = .returned (.agg #[sv, pv, bv]) ∧ Copied w.heap.size p w' sv pv bv ovs ∧ Below w.heap.size w w' := by
  obtain ⟨m1, m2, m3, m4⟩ := hsm
  have hops : ∀ b ∈ p.blk, b.ops.length ≤ 3000 := (⟨m1, m2, m3, m4⟩ : Small p).each
  obtain ⟨W, hW⟩ : ∃ W, W = (w.alloc (.cells #[.slice S p.sec.length c1, .slice P p.par.length c2, .slice B p.blk.length c3] 26)).alloc (.cells zeroIr 26) := ⟨_, rfl⟩
  have hbW : Below w.heap.size w W := by rw [hW]; exact ((Below.refl w.heap.size w).alloc (Nat.le_refl _) _).alloc (by simp) _
  have BP : Bk W w.heap.size #[.slice S p.sec.length c1, .slice P p.par.length c2, .slice B p.blk.length c3] 26 := by rw [hW]; exact (Bk.new w _ _).alloc _
  have BQ : Bk W (w.heap.size + 1) zeroIr 26 := by rw [hW]; exact Bk.newAt _ _ (by simp)
  go_enter Tryz.func10, Tryz.ntmps10
  go_upto_region 1 with (fail)
  rw [← hW]
  have hWS : W.heap.size = w.heap.size + 2 := by rw [hW]; simp
  clear hW
  have CS : ∀ V, Below W.heap.size W V → V.cell? ⟨w.heap.size, 0, none⟩ = some (.slice S p.sec.length c1) ∧ V.cell? ⟨w.heap.size, 1, none⟩ = some (.slice P p.par.length c2) := fun V hV => ⟨cm (BP.cell 0) hV, cm (BP.cell 1) hV⟩
  have HCS := Lib.hid CS
  have HSR : Hid (∀ V, Below W.heap.size W V → kBool.Row V S p.sec) := Lib.hid (fun V hV => hS.mono (bt hbW hV))
  have HPR : Hid (∀ V, Below W.heap.size W V → kHanded.Row V P p.par) := Lib.hid (fun V hV => hP.mono (bt hbW hV))
  have hws : w.heap.size ≤ W.heap.size := hbW.size
  have hgw : w.heap.size + 2 ≤ W.heap.size := by omega
  clear hWS
  clear CS
  refine start_ (n := 9) (S := fun w' => w'.cell? ⟨w.heap.size, 0, none⟩ = some (.slice S p.sec.length c1) ∧ w'.cell? ⟨w.heap.size, 1, none⟩ = some (.slice P p.par.length c2)) (ds := [8]) (bz 9 0) (by kernel_rfl) rfl rfl (HCS.out _ (Below.refl _ _).drew) (fun hHeld => ?_)
  refine pure_ (i := 0) (N := (some 6)) (v := ?_) (a' := ?_) (bz 9 1) rfl rfl (by kernel_rfl) (fun _ _ _ h => h) (Or.inl ⟨by rfl, ?_⟩) ?_ ?_
  rotate_left
  · intro w'
    go_simp
    with_reducible rfl
  rotate_left
  · simp only [Act.put, sa_, sb_, sc_]
    rfl
  refine pure_ (i := 3) (N := (some 9)) (v := ?_) (a' := ?_) (bz 9 9) rfl rfl (by kernel_rfl) (fun _ _ _ h => h) (Or.inl ⟨by rfl, ?_⟩) ?_ ?_
  rotate_left
  · intro w'
    go_simp
    with_reducible rfl
  rotate_left
  · simp only [Act.put, sa_, sb_, sc_]
    rfl
  refine take_ (i := 1) (N := (some 7)) (v := ?_) (a' := ?_) (bz 9 11) rfl rfl (by kernel_rfl) (fun _ _ _ h => h) (Or.inl ⟨by rfl, ?_⟩) hHeld ?_ ?_
  rotate_left
  · rintro w' ⟨s0, s1⟩
    go_simp
    with_reducible rfl
  rotate_left
  · simp only [Act.put, sa_, sb_, sc_]
    rfl
  refine take_ (i := 4) (N := (some 10)) (v := ?_) (a' := ?_) (bz 9 27) rfl rfl (by kernel_rfl) (fun _ _ _ h => h) (Or.inl ⟨by rfl, ?_⟩) hHeld ?_ ?_
  rotate_left
  · rintro w' ⟨s0, s1⟩
    go_simp
    with_reducible rfl
  rotate_left
  · simp only [Act.put, sa_, sb_, sc_]
    rfl
  refine join_ (σ := Value × Value × Nat) 1 (bz 9 255) (fun s => [(8, s.1), (11, s.2.1), (12, .agg #[s.1, s.2.1, .slice none 0 0]), (3, .pointer (some ⟨s.2.2, 0, none⟩))]) (fun s w' => Below W.heap.size W w' ∧ w'.ownsRow w.heap.size 4 1 s.1 p.sec.length (p.sec.flatMap fun x => [.bool x]) ∧ w'.ownsRow w.heap.size 61 5 s.2.1 p.par.length (p.par.flatMap SHanded.cells) ∧ Bk w' s.2.2 zeroIr 26 ∧ W.heap.size ≤ s.2.2) ?_ (fun HC => ?_)
  rotate_left
  · refine two_ (i := 2) (j := 7) (Ni := (some 8)) (Nj := (some 3)) (bz 9 31) (bz 9 155) rfl rfl rfl rfl (by kernel_rfl) (by decide) (by decide) (fun K hK => ?_) (fun K hK => ?_)
    · refine step_append_flat (fun x : Bool => [.bool x]) 1 (fun _ => rfl) (fun x u hu => by simp at hu; subst hu; rfl) (by rfl) _ _ 22 4 (.bool false) 1 (by rfl) Tryz.underlying22 infoBool rfl (by decide) w.heap.size (.slice none 0 0) 0 [] (by rfl) (nil_own _ _ _ _) S c1 p.sec (by rfl) (HSR.out _ (Below.refl W.heap.size W).drew) (by omega) (by omega) (Nat.le_trans hws (Below.refl W.heap.size W).drew.size) ?_
      intro sv wA hosv hgs
      rw [Nat.zero_add, List.nil_append] at hosv
      obtain ⟨sa, sc, rfl⟩ := own_shape' hosv
      have hbA : Below W.heap.size W wA := (Below.refl W.heap.size W).drew.grown hgs (Below.refl W.heap.size W).drew.size (fun k e => by cases e)
      refine hK.out _ _ (HCS.out _ hbA) (fun hHeld => ?_)
      clear hK K
      refine norm_ (a' := ?_) ?_ ?_
      rotate_left
      · show Act.put _ (some 8) _ = _
        simp only [Act.put, sa_, sb_, sc_]
        rfl
      refine two_ (i := 5) (j := 7) (Ni := (some 11)) (Nj := (some 3)) (bz 9 63) (bz 9 159) rfl rfl rfl rfl (by kernel_rfl) (by decide) (by decide) (fun K hK => ?_) (fun K hK => ?_)
      · refine step_append_flat SHanded.cells 5 (fun _ => rfl) (fun x u hu => by simp [SHanded.cells] at hu; rcases hu with rfl | rfl | rfl | rfl | rfl <;> rfl) (by rfl) _ _ 23 61 (.agg #[.bool false, .bool false, .bool false, .int .i64 0, .int .i64 0]) 24 (by rfl) Tryz.underlying23 infoHanded rfl (by decide) w.heap.size (.slice none 0 0) 0 [] (by rfl) (nil_own _ _ _ _) P c2 p.par (by rfl) (HPR.out _ hbA) (by omega) (by omega) (Nat.le_trans hws hbA.size) ?_
        intro pv wB hopv hgp
        rw [Nat.zero_add, List.nil_append] at hopv
        obtain ⟨pa, pc, rfl⟩ := own_shape' hopv
        have hbB : Below W.heap.size W wB := hbA.grown hgp hbA.size (fun k e => by cases e)
        refine hK.out _ _ (HCS.out _ hbB) (fun hHeld => ?_)
        clear hK K
        refine norm_ (a' := ?_) ?_ ?_
        rotate_left
        · show Act.put _ (some 11) _ = _
          simp only [Act.put, sa_, sb_, sc_]
          rfl
        refine pure_ (i := 6) (N := (some 12)) (v := ?_) (a' := ?_) (bz 9 127) rfl rfl (by kernel_rfl) (fun _ _ _ h => h) (Or.inl ⟨by rfl, ?_⟩) ?_ ?_
        rotate_left
        · intro w'
          go_simp
          with_reducible rfl
        rotate_left
        · simp only [Act.put, sa_, sb_, sc_]
          rfl
        refine one_ (i := 7) (N := (some 3)) (bz 9 255) rfl rfl (by kernel_rfl) (by decide) (fun K hK => ?_)
        obtain ⟨wC, hwC⟩ : ∃ V, V = wB.alloc (.cells zeroIr 26) := ⟨_, rfl⟩
        have hbC : Below W.heap.size W wC := by rw [hwC]; exact hbB.alloc hbB.size _
        have hxtwC : Below wB.heap.size wB wC := by rw [hwC]; exact (Below.refl _ _).alloc (Nat.le_refl _) _
        have hkwC : Bk wC wB.heap.size zeroIr 26 := by rw [hwC]; exact Bk.new wB _ _
        refine value_ (v := .pointer (some ⟨wB.heap.size, 0, none⟩)) (w1 := wC) (by rfl) rfl ?_ ?_
        · rw [hwC]
          go_simp
        clear hwC
        refine hK.out _ _ (HCS.out _ hbC) (fun hHeld => ?_)
        clear hK K
        refine norm_ (a' := ?_) ?_ ?_
        rotate_left
        · show Act.put _ (some 3) _ = _
          simp only [Act.put, sa_, sb_, sc_]
          rfl
        refine norm_ (by simp only [putAll, Act.put, List.setIfInBounds_toArray, List.set_cons_zero, List.set_cons_succ]) (HC (.slice sa p.sec.length sc, .slice pa p.par.length pc, wB.heap.size) _ ⟨hbC, own_below (own_kept hosv hgp (fun g e => by cases e)) hxtwC, own_below hopv hxtwC, hkwC, hbB.size⟩)
      · obtain ⟨wB, hwB⟩ : ∃ V, V = wA.alloc (.cells zeroIr 26) := ⟨_, rfl⟩
        have hbB : Below W.heap.size W wB := by rw [hwB]; exact hbA.alloc hbA.size _
        have hxtwB : Below wA.heap.size wA wB := by rw [hwB]; exact (Below.refl _ _).alloc (Nat.le_refl _) _
        have hkwB : Bk wB wA.heap.size zeroIr 26 := by rw [hwB]; exact Bk.new wA _ _
        refine value_ (v := .pointer (some ⟨wA.heap.size, 0, none⟩)) (w1 := wB) (by rfl) rfl ?_ ?_
        · rw [hwB]
          go_simp
        clear hwB
        refine hK.out _ _ (HCS.out _ hbB) (fun hHeld => ?_)
        clear hK K
        refine norm_ (a' := ?_) ?_ ?_
        rotate_left
        · show Act.put _ (some 3) _ = _
          simp only [Act.put, sa_, sb_, sc_]
          rfl
        refine one_ (i := 5) (N := (some 11)) (bz 9 191) rfl rfl (by kernel_rfl) (by decide) (fun K hK => ?_)
        refine step_append_flat SHanded.cells 5 (fun _ => rfl) (fun x u hu => by simp [SHanded.cells] at hu; rcases hu with rfl | rfl | rfl | rfl | rfl <;> rfl) (by rfl) _ _ 23 61 (.agg #[.bool false, .bool false, .bool false, .int .i64 0, .int .i64 0]) 24 (by rfl) Tryz.underlying23 infoHanded rfl (by decide) w.heap.size (.slice none 0 0) 0 [] (by rfl) (nil_own _ _ _ _) P c2 p.par (by rfl) (HPR.out _ hbB) (by omega) (by omega) (Nat.le_trans hws hbB.size) ?_
        intro pv wC hopv hgp
        rw [Nat.zero_add, List.nil_append] at hopv
        obtain ⟨pa, pc, rfl⟩ := own_shape' hopv
        have hbC : Below W.heap.size W wC := hbB.grown hgp hbB.size (fun k e => by cases e)
        refine hK.out _ _ (HCS.out _ hbC) (fun hHeld => ?_)
        clear hK K
        refine norm_ (a' := ?_) ?_ ?_
        rotate_left
        · show Act.put _ (some 11) _ = _
          simp only [Act.put, sa_, sb_, sc_]
          rfl
        refine pure_ (i := 6) (N := (some 12)) (v := ?_) (a' := ?_) (bz 9 255) rfl rfl (by kernel_rfl) (fun _ _ _ h => h) (Or.inl ⟨by rfl, ?_⟩) ?_ ?_
        rotate_left
        · intro w'
          go_simp
          with_reducible rfl
        rotate_left
        · simp only [Act.put, sa_, sb_, sc_]
          rfl
        refine norm_ (by simp only [putAll, Act.put, List.setIfInBounds_toArray, List.set_cons_zero, List.set_cons_succ]) (HC (.slice sa p.sec.length sc, .slice pa p.par.length pc, wA.heap.size) _ ⟨hbC, own_kept (own_below hosv hxtwB) hgp (fun g e => by cases e), hopv, hkwB.grown hgp (by simp [Value.ownBlock]), hbA.size⟩)
    · obtain ⟨wA, hwA⟩ : ∃ V, V = W.drew.alloc (.cells zeroIr 26) := ⟨_, rfl⟩
      have hbA : Below W.heap.size W wA := by rw [hwA]; exact (Below.refl W.heap.size W).drew.alloc (Below.refl W.heap.size W).drew.size _
      have hxtwA : Below W.drew.heap.size W.drew wA := by rw [hwA]; exact (Below.refl _ _).alloc (Nat.le_refl _) _
      have hkwA : Bk wA W.drew.heap.size zeroIr 26 := by rw [hwA]; exact Bk.new W.drew _ _
      refine value_ (v := .pointer (some ⟨W.drew.heap.size, 0, none⟩)) (w1 := wA) (by rfl) rfl ?_ ?_
      · rw [hwA]
        go_simp
      clear hwA
      refine hK.out _ _ (HCS.out _ hbA) (fun hHeld => ?_)
      clear hK K
      refine norm_ (a' := ?_) ?_ ?_
      rotate_left
      · show Act.put _ (some 3) _ = _
        simp only [Act.put, sa_, sb_, sc_]
        rfl
      refine one_ (i := 2) (N := (some 8)) (bz 9 159) rfl rfl (by kernel_rfl) (by decide) (fun K hK => ?_)
      refine step_append_flat (fun x : Bool => [.bool x]) 1 (fun _ => rfl) (fun x u hu => by simp at hu; subst hu; rfl) (by rfl) _ _ 22 4 (.bool false) 1 (by rfl) Tryz.underlying22 infoBool rfl (by decide) w.heap.size (.slice none 0 0) 0 [] (by rfl) (nil_own _ _ _ _) S c1 p.sec (by rfl) (HSR.out _ hbA) (by omega) (by omega) (Nat.le_trans hws hbA.size) ?_
      intro sv wB hosv hgs
      rw [Nat.zero_add, List.nil_append] at hosv
      obtain ⟨sa, sc, rfl⟩ := own_shape' hosv
      have hbB : Below W.heap.size W wB := hbA.grown hgs hbA.size (fun k e => by cases e)
      refine hK.out _ _ (HCS.out _ hbB) (fun hHeld => ?_)
      clear hK K
      refine norm_ (a' := ?_) ?_ ?_
      rotate_left
      · show Act.put _ (some 8) _ = _
        simp only [Act.put, sa_, sb_, sc_]
        rfl
      refine one_ (i := 5) (N := (some 11)) (bz 9 191) rfl rfl (by kernel_rfl) (by decide) (fun K hK => ?_)
      refine step_append_flat SHanded.cells 5 (fun _ => rfl) (fun x u hu => by simp [SHanded.cells] at hu; rcases hu with rfl | rfl | rfl | rfl | rfl <;> rfl) (by rfl) _ _ 23 61 (.agg #[.bool false, .bool false, .bool false, .int .i64 0, .int .i64 0]) 24 (by rfl) Tryz.underlying23 infoHanded rfl (by decide) w.heap.size (.slice none 0 0) 0 [] (by rfl) (nil_own _ _ _ _) P c2 p.par (by rfl) (HPR.out _ hbB) (by omega) (by omega) (Nat.le_trans hws hbB.size) ?_
      intro pv wC hopv hgp
      rw [Nat.zero_add, List.nil_append] at hopv
      obtain ⟨pa, pc, rfl⟩ := own_shape' hopv
      have hbC : Below W.heap.size W wC := hbB.grown hgp hbB.size (fun k e => by cases e)
      refine hK.out _ _ (HCS.out _ hbC) (fun hHeld => ?_)
      clear hK K
      refine norm_ (a' := ?_) ?_ ?_
      rotate_left
      · show Act.put _ (some 11) _ = _
        simp only [Act.put, sa_, sb_, sc_]
        rfl
      refine pure_ (i := 6) (N := (some 12)) (v := ?_) (a' := ?_) (bz 9 255) rfl rfl (by kernel_rfl) (fun _ _ _ h => h) (Or.inl ⟨by rfl, ?_⟩) ?_ ?_
      rotate_left
      · intro w'
        go_simp
        with_reducible rfl
      rotate_left
      · simp only [Act.put, sa_, sb_, sc_]
        rfl
      refine norm_ (by simp only [putAll, Act.put, List.setIfInBounds_toArray, List.set_cons_zero, List.set_cons_succ]) (HC (.slice sa p.sec.length sc, .slice pa p.par.length pc, W.drew.heap.size) _ ⟨hbC, own_kept hosv hgp (fun g e => by cases e), hopv, (hkwA.grown hgs (by simp [Value.ownBlock])).grown hgp (by simp [Value.ownBlock]), Nat.le_refl _⟩)
  rintro ⟨sv, pv, gx⟩ w8 ⟨hb8, hosv, hopv, hx8, hgx⟩
  refine norm_ (a' := ?_) ?_ ?_
  rotate_left
  · simp only [putAll, Act.put, List.setIfInBounds_toArray, List.set_cons_zero, List.set_cons_succ]
    rfl
  simp only at hosv hopv hx8 hgx
  have CX8 := hx8.cell
  have FX8 := hx8.free
  obtain ⟨sa, sc, rfl⟩ := own_shape' hosv
  obtain ⟨pa, pc, rfl⟩ := own_shape' hopv
  refine last_ (i := 8) (N := none) (bz 9 511) rfl rfl (by kernel_rfl) (by decide) (fun K hK => ?_)
  refine skip_ (w1 := ?_) (by rfl) rfl ?_ ?_
  rotate_left
  · go_simp
    rfl
  refine hK.out _ _ ?_
  clear hK K
  refine done_ (by kernel_rfl) ?_
  have hst3 : Bk (((w8.setCell ⟨gx, 0, none⟩ (.slice sa p.sec.length sc)).setCell ⟨gx, 1, none⟩ (.slice pa p.par.length pc)).setCell ⟨gx, 2, none⟩ (.slice none 0 0)) gx #[.slice sa p.sec.length sc, .slice pa p.par.length pc, .slice none 0 0] 26 := ((hx8.set 0 _).set 1 _).set 2 _
  have hg3 : w8.grownBy (((w8.setCell ⟨gx, 0, none⟩ (.slice sa p.sec.length sc)).setCell ⟨gx, 1, none⟩ (.slice pa p.par.length pc)).setCell ⟨gx, 2, none⟩ (.slice none 0 0)) (some gx) := grown_trans (grown_trans (set_grown w8 gx 0 _) (set_grown _ gx 1 _)) (set_grown _ gx 2 _)
  obtain ⟨W9, hW9⟩ : ∃ W9, W9 = (((w8.setCell ⟨gx, 0, none⟩ (.slice sa p.sec.length sc)).setCell ⟨gx, 1, none⟩ (.slice pa p.par.length pc)).setCell ⟨gx, 2, none⟩ (.slice none 0 0)) := ⟨_, rfl⟩
  rw [← hW9] at hst3 hg3 ⊢
  have hb9 : Below W.heap.size W W9 := hb8.grown hg3 hb8.size (fun k e => by cases e; exact hgx)
  have hos9 := own_kept hosv hg3 (fun g e => by cases e; exact own_not hosv hx8 (by decide))
  have hop9 := own_kept hopv hg3 (fun g e => by cases e; exact own_not hopv hx8 (by decide))
  have hbw9 := bt hbW hb9
  have BP9 := BP.mono hb9
  have BQ9 := BQ.mono hb9
  clear hW9 hb8 hosv hopv hx8 CX8 FX8 hg3 hHeld HSR HPR HCS BP BQ hb9
  go_wp2_with fail
  go_loopw [4] (fun s wr => ∃ (k : Nat) (bv : Value) (ovs : List Value), s = .int .i64 k ∧ k ≤ p.blk.length ∧ Bk wr gx #[.slice sa p.sec.length sc, .slice pa p.par.length pc, bv] 26 ∧ wr.ownsRow w.heap.size 4 1 (.slice sa p.sec.length sc) p.sec.length (p.sec.flatMap fun x => [.bool x]) ∧ wr.ownsRow w.heap.size 61 5 (.slice pa p.par.length pc) p.par.length (p.par.flatMap SHanded.cells) ∧
    ovs.length = k ∧ wr.ownsRow w.heap.size 38 5 bv k (blksC (p.blk.take k) ovs) ∧ (∀ i (h : i < p.blk.length) (h' : i < ovs.length), wr.ownsRow w.heap.size 54 6 ovs[i] p.blk[i].ops.length (p.blk[i].ops.flatMap SOp.cells)) ∧ Bk wr w.heap.size #[.slice S p.sec.length c1, .slice P p.par.length c2, .slice B p.blk.length c3] 26 ∧ Bk wr (w.heap.size + 1) zeroIr 26 ∧ Below w.heap.size w wr) (fun s _ => p.blk.length - (intOf s).toNat)
  case atStart => exact ⟨0, _, [], rfl, Nat.zero_le _, hst3, hos9, hop9, rfl, nil_own _ _ _ _, fun i h h' => by simp at h', BP9, BQ9, hbw9⟩
  case round =>
    clear hst3 hos9 hop9 BP9 BQ9 hbw9
    obtain ⟨k, bv, ovs, rfl, hk, hX, hos, hop, hol, hbo, hoo, hBP, hBQ, hb⟩ := hrel
    have CP := hBP.cell
    have HOO := Lib.hid hoo
    have HOL := Lib.hid hol
    obtain ⟨ba, bc, rfl⟩ := own_shape' hbo
    clear hoo hol
    by_cases hlt : k < p.blk.length
    · obtain ⟨bb, bo, O, oc, rfl, g0, g1, g2, g3, g4, gm, hO⟩ := kBlock_at (hB.mono hb) k hlt
      have hol := hops _ (List.getElem_mem hlt)
      obtain ⟨bk, hbk⟩ : ∃ bk, bk = p.blk[k] := ⟨_, rfl⟩
      rw [← hbk] at g0 g1 g2 g3 g4 gm hO hol
      have HBK := Lib.hid hbk
      clear hbk
      go_upto_region 6 with (fail)
      obtain ⟨Wb, hWb⟩ : ∃ Wb, Wb = wr.alloc (.cells #[.slice O bk.ops.length oc, .int .u8 bk.e, .int .i64 bk.a, .int .i64 bk.go, .int .i64 bk.els] 38) := ⟨_, rfl⟩
      rw [← hWb]
      have BB : Bk Wb wr.heap.size #[.slice O bk.ops.length oc, .int .u8 bk.e, .int .i64 bk.a, .int .i64 bk.go, .int .i64 bk.els] 38 := by rw [hWb]; exact Bk.new wr _ _
      have hbb : Below wr.heap.size wr Wb := by rw [hWb]; exact (Below.refl wr.heap.size wr).alloc (Nat.le_refl _) _
      clear hWb g0 g1 g2 g3 g4 CP
      have hXb := hX.mono hbb
      have hosb := own_below hos hbb
      have hopb := own_below hop hbb
      have hbob := own_below hbo hbb
      have HOOb : Hid (∀ i (h : i < p.blk.length) (h' : i < ovs.length), Wb.ownsRow w.heap.size 54 6 ovs[i] p.blk[i].ops.length (p.blk[i].ops.flatMap SOp.cells)) := Lib.hid fun i h h' => own_below (HOO.out i h h') hbb
      have hBPb := hBP.mono hbb
      have hBQb := hBQ.mono hbb
      have hbwb := bt hb hbb
      have hOb : kOp.Row Wb O bk.ops := hO.mono hbb
      obtain ⟨nb, hnb⟩ : ∃ nb, nb = wr.heap.size := ⟨_, rfl⟩
      rw [← hnb] at BB ⊢
      have hnb0 : w.heap.size ≤ nb := by rw [hnb]; exact hb.size
      have hbvn : ∀ g, (Value.slice ba k bc).ownBlock = some g → g ≠ nb := fun g e => by
        obtain ⟨cur, fz, hh⟩ := own_type hbo e
        have := (Array.getElem?_eq_some_iff.1 hh).1
        omega
      clear hX hos hop hbo HOO hBP hBQ hb hbb hO hnb
      have CB := BB.cell
      go_upto_region 7 with (at_builtin; refine wpList_append_flat SOp.cells 6 (fun _ => rfl) (fun x u hu => by simp [SOp.cells] at hu; rcases hu with rfl | rfl | rfl | rfl | rfl | rfl <;> rfl) rfl _ _ 36 54 (.agg #[.int .u8 0, .int .u8 0, .int .i64 0, .int .i64 0, .int .i64 0, .int .u64 0]) 40 rfl Tryz.underlying36 infoOp rfl (by decide) w.heap.size (.slice none 0 0) 0 [] rfl (nil_own _ _ _ _) O oc bk.ops rfl hOb (by omega) (by omega) hbwb.size ?_; intro ov w2 hov hgo; rw [Nat.zero_add, List.nil_append] at hov; obtain ⟨oa, occ, rfl⟩ := own_shape' hov; have BB2 := BB.grown hgo (by simp [Value.ownBlock]); clear CB; have CB := BB2.cell; have FB := BB2.free)
      obtain ⟨W3, hW3⟩ : ∃ W3, W3 = w2.setCell ⟨nb, 0, none⟩ (.slice oa bk.ops.length occ) := ⟨_, rfl⟩
      rw [← hW3]
      have hst := set_grown w2 nb 0 (.slice oa bk.ops.length occ)
      rw [← hW3] at hst
      have hX3 : Bk W3 gx #[.slice sa p.sec.length sc, .slice pa p.par.length pc, .slice ba k bc] 26 := (hXb.grown hgo (by simp [Value.ownBlock])).grown hst (fun e => by injection e with e; subst e; exact bk_ne (hXb.grown hgo (by simp [Value.ownBlock])) BB2 (by decide) rfl)
      have hos3 := own_kept (own_kept hosb hgo (fun g e => by cases e)) hst (fun g e => by cases e; exact own_not (own_kept hosb hgo (fun g e => by cases e)) BB2 (by decide))
      have hop3 := own_kept (own_kept hopb hgo (fun g e => by cases e)) hst (fun g e => by cases e; exact own_not (own_kept hopb hgo (fun g e => by cases e)) BB2 (by decide))
      have hbo3 := own_kept (own_kept hbob hgo (fun g e => by cases e)) hst (fun g e he => by cases e; exact hbvn _ he rfl)
      have hov3 := own_kept hov hst (fun g e => by cases e; exact own_not hov BB2 (by decide))
      have HOO3 : Hid (∀ i (h : i < p.blk.length) (h' : i < ovs.length), W3.ownsRow w.heap.size 54 6 ovs[i] p.blk[i].ops.length (p.blk[i].ops.flatMap SOp.cells)) := Lib.hid fun i h h' => own_kept (own_kept (HOOb.out i h h') hgo (fun g e => by cases e)) hst (fun g e => by cases e; exact own_not (own_kept (HOOb.out i h h') hgo (fun g e => by cases e)) BB2 (by decide))
      have hBP3 : Bk W3 w.heap.size #[.slice S p.sec.length c1, .slice P p.par.length c2, .slice (some ⟨bb, bo, none⟩) p.blk.length c3] 26 := (hBPb.grown hgo (by simp [Value.ownBlock])).grown hst (fun e => by injection e with e; subst e; exact bk_ne (hBPb.grown hgo (by simp [Value.ownBlock])) BB2 (by decide) rfl)
      have hBQ3 : Bk W3 (w.heap.size + 1) zeroIr 26 := (hBQb.grown hgo (by simp [Value.ownBlock])).grown hst (fun e => by injection e with e; subst e; exact bk_ne (hBQb.grown hgo (by simp [Value.ownBlock])) BB2 (by decide) rfl)
      have hbw3 : Below w.heap.size w W3 := (hbwb.grown hgo hbwb.size (fun k e => by cases e)).grown hst (Nat.le_trans hbwb.size hgo.size) (fun k e => by cases e; exact hnb0)
      have BB3 : Bk W3 nb #[.slice oa bk.ops.length occ, .int .u8 bk.e, .int .i64 bk.a, .int .i64 bk.go, .int .i64 bk.els] 38 := by rw [hW3]; exact BB2.set 0 _
      clear hW3 hst hgo hXb hosb hopb hbob hov HOOb hBPb hBQb hbwb hOb BB BB2 CB FB
      have CB := BB3.cell
      have CX := hX3.cell
      obtain ⟨i0, hi, hz0, hz1, hz2⟩ := info_parts infoBlock
      have hNB : Bk (W3.alloc (.cells #[.slice oa bk.ops.length occ, .int .u8 bk.e, .int .i64 bk.a, .int .i64 bk.go, .int .i64 bk.els] 38)) W3.heap.size #[.slice oa bk.ops.length occ, .int .u8 bk.e, .int .i64 bk.a, .int .i64 bk.go, .int .i64 bk.els] 38 := Bk.new W3 _ _
      have hba3 : Below W3.heap.size W3 (W3.alloc (.cells #[.slice oa bk.ops.length occ, .int .u8 bk.e, .int .i64 bk.a, .int .i64 bk.go, .int .i64 bk.els] 38)) := (Below.refl _ _).alloc (Nat.le_refl _) _
      have HNB := Lib.hid hNB
      have HBA3 := Lib.hid hba3
      clear hNB hba3
      go_wp2_with (at_builtin; go_must (refine wpList_append_lies _ rfl _ _ 24 rfl w.heap.size 38 i0 (.agg #[.slice none 0 0, .int .u8 0, .int .i64 0, .int .i64 0, .int .i64 0]) 5 56 Tryz.underlying24 hi hz0 hz1 hz2 rfl (by decide) (.slice ba k bc) k (blksC (p.blk.take k) ovs) rfl (own_below hbo3 HBA3.out) ⟨W3.heap.size, 0, none⟩ 1 1 (blkC bk (.slice oa bk.ops.length occ)) rfl rfl (fun j u hu => World.news_of_block HNB.out j u hu) (by simp [blkC, Value.oneCell']) (by decide) (by unfold maxLen; omega) (by omega) (Nat.le_trans hbw3.size HBA3.out.size) _ rfl ?_); intro ga cap w4 hbo4 hg4 _ _; have hg5 := grown_trans (grown_of_below HBA3.out (Value.slice ba k bc).ownBlock) hg4; have hX5 := hX3.grown hg5 (fun e => own_not hbo3 hX3 (by decide) e.symm); clear CX CB; have CX := hX5.cell; have FX := hX5.free)
      obtain ⟨bv9, hbv9⟩ : ∃ v : Value, v = .slice (some ⟨ga, 0, none⟩) (k + 1) cap := ⟨_, rfl⟩
      rw [← hbv9] at hbo4 ⊢
      obtain ⟨W5, hW5⟩ : ∃ W5, W5 = w4.setCell ⟨gx, 2, none⟩ bv9 := ⟨_, rfl⟩
      rw [← hW5]
      have hst := set_grown w4 gx 2 bv9
      rw [← hW5] at hst
      have hnt : ∀ {n : Nat} {cs : Array Value} {t : TypeId}, Bk W3 n cs t → 38 ≠ t → (Value.slice ba k bc).ownBlock ≠ some n := fun hk ht => own_not hbo3 hk ht
      have hot : ∀ {e : TypeId} {sz n : Nat} {v : Value} {xs : List Value}, W3.ownsRow w.heap.size e sz v n xs → e ≠ 38 → e ≠ 26 → W5.ownsRow w.heap.size e sz v n xs := fun ho h1 h2 => by
        have ho4 := own_kept ho hg5 (fun g e => by
          obtain ⟨cur, fz, hh⟩ := own_type hbo3 e
          exact own_not ho hh h1)
        exact own_kept ho4 hst (fun g e => by cases e; exact own_not ho4 hX5 h2)
      have hX6 : Bk W5 gx #[.slice sa p.sec.length sc, .slice pa p.par.length pc, bv9] 26 := by rw [hW5]; exact hX5.set 2 _
      have hbo6 : W5.ownsRow w.heap.size 38 5 bv9 (k + 1) (blksC (p.blk.take (k + 1)) (ovs ++ [Value.slice oa bk.ops.length occ])) := by
        have e1 : blksC (p.blk.take (k + 1)) (ovs ++ [Value.slice oa bk.ops.length occ]) = blksC (p.blk.take k) ovs ++ blkC bk (.slice oa bk.ops.length occ) := by
          unfold blksC
          rw [List.take_succ_eq_append_getElem hlt, ← HBK.out, List.zipWith_append (by rw [List.length_take, HOL.out]; omega), List.flatten_append]
          simp
        rw [e1]
        exact own_kept hbo4 hst (fun g e => by cases e; exact own_not hbo4 hX5 (by decide))
      have hBP6 : Bk W5 w.heap.size #[.slice S p.sec.length c1, .slice P p.par.length c2, .slice (some ⟨bb, bo, none⟩) p.blk.length c3] 26 := (hBP3.grown hg5 (fun e => hnt hBP3 (by decide) e.symm)).grown hst (fun e => by injection e with e; omega)
      have hBQ6 : Bk W5 (w.heap.size + 1) zeroIr 26 := (hBQ3.grown hg5 (fun e => hnt hBQ3 (by decide) e.symm)).grown hst (fun e => by injection e with e; omega)
      have hbw6 : Below w.heap.size w W5 := (hbw3.grown hg5 hbw3.size (fun k e => own_from hbo3 k e)).grown hst (Nat.le_trans hbw3.size hg5.size) (fun k e => by cases e; omega)
      have hos6 := hot hos3 (by decide) (by decide)
      have hop6 := hot hop3 (by decide) (by decide)
      have HOO6 : ∀ i (h : i < p.blk.length) (h' : i < (ovs ++ [Value.slice oa bk.ops.length occ]).length), W5.ownsRow w.heap.size 54 6 (ovs ++ [Value.slice oa bk.ops.length occ])[i] p.blk[i].ops.length (p.blk[i].ops.flatMap SOp.cells) := fun i h h' => by
        by_cases e : i < ovs.length
        · rw [List.getElem_append_left e]
          exact hot (HOO3.out i h e) (by decide) (by decide)
        · have hik : i = k := by simp at h'; have := HOL.out; omega
          subst hik
          rw [List.getElem_append_right (by omega)]
          simp only [HOL.out, Nat.sub_self, List.getElem_cons_zero]
          rw [← HBK.out]
          exact hot hov3 (by decide) (by decide)
      have HO6 := Lib.hid HOO6
      have HL6 : Hid ((ovs ++ [Value.slice oa bk.ops.length occ]).length = k + 1) := Lib.hid (by rw [List.length_append, HOL.out]; rfl)
      clear hbv9 hW5 hst hnt hot hX5 hX3 hbo4 hbo3 hg4 hg5 hBP3 hBQ3 hbw3 hos3 hop3 HOO6 HOO3 hov3 CX FX BB3 HNB HBA3 hi hz0 hz1 hz2
      go_wp2_with fail
      go_roundw
      case rel => exact ⟨k + 1, bv9, _, by go_num, by omega, hX6, hos6, hop6, HL6.out, hbo6, HO6.out, hBP6, hBQ6, hbw6⟩
      case measure => simp [intOf]; omega
    · have hkl : k = p.blk.length := by omega
      have htk : p.blk.take k = p.blk := by rw [hkl, List.take_length]
      rw [htk] at hbo
      have hbo' : wr.ownsRow w.heap.size 38 5 (.slice ba p.blk.length bc) p.blk.length (blksC p.blk ovs) := by rw [← hkl]; exact hbo
      have HBO := Lib.hid hbo'
      have HKL := Lib.hid hkl
      have CX := hX.cell
      have CQ := hBQ.cell
      have FQ := hBQ.free
      clear hbo hbo' htk hkl
      go_wp2_with fail
      have hQ3 := ((hBQ.set 0 (.slice sa p.sec.length sc)).set 1 (.slice pa p.par.length pc)).set 2 (.slice ba k bc)
      have hg3 := grown_trans (grown_trans (set_grown wr (w.heap.size + 1) 0 (.slice sa p.sec.length sc)) (set_grown _ (w.heap.size + 1) 1 (.slice pa p.par.length pc))) (set_grown _ (w.heap.size + 1) 2 (.slice ba k bc))
      have hot : ∀ {e : TypeId} {sz n : Nat} {v : Value} {xs : List Value}, wr.ownsRow w.heap.size e sz v n xs → e ≠ 26 → World.ownsRow _ w.heap.size e sz v n xs := fun ho h2 => own_kept ho hg3 (fun g e => by cases e; exact own_not ho hBQ h2)
      refine bodyPost_ret (results_cell_row rfl _ _ (w.heap.size + 1) 26 #[.slice sa p.sec.length sc, .slice pa p.par.length pc, .slice ba k bc] (0, 0) _ rfl hQ3 Tryz.underlying26 rfl (by kernel_rfl)) rfl ⟨.slice sa p.sec.length sc, .slice pa p.par.length pc, .slice ba p.blk.length bc, ovs, by rw [HKL.out], ⟨hot hos (by decide), hot hop (by decide), by rw [HOL.out, HKL.out], hot HBO.out (by decide), fun i h h' => hot (HOO.out i h h') (by decide)⟩, ?_⟩
      exact ((hb.setCell (p := ⟨w.heap.size + 1, 0, none⟩) (Nat.le_succ _) _).setCell (p := ⟨w.heap.size + 1, 1, none⟩) (Nat.le_succ _) _).setCell (p := ⟨w.heap.size + 1, 2, none⟩) (Nat.le_succ _) _
end Go.Proofs.YtoabiignjkcdmaaGreat
