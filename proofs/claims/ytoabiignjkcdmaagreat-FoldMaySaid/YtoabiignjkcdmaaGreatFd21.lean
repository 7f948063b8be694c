/-
  Lemmas (texts Shelf Slc), each proved without a condition beyond its own hypotheses.
-/
import Derived.Shelf.Small.Bits
import Derived.Shelf.Small.Wraps
import Derived.Shelf.Strconv.Itoa0
import Derived.Shelf.Sort.Plain
import Derived.Test.YtoabiignjkcdmaaGreatFd4
import Derived.Ground.Names2Prog
import Derived.Shelf.Slices.Clone
import Derived.Shelf.Slices.CompactI
import Derived.Shelf.Slices.SearchI
import Derived.Shelf.Slices.Cells
import Derived.Shelf.Slices.In.SortNone
import Derived.Ground.SlgnProg
import Derived.Shelf.SlicesE.Clone
import Derived.Shelf.SlMaps.DeleteFunc
import Derived.Shelf.SlMaps.Clone
import Derived.Shelf.SlMaps.Copy
import Derived.Ground.SlmdProg
import Derived.Ground.SlmcProg
import Derived.Ground.SlmpProg
import Derived.Shelf.SlicesQ.Reverse
import Derived.Test.YtoabiignjkcdmaaGreatProg
import Derived.Test.YtoabiignjkcdmaaGreatFd1
import Derived.Sort.OwnSortedInts
import Derived.Lib.RowBridge
namespace Go.Proofs
open Go.Shelf
def Tryz.lays189_ren : Go.Shelf.Ren := ⟨fun | 189 => 45 | 125 => 73 | 257 => 72 | 128 => 106 | 129 => 107 | 294 => 97 | 295 => 98 | 296 => 99 | 297 => 100 | 298 => 101 | 299 => 102 | 216 => 103 | 300 => 104 | 301 => 105 | 328 => 115 | 329 => 116 | 330 => 117 | 331 => 118 | 332 => 119 | 215 => 120 | 343 => 138 | n => n, fun | 28 => 79 | 3 => 3 | 46 => 130 | 0 => 0 | 51 => 151 | 53 => 46 | 4 => 4 | 183 => 144 | 182 => 143 | 131 => 135 | 5 => 5 | 9 => 9 | 218 => 163 | 222 => 167 | 228 => 172 | 229 => 173 | n => n, fun | n => n⟩
theorem Tryz.lays189 : Go.Proofs.Lays.n189 Tryz.prog Tryz.lays189_ren := {
  mixed := by kernel_rfl
  f125 := Tryz.func73.trans (congrArg some (by kernel_rfl))
  f128 := Tryz.func106.trans (congrArg some (by kernel_rfl))
  f129 := Tryz.func107.trans (congrArg some (by kernel_rfl))
  f189 := Tryz.func45.trans (congrArg some (by kernel_rfl))
  f215 := Tryz.func120.trans (congrArg some (by kernel_rfl))
  f216 := Tryz.func103.trans (congrArg some (by kernel_rfl))
  f257 := Tryz.func72.trans (congrArg some (by kernel_rfl))
  f294 := Tryz.func97.trans (congrArg some (by kernel_rfl))
  f295 := Tryz.func98.trans (congrArg some (by kernel_rfl))
  f296 := Tryz.func99.trans (congrArg some (by kernel_rfl))
  f297 := Tryz.func100.trans (congrArg some (by kernel_rfl))
  f298 := Tryz.func101.trans (congrArg some (by kernel_rfl))
  f299 := Tryz.func102.trans (congrArg some (by kernel_rfl))
  f300 := Tryz.func104.trans (congrArg some (by kernel_rfl))
  f301 := Tryz.func105.trans (congrArg some (by kernel_rfl))
  f328 := Tryz.func115.trans (congrArg some (by kernel_rfl))
  f329 := Tryz.func116.trans (congrArg some (by kernel_rfl))
  f330 := Tryz.func117.trans (congrArg some (by kernel_rfl))
  f331 := Tryz.func118.trans (congrArg some (by kernel_rfl))
  f332 := Tryz.func119.trans (congrArg some (by kernel_rfl))
  f343 := Tryz.func138.trans (congrArg some (by kernel_rfl))
  t0 := Tryz.underlying0
  a0 := Tryz.isAgg0
  z0 := Tryz.sizeOf0
  v0 := Tryz.zeroValue0
  t3 := Tryz.underlying3
  a3 := Tryz.isAgg3
  z3 := Tryz.sizeOf3
  v3 := Tryz.zeroValue3
  t4 := Tryz.underlying4
  a4 := Tryz.isAgg4
  z4 := Tryz.sizeOf4
  v4 := Tryz.zeroValue4
  t5 := Tryz.underlying5
  a5 := Tryz.isAgg5
  z5 := Tryz.sizeOf5
  v5 := Tryz.zeroValue5
  t9 := Tryz.underlying9
  a9 := Tryz.isAgg9
  z9 := Tryz.sizeOf9
  v9 := Tryz.zeroValue9
  t28 := Tryz.underlying79
  a28 := Tryz.isAgg79
  z28 := Tryz.sizeOf79
  v28 := Tryz.zeroValue79
  t46 := Tryz.underlying130
  a46 := Tryz.isAgg130
  z46 := Tryz.sizeOf130
  v46 := Tryz.zeroValue130
  t51 := Tryz.underlying151
  a51 := Tryz.isAgg151
  z51 := Tryz.sizeOf151
  v51 := Tryz.zeroValue151
  t53 := Tryz.underlying46
  a53 := Tryz.isAgg46
  z53 := Tryz.sizeOf46
  v53 := Tryz.zeroValue46
  t131 := Tryz.underlying135
  a131 := Tryz.isAgg135
  z131 := Tryz.sizeOf135
  v131 := Tryz.zeroValue135
  t182 := Tryz.underlying143
  a182 := Tryz.isAgg143
  z182 := Tryz.sizeOf143
  v182 := Tryz.zeroValue143
  t183 := Tryz.underlying144
  a183 := Tryz.isAgg144
  z183 := Tryz.sizeOf144
  v183 := Tryz.zeroValue144
  t218 := Tryz.underlying163
  a218 := Tryz.isAgg163
  z218 := Tryz.sizeOf163
  v218 := Tryz.zeroValue163
  t222 := Tryz.underlying167
  a222 := Tryz.isAgg167
  z222 := Tryz.sizeOf167
  v222 := Tryz.zeroValue167
  t228 := Tryz.underlying172
  a228 := Tryz.isAgg172
  z228 := Tryz.sizeOf172
  v228 := Tryz.zeroValue172
  t229 := Tryz.underlying173
  a229 := Tryz.isAgg173
  z229 := Tryz.sizeOf173
  v229 := Tryz.zeroValue173 }
open Go.Sort Go.RowKit in
theorem Tryz.slices_Sort_int (blk off cap : Nat) (zs : List Int) (w : World) (hH : Holds (Value.int .i64) w blk off zs.toArray) (hblk : blk < w.heap.size) (hsz : zs.length < 4611686018427387904) :
    Calls Tryz.prog 45 #[.slice (some ⟨blk, off, none⟩) zs.length cap] w fun e w' =>
      e = .returned (.tuple #[]) ∧ ∃ n os, w' = grow (putRow (Value.int .i64) (Sort.ahead w n) blk off (zs.mergeSort fun x y => decide (x ≤ y)).toArray) os := Any.slices_Sort_int Tryz.lays189 blk off cap zs w hH hblk hsz
def Tryz.laysNm215_ren : Go.Shelf.Ren := ⟨fun | 15 => 47 | n => n, fun | 22 => 79 | 3 => 3 | 4 => 4 | n => n, fun | n => n⟩
theorem Tryz.laysNm215 : Go.Proofs.Lays2.n15 Tryz.prog Tryz.laysNm215_ren := {
  mixed := by kernel_rfl
  f15 := Tryz.func47.trans (congrArg some (by kernel_rfl))
  t3 := Tryz.underlying3
  a3 := Tryz.isAgg3
  z3 := Tryz.sizeOf3
  v3 := Tryz.zeroValue3
  t4 := Tryz.underlying4
  a4 := Tryz.isAgg4
  z4 := Tryz.sizeOf4
  v4 := Tryz.zeroValue4
  t22 := Tryz.underlying79
  a22 := Tryz.isAgg79
  z22 := Tryz.sizeOf79
  v22 := Tryz.zeroValue79
  i3 := by kernel_rfl }
open Go.RowKit Go.Lib in
theorem Tryz.slices_Clone_int (b off n c : Nat) (zs : List Int) (w : World) (hz : n ≤ zs.length) (hbig : n * 8 ≤ 140737488355328) (hc : ∀ j, j < zs.length → w.cell? ⟨b, off + j, none⟩ = some (.int .i64 (zs.getD j 0))) :
    Calls Tryz.prog 47 #[.slice (some ⟨b, off, none⟩) n c] w fun e w' => ∃ v', e = .returned v' ∧ w'.ownsRow w.heap.size 3 1 v' n ((zs.take n).map (Value.int .i64)) ∧ v' ≠ .slice none 0 0 ∧ Below w.heap.size w w' := Any.slices_Clone_int Tryz.laysNm215 b off n c zs w hz hbig hc
open Go.RowKit Go.Lib in
theorem Tryz.slices_Clone_int_nil (n c : Nat) (w : World) :
    Calls Tryz.prog 47 #[.slice none n c] w fun e w' => e = .returned (.slice none 0 0) ∧ w' = w := Any.slices_Clone_int_nil Tryz.laysNm215 n c w
def Tryz.laysNm220_ren : Go.Shelf.Ren := ⟨fun | 20 => 46 | n => n, fun | 22 => 79 | 3 => 3 | 4 => 4 | 0 => 0 | n => n, fun | n => n⟩
theorem Tryz.laysNm220 : Go.Proofs.Lays2.n20 Tryz.prog Tryz.laysNm220_ren := {
  mixed := by kernel_rfl
  f20 := Tryz.func46.trans (congrArg some (by kernel_rfl))
  t0 := Tryz.underlying0
  a0 := Tryz.isAgg0
  z0 := Tryz.sizeOf0
  v0 := Tryz.zeroValue0
  t3 := Tryz.underlying3
  a3 := Tryz.isAgg3
  z3 := Tryz.sizeOf3
  v3 := Tryz.zeroValue3
  t4 := Tryz.underlying4
  a4 := Tryz.isAgg4
  z4 := Tryz.sizeOf4
  v4 := Tryz.zeroValue4
  t22 := Tryz.underlying79
  a22 := Tryz.isAgg79
  z22 := Tryz.sizeOf79
  v22 := Tryz.zeroValue79
  i3 := by kernel_rfl }
open Go.RowKit Go.Lib Go.Sort in
theorem Tryz.slices_Compact_int (blk off cap : Nat) (zs : List Int) (w : World) (hH : Holds (Value.int .i64) w blk off zs.toArray) (hsz : zs.length ≤ 9223372036854775807) (hcap : zs.length ≤ cap) :
    Calls Tryz.prog 46 #[.slice (some ⟨blk, off, none⟩) zs.length cap] w fun e w' => e = .returned (.slice (some ⟨blk, off, none⟩) (Lib.compact zs).length cap) ∧ ∃ q, w' = putRow (Value.int .i64) (Sort.ahead w q) blk off (Lib.compact zs ++ List.replicate (zs.length - (Lib.compact zs).length) 0).toArray := Any.slices_Compact_int Tryz.laysNm220 blk off cap zs w hH hsz hcap
open Go.RowKit Go.Lib Go.Sort in
theorem Tryz.slices_Compact_int_empty (a : Option Addr) (cap : Nat) (w : World) :
    Calls Tryz.prog 46 #[.slice a 0 cap] w fun e w' => e = .returned (.slice a 0 cap) ∧ w' = w := Any.slices_Compact_int_empty Tryz.laysNm220 a cap w
open Go.RowKit Go.Sort in
theorem Tryz.slices_Sort_int_none (p : Option Addr) (cap : Nat) (w : World) :
    Calls Tryz.prog 45 #[.slice p 0 cap] w fun e w' => e = .returned (.tuple #[]) ∧ w' = w := Any.slices_Sort_int_none Tryz.lays189 p cap w
def Tryz.delN_ren : Go.Shelf.Ren := ⟨fun | 5 => 109 | n => n, fun | 23 => 105 | 26 => 3 | 24 => 3 | 27 => 147 | 0 => 0 | 4 => 4 | n => n, fun | n => n⟩
theorem Tryz.delN : Go.Proofs.SlLaysDf.n5 Tryz.prog Tryz.delN_ren := {
  mixed := by kernel_rfl
  f5 := ⟨Tryz.f109.name, by decide, Tryz.func109.trans (congrArg some (by kernel_rfl))⟩
  t0 := Tryz.underlying0
  a0 := Tryz.isAgg0
  z0 := Tryz.sizeOf0
  v0 := Tryz.zeroValue0
  t4 := Tryz.underlying4
  a4 := Tryz.isAgg4
  z4 := Tryz.sizeOf4
  v4 := Tryz.zeroValue4
  t23 := Tryz.underlying105
  a23 := Tryz.isAgg105
  z23 := Tryz.sizeOf105
  v23 := Tryz.zeroValue105
  a24 := Tryz.isAgg3
  z24 := Tryz.sizeOf3
  a26 := Tryz.isAgg3
  z26 := Tryz.sizeOf3
  t27 := Tryz.underlying147
  a27 := Tryz.isAgg147
  z27 := Tryz.sizeOf147
  v27 := Tryz.zeroValue147 }
def Tryz.cloneM_ren : Go.Shelf.Ren := ⟨fun | 5 => 58 | 7 => 78 | n => n, fun | 23 => 70 | 25 => 3 | 3 => 4 | 4 => 4 | 20 => 20 | n => n, fun | n => n⟩
theorem Tryz.cloneM : Go.Proofs.SlLaysW.n5 Tryz.prog Tryz.cloneM_ren := {
  mixed := by kernel_rfl
  f5 := ⟨Tryz.f58.name, by decide, Tryz.func58.trans (congrArg some (by kernel_rfl))⟩
  f7 := Tryz.func78.trans (congrArg some (by kernel_rfl))
  t4 := Tryz.underlying4
  a4 := Tryz.isAgg4
  z4 := Tryz.sizeOf4
  v4 := Tryz.zeroValue4
  t20 := Tryz.underlying20
  a20 := Tryz.isAgg20
  z20 := Tryz.sizeOf20
  v20 := Tryz.zeroValue20
  t23 := Tryz.underlying70
  a23 := Tryz.isAgg70
  z23 := Tryz.sizeOf70
  v23 := Tryz.zeroValue70 }
def Tryz.copyN_ren : Go.Shelf.Ren := ⟨fun | 5 => 62 | n => n, fun | 23 => 70 | 24 => 70 | 26 => 3 | 27 => 4 | 0 => 0 | 4 => 4 | n => n, fun | n => n⟩
theorem Tryz.copyN : Go.Proofs.SlLaysX.n5 Tryz.prog Tryz.copyN_ren := {
  mixed := by kernel_rfl
  f5 := ⟨Tryz.f62.name, by decide, Tryz.func62.trans (congrArg some (by kernel_rfl))⟩
  t0 := Tryz.underlying0
  a0 := Tryz.isAgg0
  z0 := Tryz.sizeOf0
  v0 := Tryz.zeroValue0
  t4 := Tryz.underlying4
  a4 := Tryz.isAgg4
  z4 := Tryz.sizeOf4
  v4 := Tryz.zeroValue4
  t23 := Tryz.underlying70
  a23 := Tryz.isAgg70
  z23 := Tryz.sizeOf70
  v23 := Tryz.zeroValue70
  t24 := Tryz.underlying70
  a24 := Tryz.isAgg70
  z24 := Tryz.sizeOf70
  v24 := Tryz.zeroValue70
  a26 := Tryz.isAgg3
  z26 := Tryz.sizeOf3
  a27 := Tryz.isAgg4
  z27 := Tryz.sizeOf4 }
def Tryz.reverseS_ren : Go.Shelf.Ren := ⟨fun | 35 => 61 | n => n, fun | 22 => 36 | 23 => 54 | 3 => 3 | 4 => 4 | 0 => 0 | n => n, fun | n => n⟩
theorem Tryz.reverseS : Go.Proofs.SlLaysE0.n35 Tryz.prog Tryz.reverseS_ren := {
  mixed := by kernel_rfl
  f35 := ⟨Tryz.f61.name, by decide, Tryz.func61.trans (congrArg some (by kernel_rfl))⟩
  t0 := Tryz.underlying0
  a0 := Tryz.isAgg0
  z0 := Tryz.sizeOf0
  v0 := Tryz.zeroValue0
  t3 := Tryz.underlying3
  a3 := Tryz.isAgg3
  z3 := Tryz.sizeOf3
  v3 := Tryz.zeroValue3
  t4 := Tryz.underlying4
  a4 := Tryz.isAgg4
  z4 := Tryz.sizeOf4
  v4 := Tryz.zeroValue4
  t22 := Tryz.underlying36
  a22 := Tryz.isAgg36
  z22 := Tryz.sizeOf36
  v22 := Tryz.zeroValue36 }
end Go.Proofs

namespace Go.Proofs.YtoabiignjkcdmaaGreat
open Go.RowKit Go.Sort Go.Lib
set_option linter.unusedVariables false
set_option linter.unusedSimpArgs false

theorem grow_below (w : World) (n : Nat) (blk off : Nat) (d : Array Int) (os : Array Obj) : w.grownBy (grow (putRow (Value.int .i64) (Sort.ahead w n) blk off d) os) (some blk) := by
  refine ⟨rfl, rfl, rfl, by simp, fun k hk hne => ?_⟩
  rw [heap_grow_old _ _ (by simpa using hk)]
  have : blk ≠ k := fun e => hne (by rw [e])
  simp [putRow, mapBlock, Sort.ahead, Array.getElem?_modify, this]
theorem put_below (w : World) (n : Nat) (blk off : Nat) (d : Array Int) : w.grownBy (putRow (Value.int .i64) (Sort.ahead w n) blk off d) (some blk) := by
  have h := grow_below w n blk off d #[]
  rwa [grow_empty] at h
theorem grownBy_refl (w : World) (r : Option Nat) : w.grownBy w r := ⟨rfl, rfl, rfl, Nat.le_refl _, fun _ _ _ => rfl⟩

theorem own_shape {w : World} {base : Nat} {e : TypeId} {size n : Nat} {v : Value} {xs : List Value} (h : w.ownsRow base e size v n xs) : ∃ a c, v = .slice a n c := by
  rcases h.2 with ⟨rfl, rfl⟩ | ⟨g, cap, cur, rfl, _⟩
  · exact ⟨_, _, rfl⟩
  · exact ⟨_, _, rfl⟩

/-- The ints in their order. -/
def srt (m : List Int) : List Int := m.mergeSort fun x y => decide (x ≤ y)

@[simp] theorem srt_length (m : List Int) : (srt m).length = m.length := List.length_mergeSort ..

theorem sort_own {w : World} {B n : Nat} {v : Value} {m : List Int} (h : w.ownsRow B 3 1 v n (m.map (Value.int .i64))) (hn : n = m.length) (hm : m.length < 4611686018427387904) :
    Calls Tryz.prog 45 #[v] w fun e w' => e = .returned (.tuple #[]) ∧ w'.ownsRow B 3 1 v n ((srt m).map (Value.int .i64)) ∧ w.grownBy w' v.ownBlock := by
  subst hn
  have hls : (srt m).length = m.length := List.length_mergeSort ..
  rcases h.2 with ⟨rfl, h0⟩ | ⟨g, cap, cur, rfl, hg, hb, h1, h2, h3, h4⟩
  · have hm0 : m = [] := List.eq_nil_of_length_eq_zero h0
    subst hm0
    refine (Tryz.slices_Sort_int_none none 0 w).mono fun e w' hw => ?_
    obtain ⟨rfl, rfl⟩ := hw
    exact ⟨rfl, by simpa [srt] using h, grownBy_refl _ _⟩
  · have hlt : g < w.heap.size := (Array.getElem?_eq_some_iff.1 hb).1
    refine (Tryz.slices_Sort_int g 0 cap m w (holds_of_blockI hb (by simpa using h4)) hlt hm).mono fun e w' hw => ?_
    obtain ⟨rfl, k, os, rfl⟩ := hw
    exact ⟨rfl, ownsRow_sortedI hls hg hb h1 h2 h3, grow_below ..⟩

theorem clone_own {w : World} {B n : Nat} {v : Value} {m : List Int} (h : w.ownsRow B 3 1 v n (m.map (Value.int .i64))) (hn : n = m.length) (hm : m.length ≤ 1000000) :
    Calls Tryz.prog 47 #[v] w fun e w' => ∃ v', e = .returned v' ∧ w'.ownsRow w.heap.size 3 1 v' n (m.map (Value.int .i64)) ∧ Below w.heap.size w w' := by
  subst hn
  rcases h.2 with ⟨rfl, h0⟩ | ⟨g, cap, cur, rfl, hg, hb, h1, h2, h3, h4⟩
  · have hm0 : m = [] := List.eq_nil_of_length_eq_zero h0
    subst hm0
    refine (Tryz.slices_Clone_int_nil 0 0 w).mono fun e w' hw => ?_
    obtain ⟨rfl, rfl⟩ := hw
    exact ⟨_, rfl, World.ownsRow_nil .., Below.refl _ _⟩
  · refine (Tryz.slices_Clone_int g 0 m.length cap m w (Nat.le_refl _) (by omega) fun j hj => ?_).mono fun e w' hw => ?_
    · have := h.cellAt j (by simpa using hj)
      rw [Nat.zero_add, this]
      simp [hj]
    · obtain ⟨v', rfl, ho, _, hbw⟩ := hw
      rw [List.take_length] at ho
      exact ⟨v', rfl, ho, hbw⟩

theorem compact_own {w : World} {B n : Nat} {v : Value} {m : List Int} (h : w.ownsRow B 3 1 v n (m.map (Value.int .i64))) (hn : n = m.length) (hm : m.length ≤ 1000000) :
    Calls Tryz.prog 46 #[v] w fun e w' => ∃ a c, e = .returned (.slice a (Lib.compact m).length c) ∧ w.grownBy w' v.ownBlock := by
  subst hn
  rcases h.2 with ⟨rfl, h0⟩ | ⟨g, cap, cur, rfl, hg, hb, h1, h2, h3, h4⟩
  · have hm0 : m = [] := List.eq_nil_of_length_eq_zero h0
    subst hm0
    refine (Tryz.slices_Compact_int_empty none 0 w).mono fun e w' hw => ?_
    obtain ⟨rfl, rfl⟩ := hw
    exact ⟨none, 0, rfl, grownBy_refl _ _⟩
  · refine (Tryz.slices_Compact_int g 0 cap m w (holds_of_blockI hb (by simpa using h4)) (by omega) h1).mono fun e w' hw => ?_
    obtain ⟨rfl, q, rfl⟩ := hw
    exact ⟨_, _, rfl, put_below ..⟩

/-- Nothing goes iff no two are equal. -/
theorem compact_len (m : List Int) : (Lib.compact m).length = m.length ↔ ∀ j, j < m.length → keeps m.toArray j = true := by
  constructor
  · intro h j hj
    have e : ((List.range m.length).filter (keeps m.toArray)).length = (List.range m.length).length := by
      simpa [Lib.compact, compactUpTo] using h
    have := List.length_filter_eq_length_iff.1 e j (by simpa using hj)
    exact this
  · intro h
    rw [compact_all m h]

theorem nodup_sorted (m : List Int) : (∀ j, j < (srt m).length → keeps (srt m).toArray j = true) ↔ m.Nodup := by
  have hp : (srt m).Perm m := List.mergeSort_perm ..
  have hs : (srt m).Pairwise (· ≤ ·) := by
    have := List.pairwise_mergeSort (le := fun x y : Int => decide (x ≤ y)) (fun a b c h1 h2 => by simp at *; omega) (fun a b => by simp; omega) m
    exact this.imp (by intro a b h; simpa using h)
  rw [← hp.nodup_iff]
  generalize srt m = l at hs
  rw [List.pairwise_iff_getElem] at hs
  constructor
  · intro h
    rw [List.nodup_iff_pairwise_ne, List.pairwise_iff_getElem]
    intro i j hi hj hij e
    have h1 := h (i + 1) (by omega)
    simp only [keeps, Nat.add_one_ne_zero, false_or, decide_eq_true_eq, Nat.add_sub_cancel] at h1
    apply h1
    rw [getElem!_pos l.toArray (i + 1) (by simp; omega), getElem!_pos l.toArray i (by simp; omega)]
    simp only [List.getElem_toArray]
    have a := hs i (i + 1) hi (by omega) (by omega)
    by_cases e2 : i + 1 = j
    · subst e2; exact e.symm
    · have b := hs (i + 1) j (by omega) hj (by omega)
      omega
  · intro h j hj
    rw [List.nodup_iff_pairwise_ne, List.pairwise_iff_getElem] at h
    by_cases h0 : j = 0
    · simp [keeps, h0]
    · have := h (j - 1) j (by omega) hj (by omega)
      simp only [keeps, h0, false_or, decide_eq_true_eq]
      rw [getElem!_pos l.toArray j (by simpa), getElem!_pos l.toArray (j - 1) (by simp; omega)]
      simp only [List.getElem_toArray]
      exact fun e => this e.symm

theorem compact_srt (m : List Int) : decide ((m.length : Int) = ((Lib.compact (srt m)).length : Int)) = decide m.Nodup := by
  have hls : (srt m).length = m.length := List.length_mergeSort ..
  have h := (compact_len (srt m)).trans (nodup_sorted m)
  rw [hls] at h
  apply decide_eq_decide.2
  rw [← h]
  omega

end Go.Proofs.YtoabiignjkcdmaaGreat
