/-
  Slices of ints that a call owns: sorted, copied, compacted.
-/
import Derived.Test.YtoabiignjkcdmaaGreatShelf
import Derived.Test.YtoabiignjkcdmaaGreatBase
import Derived.Sort.OwnSortedInts
import Derived.Lib.RowBridge
namespace Go.Proofs.YtoabiignjkcdmaaGreat
open Go.RowKit Go.Sort Go.Lib
set_option linter.unusedVariables false
set_option linter.unusedSimpArgs false

theorem grow_below (w : World) (n : Nat) (blk off : Nat) (d : Array Int) (os : Array Obj) : w.grownBy (grow (putRow (Value.int .i64) (Sort.ahead w n) blk off d) os) (some blk) := by
  refine ⟨rfl, rfl, rfl, by simp, fun k hk hne => ?_⟩
  rw [heap_grow_old _ _ (by simpa using hk)]
  have : blk ≠ k := fun e => hne (by rw [e])
  simp [putRow, mapBlock, Sort.ahead, Array.getElem?_modify, this]
theorem put_below (w : World) (n : Nat) (blk off : Nat) (d : Array Int) : w.grownBy (putRow (Value.int .i64) (Sort.ahead w n) blk off d) (some blk) := by
  have h := grow_below w n blk off d #[]
  rwa [grow_empty] at h
theorem grownBy_refl (w : World) (r : Option Nat) : w.grownBy w r := ⟨rfl, rfl, rfl, Nat.le_refl _, fun _ _ _ => rfl⟩

theorem own_shape {w : World} {base : Nat} {e : TypeId} {size n : Nat} {v : Value} {xs : List Value} (h : w.ownsRow base e size v n xs) : ∃ a c, v = .slice a n c := by
  rcases h.2 with ⟨rfl, rfl⟩ | ⟨g, cap, cur, rfl, _⟩
  · exact ⟨_, _, rfl⟩
  · exact ⟨_, _, rfl⟩

/-- The ints in their order. -/
def srt (m : List Int) : List Int := m.mergeSort fun x y => decide (x ≤ y)

@[simp] theorem srt_length (m : List Int) : (srt m).length = m.length := List.length_mergeSort ..

theorem sort_own {w : World} {B n : Nat} {v : Value} {m : List Int} (h : w.ownsRow B 3 1 v n (m.map (Value.int .i64))) (hn : n = m.length) (hm : m.length < 4611686018427387904) :
    Calls Tryz.prog 45 #[v] w fun e w' => e = .returned (.tuple #[]) ∧ w'.ownsRow B 3 1 v n ((srt m).map (Value.int .i64)) ∧ w.grownBy w' v.ownBlock := by
  subst hn
  have hls : (srt m).length = m.length := List.length_mergeSort ..
  rcases h.2 with ⟨rfl, h0⟩ | ⟨g, cap, cur, rfl, hg, hb, h1, h2, h3, h4⟩
  · have hm0 : m = [] := List.eq_nil_of_length_eq_zero h0
    subst hm0
    refine (Tryz.slices_Sort_int_none none 0 w).mono fun e w' hw => ?_
    obtain ⟨rfl, rfl⟩ := hw
    exact ⟨rfl, by simpa [srt] using h, grownBy_refl _ _⟩
  · have hlt : g < w.heap.size := (Array.getElem?_eq_some_iff.1 hb).1
    refine (Tryz.slices_Sort_int g 0 cap m w (holds_of_blockI hb (by simpa using h4)) hlt hm).mono fun e w' hw => ?_
    obtain ⟨rfl, k, os, rfl⟩ := hw
    exact ⟨rfl, ownsRow_sortedI hls hg hb h1 h2 h3, grow_below ..⟩

theorem clone_own {w : World} {B n : Nat} {v : Value} {m : List Int} (h : w.ownsRow B 3 1 v n (m.map (Value.int .i64))) (hn : n = m.length) (hm : m.length ≤ 1000000) :
    Calls Tryz.prog 47 #[v] w fun e w' => ∃ v', e = .returned v' ∧ w'.ownsRow w.heap.size 3 1 v' n (m.map (Value.int .i64)) ∧ Below w.heap.size w w' := by
  subst hn
  rcases h.2 with ⟨rfl, h0⟩ | ⟨g, cap, cur, rfl, hg, hb, h1, h2, h3, h4⟩
  · have hm0 : m = [] := List.eq_nil_of_length_eq_zero h0
    subst hm0
    refine (Tryz.slices_Clone_int_nil 0 0 w).mono fun e w' hw => ?_
    obtain ⟨rfl, rfl⟩ := hw
    exact ⟨_, rfl, World.ownsRow_nil .., Below.refl _ _⟩
  · refine (Tryz.slices_Clone_int g 0 m.length cap m w (Nat.le_refl _) (by omega) fun j hj => ?_).mono fun e w' hw => ?_
    · have := h.cellAt j (by simpa using hj)
      rw [Nat.zero_add, this]
      simp [hj]
    · obtain ⟨v', rfl, ho, _, hbw⟩ := hw
      rw [List.take_length] at ho
      exact ⟨v', rfl, ho, hbw⟩

theorem compact_own {w : World} {B n : Nat} {v : Value} {m : List Int} (h : w.ownsRow B 3 1 v n (m.map (Value.int .i64))) (hn : n = m.length) (hm : m.length ≤ 1000000) :
    Calls Tryz.prog 46 #[v] w fun e w' => ∃ a c, e = .returned (.slice a (Lib.compact m).length c) ∧ w.grownBy w' v.ownBlock := by
  subst hn
  rcases h.2 with ⟨rfl, h0⟩ | ⟨g, cap, cur, rfl, hg, hb, h1, h2, h3, h4⟩
  · have hm0 : m = [] := List.eq_nil_of_length_eq_zero h0
    subst hm0
    refine (Tryz.slices_Compact_int_empty none 0 w).mono fun e w' hw => ?_
    obtain ⟨rfl, rfl⟩ := hw
    exact ⟨none, 0, rfl, grownBy_refl _ _⟩
  · refine (Tryz.slices_Compact_int g 0 cap m w (holds_of_blockI hb (by simpa using h4)) (by omega) h1).mono fun e w' hw => ?_
    obtain ⟨rfl, q, rfl⟩ := hw
    exact ⟨_, _, rfl, put_below ..⟩

/-- .. and what is owned behind it. -/
theorem compact_own2 {w : World} {B n : Nat} {v : Value} {m : List Int} (h : w.ownsRow B 3 1 v n (m.map (Value.int .i64))) (hn : n = m.length) (hm : m.length ≤ 1000000) :
    Calls Tryz.prog 46 #[v] w fun e w' => ∃ a c, e = .returned (.slice a (Lib.compact m).length c) ∧ w'.ownsRow B 3 1 (.slice a (Lib.compact m).length c) (Lib.compact m).length ((Lib.compact m).map (Value.int .i64)) ∧ w.grownBy w' v.ownBlock := by
  subst hn
  rcases h.2 with ⟨rfl, h0⟩ | ⟨g, cap, cur, rfl, hg, hb, h1, h2, h3, h4⟩
  · have hm0 : m = [] := List.eq_nil_of_length_eq_zero h0
    subst hm0
    refine (Tryz.slices_Compact_int_empty none 0 w).mono fun e w' hw => ?_
    obtain ⟨rfl, rfl⟩ := hw
    exact ⟨none, 0, rfl, World.ownsRow_nil .., grownBy_refl _ _⟩
  · have hl := compact_length_le m
    refine (Tryz.slices_Compact_int g 0 cap m w (holds_of_blockI hb (by simpa using h4)) (by omega) h1).mono fun e w' hw => ?_
    obtain ⟨rfl, q, rfl⟩ := hw
    refine ⟨_, _, rfl, ?_, put_below ..⟩
    have hh := heap_sortedI (n := q) (os := #[]) (Lib.compact m ++ List.replicate (m.length - (Lib.compact m).length) 0).toArray hb
    rw [grow_empty] at hh
    refine ⟨by simp, .inr ⟨g, cap, _, rfl, hg, hh, by omega, h2, by simp [putCells, h3], ?_⟩⟩
    have ht := take_putCellsI cur (Lib.compact m ++ List.replicate (m.length - (Lib.compact m).length) 0) (by simp; omega)
    rw [Nat.mul_one]
    generalize List.replicate (m.length - (Lib.compact m).length) (0 : Int) = z at *
    have h5 := congrArg (List.take (Lib.compact m).length) ht
    rw [List.take_take, Nat.min_eq_left (by simp)] at h5
    rw [h5, ← List.map_take, List.take_left]

theorem row_of_own {w : World} {B n : Nat} {e : TypeId} {v : Value} {m : List Int} (h : w.ownsRow B e 1 v n (m.map (Value.int .i64))) (hn : n = m.length) : ∃ a c, v = .slice a m.length c ∧ kInt.Row w a m := by
  subst hn
  rcases h.2 with ⟨rfl, h0⟩ | ⟨g, cap, cur, rfl, hg, hb, h1, h2, h3, h4⟩
  · have hm0 : m = [] := List.eq_nil_of_length_eq_zero h0
    subst hm0
    exact ⟨_, _, rfl, .inl rfl⟩
  · refine ⟨_, _, rfl, .inr ⟨g, 0, rfl, fun i hi => ⟨_, rfl, fun j hj => ?_⟩⟩⟩
    have hj0 : j = 0 := by simpa [kInt, Kd.flat] using hj
    subst hj0
    have := h.cellAt i (by simpa using hi)
    simpa [kInt, Kd.flat, hi] using this

/-- Nothing goes iff no two are equal. -/
theorem compact_len (m : List Int) : (Lib.compact m).length = m.length ↔ ∀ j, j < m.length → keeps m.toArray j = true := by
  constructor
  · intro h j hj
    have e : ((List.range m.length).filter (keeps m.toArray)).length = (List.range m.length).length := by
      simpa [Lib.compact, compactUpTo] using h
    have := List.length_filter_eq_length_iff.1 e j (by simpa using hj)
    exact this
  · intro h
    rw [compact_all m h]

theorem nodup_sorted (m : List Int) : (∀ j, j < (srt m).length → keeps (srt m).toArray j = true) ↔ m.Nodup := by
  have hp : (srt m).Perm m := List.mergeSort_perm ..
  have hs : (srt m).Pairwise (· ≤ ·) := by
    have := List.pairwise_mergeSort (le := fun x y : Int => decide (x ≤ y)) (fun a b c h1 h2 => by simp at *; omega) (fun a b => by simp; omega) m
    exact this.imp (by intro a b h; simpa using h)
  rw [← hp.nodup_iff]
  generalize srt m = l at hs
  rw [List.pairwise_iff_getElem] at hs
  constructor
  · intro h
    rw [List.nodup_iff_pairwise_ne, List.pairwise_iff_getElem]
    intro i j hi hj hij e
    have h1 := h (i + 1) (by omega)
    simp only [keeps, Nat.add_one_ne_zero, false_or, decide_eq_true_eq, Nat.add_sub_cancel] at h1
    apply h1
    rw [getElem!_pos l.toArray (i + 1) (by simp; omega), getElem!_pos l.toArray i (by simp; omega)]
    simp only [List.getElem_toArray]
    have a := hs i (i + 1) hi (by omega) (by omega)
    by_cases e2 : i + 1 = j
    · subst e2; exact e.symm
    · have b := hs (i + 1) j (by omega) hj (by omega)
      omega
  · intro h j hj
    rw [List.nodup_iff_pairwise_ne, List.pairwise_iff_getElem] at h
    by_cases h0 : j = 0
    · simp [keeps, h0]
    · have := h (j - 1) j (by omega) hj (by omega)
      simp only [keeps, h0, false_or, decide_eq_true_eq]
      rw [getElem!_pos l.toArray j (by simpa), getElem!_pos l.toArray (j - 1) (by simp; omega)]
      simp only [List.getElem_toArray]
      exact fun e => this e.symm

theorem compact_srt (m : List Int) : decide ((m.length : Int) = ((Lib.compact (srt m)).length : Int)) = decide m.Nodup := by
  have hls : (srt m).length = m.length := List.length_mergeSort ..
  have h := (compact_len (srt m)).trans (nodup_sorted m)
  rw [hls] at h
  apply decide_eq_decide.2
  rw [← h]
  omega

end Go.Proofs.YtoabiignjkcdmaaGreat
