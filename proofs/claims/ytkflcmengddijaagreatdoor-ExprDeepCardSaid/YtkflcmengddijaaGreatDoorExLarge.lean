/-
  sacristylaw07.Large walked.
-/
import Derived.Test.YtkflcmengddijaaGreatDoorExOwn
namespace Go.Proofs.YtkflcmengddijaaGreatDoor
open Go.RowKit Lx
set_option linter.unusedVariables false
set_option linter.unusedSimpArgs false

/-- Large says no of nothing that is large. -/
def LargeR (x : Ex) (e : Ending) : Prop := ∃ b : Bool, e = .returned (.bool b) ∧ (b = false → nodesE x ≤ 2000)
theorem old_one {w0 w : World} {n : Nat} {x : Ex} {K : Option Addr} {c : Nat} (h : Bk w n (exL x K c).toArray 40) (hB : w0.heap.size ≤ n) (hx : kEx.K w0 x (exL x K c)) : kEx.Old 40 w0 w (.slice (some ⟨n, 0, none⟩) 1 1) [x] :=
  ⟨[exL x K c], rfl, fun i hi hi' => by
    obtain rfl : i = 0 := by simpa using hi
    exact hx, rfl, .inr ⟨n, 1, (exL x K c).toArray, rfl, hB, h, Nat.le_refl _, by decide, rfl, rfl⟩⟩
theorem nodesL_drop (l : List Ex) (i : Nat) (h : i < l.length) : nodesL (l.drop i) = 1 + nodesL l[i].kids + nodesL (l.drop (i + 1)) := by
  rw [List.drop_eq_getElem_cons h]
  simp only [nodesL, List.map_cons, List.sum_cons]
  rw [nodesE_eq]
  rfl

set_option maxRecDepth 100000 in
set_option maxHeartbeats 4000000 in
theorem large_c (x : Ex) (K : Option Addr) (c : Nat) (w : World) (hm : x.kids.length ≤ maxLen) (hn0 : K = none → c = 0) (hr : kEx.Row w K x.kids) (hok : NamesOk x) :
    Calls Tryz.prog 14 #[.agg #[.int .u8 x.k, .int .u64 x.num, .string x.name, .int .u8 x.op, .slice K x.kids.length c]] w fun e w' => LargeR x e ∧ Below w.heap.size w w' := by
  have hx : kEx.K w x (exL x K c) := kEx_iff.2 ⟨K, c, rfl, hm, hn0, hr⟩
  have B0 := Bk.new w (exL x K c).toArray 40
  have hb0 := (Below.refl w.heap.size w).alloc (Nat.le_refl _) (.cells (exL x K c).toArray 40)
  have B1 := Bk.newAt (w := w.alloc (.cells (exL x K c).toArray 40)) (n := w.heap.size + 1) (exL x K c).toArray 40 (by simp)
  have hb1 := hb0.alloc (by simp) (.cells (exL x K c).toArray 40)
  have how := old_one B1 (by omega) hx
  have HK := Lib.hid hok
  clear hok hx B1
  go_enter Tryz.func14, Tryz.ntmps14
  go_wp2_with fail
  go_loopw [3, 4, 5] (fun v n i wr => ∃ (ii nn : Nat) (xs : List Ex), ii ≤ xs.length ∧ xs.length ≤ 2000 ∧ nn ≤ 3000 ∧ i = .int .i64 ii ∧ n = .int .i64 nn ∧ kEx.Old 40 w wr v xs ∧
    (∀ y ∈ xs, NamesOk y) ∧ Below w.heap.size w wr ∧ ii + nodesL (xs.drop ii) = nodesE x) (fun _ _ i _ => 2001 - (intOf i).toNat)
  case atStart => exact ⟨0, 0, [x], by simp, by simp, by omega, rfl, rfl, how, fun y hy => (List.mem_singleton.1 hy) ▸ HK.out, hb1, by simp [nodesL]⟩
  case round =>
    clear how hb1
    obtain ⟨ii, nn, xs, hii, hxl, hnn, rfl, rfl, how, hnames, hB, hnodes⟩ := hrel
    obtain ⟨a, cc, rfl⟩ := how.shape
    have i0 : (0 : Int) ≤ (ii : Int) := by omega
    have n0 : (0 : Int) ≤ (nn : Int) := by omega
    have n1 : (nn : Int) ≤ 3000 := by omega
    have x1 : (xs.length : Int) ≤ 2000 := by omega
    have x0 : (0 : Int) ≤ (xs.length : Int) := by omega
    have HN := Lib.hid hnodes
    have HM := Lib.hid hnames
    clear hnodes hnames
    by_cases hlt : ii < xs.length
    · have i1 : (ii : Int) < (xs.length : Int) := by omega
      obtain ⟨og, occ, KK, kc, hv, gr, gn, g0, g1, g2, g3, g4⟩ := old_at how ii hlt
      obtain ⟨rfl, rfl⟩ : a = some ⟨og, 0, none⟩ ∧ cc = occ := by injection hv with h1 h2 h3; exact ⟨h1, h3⟩
      clear hv
      have hsz := (namesOk_iff _).1 (HM.out xs[ii] (List.getElem_mem hlt))
      obtain ⟨hs1, ⟨gm, _, _⟩, hs2⟩ := hsz
      have HS2 := Lib.hid hs2
      have s0 : (0 : Int) ≤ (xs[ii].name.size : Int) := by omega
      have s1 : (xs[ii].name.size : Int) ≤ 140737488355328 := by omega
      have k0 : (0 : Int) ≤ (xs[ii].kids.length : Int) := by omega
      have k1 : (xs[ii].kids.length : Int) ≤ 4503599627370496 := by omega
      have GN := Lib.hid gn
      clear hs2 hs1 g0 g1 g3 gn
      by_cases hbig : (2000 : Int) < (xs.length : Int) + (xs[ii].kids.length : Int)
      · go_wp2_with fail
        go_ret
        exact ⟨⟨true, rfl, fun h => by cases h⟩, hB⟩
      · by_cases hbig2 : (3000 : Int) < (nn : Int) + 1 + (xs[ii].name.size : Int) / 20
        · go_wp2_with fail
          go_ret
          exact ⟨⟨true, rfl, fun h => by cases h⟩, hB⟩
        · have hn2 := nodesL_drop xs ii hlt
          have HN2 := Lib.hid hn2
          have hsum : xs.length + xs[ii].kids.length ≤ 2000 := by omega
          clear hn2
          go_wp2_with (at_builtin; refine wpList_append_exs rfl _ _ rfl _ xs xs[ii].kids rfl how KK kc rfl GN.out gr hB (by omega) ?_; intro v1 w3 how1 hB1)
          refine ⟨⟨ii + 1, nn + 1 + xs[ii].name.size / 20, xs ++ xs[ii].kids, by simp; omega, by simp; omega, by omega, by go_num, by go_num, how1, fun y hy => ?_, hB1, ?_⟩, by simp [intOf]; omega⟩
          · rcases List.mem_append.1 hy with h | h
            · exact HM.out y h
            · exact HS2.out y h
          · have h1 := HN.out
            rw [HN2.out] at h1
            rw [List.drop_append_of_le_length (by omega), nodesL_append]
            omega
    · have i1 : (xs.length : Int) ≤ (ii : Int) := by omega
      go_wp2_with fail
      go_ret
      refine ⟨⟨false, rfl, fun _ => ?_⟩, hB⟩
      have h := HN.out
      rw [List.drop_of_length_le (by omega)] at h
      simp [nodesL] at h
      omega
end Go.Proofs.YtkflcmengddijaaGreatDoor
