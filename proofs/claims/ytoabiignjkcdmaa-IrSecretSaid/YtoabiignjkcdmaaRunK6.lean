/-
  Other, walked: an input that is the same but for secrets.
-/
import Derived.Test.YtoabiignjkcdmaaRunK2
import Derived.Test.YtoabiignjkcdmaaRunH
import Derived.Lib.ConvBytes
namespace Go.Proofs.Ytoabiignjkcdmaa
open Go.RowKit Go.Proofs.YtoabiignjkcdmaaW.PrintLast
set_option linter.unusedVariables false
set_option linter.unusedSimpArgs false

def kU8 : Kd Int := Kd.flat 1 (fun x => [.int .u8 x]) (fun _ => rfl)
theorem kU8_at {w : World} {A : Option Addr} {xs : List Int} (h : kU8.Row w A xs) (i : Nat) (hi : i < xs.length) : ∃ b o, A = some ⟨b, o, none⟩ ∧ w.cell? ⟨b, o + i, none⟩ = some (.int .u8 xs[i]) := by
  obtain ⟨b, o, cs, e, h1, h2⟩ := h.at i hi
  obtain rfl : cs = [.int .u8 xs[i]] := h1
  exact ⟨b, o, e, by simpa [kU8, Kd.flat] using h2 0 (by simp)⟩
theorem flat1 {α : Type} (g : α → Value) (l : List α) : l.flatMap (fun x => [g x]) = l.map g := by
  induction l with
  | nil => rfl
  | cons x l ih => rw [List.flatMap_cons, List.map_cons, ih]; rfl
theorem own_capB {w : World} {B n s c : Nat} {e : TypeId} {A : Option Addr} {xs : List Value} (h : w.ownsRow B e s (.slice A n c) n xs) : n ≤ c ∧ c ≤ 9223372036854775807 := by
  rcases h.2 with ⟨e, rfl⟩ | ⟨g, cap, cur, e, _, _, h1, h2, _⟩
  · injection e with _ _ e
    subst e
    exact ⟨Nat.zero_le _, Nat.zero_le _⟩
  · injection e with _ _ e
    subst e
    unfold maxLen at h2
    exact ⟨h1, h2⟩
abbrev zeroIn : Array Value := #[.slice none 0 0, .slice none 0 0]
abbrev inW (j : SIn) (na ba : Option Addr) (nc bc : Nat) : Array Value := #[.slice na j.nums.length nc, .slice ba j.bufs.length bc]
/-- The input so far: of the call's own, and the same but for secrets. -/
structure Oth (base : Nat) (par : List SHanded) (inp : SIn) (w : World) (gx : Nat) (j : SIn) (na ba : Option Addr) (nc bc : Nat) : Prop where
  x : Bk w gx (inW j na ba nc bc) 30
  n : w.ownsRow base 34 1 (.slice na j.nums.length nc) j.nums.length (j.nums.map (Value.int .u64))
  b : w.ownsRow base 9 1 (.slice ba j.bufs.length bc) j.bufs.length (j.bufs.map Value.string)
  like : LikeIn par inp j
  r : ∀ x ∈ j.nums, 0 ≤ x ∧ x < 18446744073709551616
theorem Oth.kept {base gx : Nat} {par : List SHanded} {inp j : SIn} {w w' : World} {na ba : Option Addr} {nc bc : Nat} {row : Option Nat} (h : Oth base par inp w gx j na ba nc bc) (hg : w.grownBy w' row) (hr : ∀ g, row = some g → g ≠ gx ∧ (Value.slice na j.nums.length nc).ownBlock ≠ some g ∧ (Value.slice ba j.bufs.length bc).ownBlock ≠ some g) : Oth base par inp w' gx j na ba nc bc where
  x := h.x.grown hg (fun e => (hr gx e.symm).1 rfl)
  n := own_kept h.n hg (fun g e => (hr g e).2.1)
  b := own_kept h.b hg (fun g e => (hr g e).2.2)
  like := h.like
  r := h.r
theorem Oth.below {base gx : Nat} {par : List SHanded} {inp j : SIn} {w w' : World} {na ba : Option Addr} {nc bc : Nat} (h : Oth base par inp w gx j na ba nc bc) (hb : Below w.heap.size w w') : Oth base par inp w' gx j na ba nc bc :=
  h.kept (grown_of_below hb none) fun g e => by cases e
/-- Another block of another kind is written. -/
theorem Oth.other {base gx q : Nat} {par : List SHanded} {inp j : SIn} {w w' : World} {na ba : Option Addr} {nc bc : Nat} {cur : Array Value} {t : TypeId} {fz : Nat × Nat} (h : Oth base par inp w gx j na ba nc bc) (hg : w.grownBy w' (some q)) (hq : w.heap[q]? = some (.cells cur t fz)) (h1 : t ≠ 30) (h2 : t ≠ 34) (h3 : t ≠ 9) : Oth base par inp w' gx j na ba nc bc :=
  h.kept hg fun g e => by
    cases e
    refine ⟨?_, own_not h.n hq (fun e => h2 e.symm), own_not h.b hq (fun e => h3 e.symm)⟩
    rintro rfl
    have h4 : w.heap[q]? = _ := h.x
    rw [hq] at h4
    injection h4 with h4
    injection h4 with _ h4 _
    exact h1 h4
def OtherPost (base : Nat) (par : List SHanded) (inp : SIn) (w : World) (e : Ending) (w' : World) : Prop :=
  ∃ (j : SIn) (na ba : Option Addr) (nc bc : Nat), e = .returned (.agg (inW j na ba nc bc)) ∧ LikeIn par inp j ∧ kU64.Row w' na j.nums ∧ kStr.Row w' ba j.bufs ∧ (j.nums.length ≤ nc ∧ nc ≤ 9223372036854775807) ∧ (∀ x ∈ j.nums, 0 ≤ x ∧ x < 18446744073709551616) ∧ Below w.heap.size w w'
theorem oth_end {tm : Array Value} {w wr : World} {base gx q : Nat} {par : List SHanded} {inp j : SIn} {na ba : Option Addr} {nc bc : Nat} (ht : tm.getD 6 undef = .pointer (some ⟨q, 0, none⟩)) (h : Oth base par inp wr gx j na ba nc bc) (hQ : Bk wr q zeroIn 30) (hq0 : w.heap.size ≤ q) (hb : Below w.heap.size w wr) :
    bodyPost Try.prog Try.f10 (OtherPost base par inp w) Exit.ret { tmps := tm, defers := [] } ((wr.setCell ⟨q, 0, none⟩ (.slice na j.nums.length nc)).setCell ⟨q, 1, none⟩ (.slice ba j.bufs.length bc)) := by
  have hQ2 : Bk ((wr.setCell ⟨q, 0, none⟩ (.slice na j.nums.length nc)).setCell ⟨q, 1, none⟩ (.slice ba j.bufs.length bc)) q (inW j na ba nc bc) 30 := (hQ.set 0 _).set 1 _
  have hg : wr.grownBy ((wr.setCell ⟨q, 0, none⟩ (.slice na j.nums.length nc)).setCell ⟨q, 1, none⟩ (.slice ba j.bufs.length bc)) (some q) := grown_trans (set_grown wr q 0 _) (set_grown _ q 1 _)
  have hn := own_kept h.n hg (fun g e => by cases e; exact own_not h.n hQ (by decide))
  have hbb := own_kept h.b hg (fun g e => by cases e; exact own_not h.b hQ (by decide))
  refine bodyPost_ret (results_cell_row rfl _ _ q 30 (inW j na ba nc bc) (0, 0) _ ht hQ2 Try.underlying30 rfl (by kernel_rfl)) rfl ⟨j, na, ba, nc, bc, rfl, h.like, rowU64_of hn, rowStr_of hbb, own_capB hn, h.r, ?_⟩
  exact (hb.setCell (p := ⟨q, 0, none⟩) hq0 _).setCell (p := ⟨q, 1, none⟩) hq0 _
theorem like_num {par : List SHanded} {inp j : SIn} (h : LikeIn par inp j) (n : Nat) (hs : secNum par n = true) (x : Int) : LikeIn par inp ⟨j.nums.set n x, j.bufs⟩ where
  nl := by rw [h.nl]; simp
  bl := h.bl
  n := fun k hk => by
    have hne : n ≠ k := by rintro rfl; rw [hs] at hk; cases hk
    rw [h.n k hk]
    simp [List.getD_eq_getElem?_getD, List.getElem?_set_ne hne]
  z := h.z
  b := h.b
theorem like_buf {par : List SHanded} {inp j : SIn} (h : LikeIn par inp j) (n : Nat) (hs : secBuf par n = true) (x : ByteArray) (hx : x.size = (j.bufs.getD n bsZ).size) (hn : n < j.bufs.length) : LikeIn par inp ⟨j.nums, j.bufs.set n x⟩ where
  nl := h.nl
  bl := by rw [h.bl]; simp
  n := h.n
  z := fun k => by
    rw [h.z k]
    by_cases e : n = k
    · subst e
      show _ = ((j.bufs.set n x).getD n bsZ).size
      rw [← hx]
      simp [List.getD_eq_getElem?_getD, hn]
    · simp [List.getD_eq_getElem?_getD, List.getElem?_set_ne e]
  b := fun k hk => by
    have hne : n ≠ k := by rintro rfl; rw [hs] at hk; cases hk
    rw [h.b k hk]
    simp [List.getD_eq_getElem?_getD, List.getElem?_set_ne hne]
theorem Oth.setNum {base gx g : Nat} {par : List SHanded} {inp j : SIn} {w : World} {ba : Option Addr} {nc bc : Nat} (h : Oth base par inp w gx j (some ⟨g, 0, none⟩) ba nc bc) (n : Nat) (x : Int) (x0 : 0 ≤ x ∧ x < 18446744073709551616) (hs : secNum par n = true) :
    Oth base par inp (w.setCell ⟨g, n, none⟩ (.int .u64 x)) gx ⟨j.nums.set n x, j.bufs⟩ (some ⟨g, 0, none⟩) ba nc bc := by
  obtain ⟨cur, fz, hg⟩ := own_type h.n (g := g) rfl
  refine ⟨?_, ?_, ?_, like_num h.like n hs x, fun y hy => ?_⟩
  · have hne : gx ≠ g := fun e => by
      subst e
      exact own_not h.n h.x (by decide) rfl
    show Bk _ gx #[.slice (some ⟨g, 0, none⟩) (j.nums.set n x).length nc, .slice ba j.bufs.length bc] _
    rw [List.length_set]
    exact h.x.other (a := ⟨g, n, none⟩) hne (.int .u64 x)
  · have := (h.n.stored n (.int .u64 x)).1
    simp only [List.length_set, List.map_set]
    exact this
  · exact own_kept h.b (set_grown w g n _) fun g' e => by cases e; exact own_not h.b hg (by decide)
  · rcases List.mem_or_eq_of_mem_set hy with h2 | h2
    · exact h.r y h2
    · subst h2; exact x0
theorem Oth.setBuf {base gx g : Nat} {par : List SHanded} {inp j : SIn} {w : World} {na : Option Addr} {nc bc : Nat} (h : Oth base par inp w gx j na (some ⟨g, 0, none⟩) nc bc) (n : Nat) (x : ByteArray) (hn : n < j.bufs.length) (hx : x.size = (j.bufs.getD n bsZ).size) (hs : secBuf par n = true) :
    Oth base par inp (w.setCell ⟨g, n, none⟩ (.string x)) gx ⟨j.nums, j.bufs.set n x⟩ na (some ⟨g, 0, none⟩) nc bc := by
  obtain ⟨cur, fz, hg⟩ := own_type h.b (g := g) rfl
  refine ⟨?_, ?_, ?_, like_buf h.like n hs x hx hn, h.r⟩
  · have hne : gx ≠ g := fun e => by
      subst e
      exact own_not h.b h.x (by decide) rfl
    show Bk _ gx #[.slice na j.nums.length nc, .slice (some ⟨g, 0, none⟩) (j.bufs.set n x).length bc] _
    rw [List.length_set]
    exact h.x.other (a := ⟨g, n, none⟩) hne (.string x)
  · exact own_kept h.n (set_grown w g n _) fun g' e => by cases e; exact own_not h.n hg (by decide)
  · have := (h.b.stored n (.string x)).1
    simp only [List.length_set, List.map_set]
    exact this
theorem ByRow.heap {w : World} {base gb n c : Nat} {xs : List Int} (h : ByRow w base (.slice (some ⟨gb, 0, none⟩) n c) xs) : ∃ cur fz, w.heap[gb]? = some (.cells cur 5 fz) := by
  obtain ⟨g', cap', cur, lo, hi, e, _, hh, _⟩ := h
  injection e with e _ _
  injection e with e
  injection e with e _ _
  subst e
  exact ⟨cur, (lo, hi), hh⟩
theorem ByRow.drew' {w : World} {base : Nat} {bv : Value} {xs : List Int} (h : ByRow w base bv xs) : ByRow w.drew base bv xs := h
theorem sec_num_at {par : List SHanded} {i : Nat} (hi : i < par.length) (hb : par[i].buf = false) : secNum par (numsOf (par.take i)).length = par[i].sec := by
  unfold secNum numsOf
  have e : par = par.take i ++ par[i] :: par.drop (i + 1) := by rw [← List.drop_eq_getElem_cons hi, List.take_append_drop]
  have e2 : par.filter (fun h => !h.buf) = (par.take i).filter (fun h => !h.buf) ++ par[i] :: (par.drop (i + 1)).filter (fun h => !h.buf) := by
    conv => lhs; rw [e]
    rw [List.filter_append, List.filter_cons, if_pos (by simp [hb])]
  rw [e2]
  simp [List.getD_eq_getElem?_getD]
theorem sec_buf_at {par : List SHanded} {i : Nat} (hi : i < par.length) (hb : par[i].buf = true) : secBuf par (bufsOf (par.take i)).length = par[i].sec := by
  unfold secBuf bufsOf
  have e : par = par.take i ++ par[i] :: par.drop (i + 1) := by rw [← List.drop_eq_getElem_cons hi, List.take_append_drop]
  have e2 : par.filter (fun h => h.buf) = (par.take i).filter (fun h => h.buf) ++ par[i] :: (par.drop (i + 1)).filter (fun h => h.buf) := by
    conv => lhs; rw [e]
    rw [List.filter_append, List.filter_cons, if_pos (by simp [hb])]
  rw [e2]
  simp [List.getD_eq_getElem?_getD]
set_option maxRecDepth 100000 in
set_option maxHeartbeats 16000000 in
theorem other_c (par : List SHanded) (inp : SIn) (bys : List Int) (w : World) (P NA BA Y : Option Addr) (c2 nc bc yc : Nat) (hP : kHanded.Row w P par) (hNA : kU64.Row w NA inp.nums) (hBA : kStr.Row w BA inp.bufs) (hY : kU8.Row w Y bys) (hpl : par.length ≤ 60) (hnl : inp.nums.length ≤ 60) (hbl : inp.bufs.length ≤ 60) (hyl : bys.length ≤ 200)
    (hz : ∀ b ∈ inp.bufs, b.size ≤ 140737488355328) (hr : ∀ x ∈ inp.nums, 0 ≤ x ∧ x < 18446744073709551616) :
    Calls Try.prog 10 #[.slice P par.length c2, .agg (inW inp NA BA nc bc), .slice Y bys.length yc] w (OtherPost w.heap.size par inp w) := by
  obtain ⟨W, hW⟩ : ∃ W, W = (w.alloc (.cells (inW inp NA BA nc bc) 30)).alloc (.cells zeroIn 30) := ⟨_, rfl⟩
  have hbW : Below w.heap.size w W := by rw [hW]; exact ((Below.refl w.heap.size w).alloc (Nat.le_refl _) _).alloc (by simp) _
  have BP : Bk W w.heap.size (inW inp NA BA nc bc) 30 := by rw [hW]; exact (Bk.new w _ _).alloc _
  have BQ : Bk W (w.heap.size + 1) zeroIn 30 := by rw [hW]; exact Bk.newAt _ _ (by simp)
  have hnl0 := hnl
  have hbl0 := hbl
  go_enter Try.func10, Try.ntmps10
  go_upto_region 1 with (fail)
  rw [← hW]
  have hWS : W.heap.size = w.heap.size + 2 := by rw [hW]; simp
  clear hW
  have CS : ∀ V, Below W.heap.size W V → V.cell? ⟨w.heap.size, 0, none⟩ = some (.slice NA inp.nums.length nc) ∧ V.cell? ⟨w.heap.size, 1, none⟩ = some (.slice BA inp.bufs.length bc) := fun V hV => ⟨cm (BP.cell 0) hV, cm (BP.cell 1) hV⟩
  have HCS := Lib.hid CS
  have HSR : Hid (∀ V, Below W.heap.size W V → kU64.Row V NA inp.nums) := Lib.hid (fun V hV => hNA.mono (bt hbW hV))
  have HPR : Hid (∀ V, Below W.heap.size W V → kStr.Row V BA inp.bufs) := Lib.hid (fun V hV => hBA.mono (bt hbW hV))
  have hws : w.heap.size ≤ W.heap.size := hbW.size
  have hgw : w.heap.size + 2 ≤ W.heap.size := by omega
  clear CS hWS
  refine start_ (n := 9) (S := fun w' => w'.cell? ⟨w.heap.size, 0, none⟩ = some (.slice NA inp.nums.length nc) ∧ w'.cell? ⟨w.heap.size, 1, none⟩ = some (.slice BA inp.bufs.length bc)) (ds := [8]) #[false, false, false, false, false, false, false, false, false] (by kernel_rfl) rfl rfl (HCS.out _ (Below.refl _ _).drew) (fun hHeld => ?_)
  refine pure_ (i := 0) (N := (some 15)) (v := ?_) (a' := ?_) #[true, false, false, false, false, false, false, false, false] rfl rfl (by kernel_rfl) (fun _ _ _ h => h) (Or.inl ⟨by rfl, ?_⟩) ?_ ?_
  rotate_left
  · intro w'
    go_simp
    with_reducible rfl
  rotate_left
  · simp only [Act.put, List.setIfInBounds_toArray, List.set_cons_zero, List.set_cons_succ]
    rfl
  refine pure_ (i := 3) (N := (some 18)) (v := ?_) (a' := ?_) #[true, false, false, true, false, false, false, false, false] rfl rfl (by kernel_rfl) (fun _ _ _ h => h) (Or.inl ⟨by rfl, ?_⟩) ?_ ?_
  rotate_left
  · intro w'
    go_simp
    with_reducible rfl
  rotate_left
  · simp only [Act.put, List.setIfInBounds_toArray, List.set_cons_zero, List.set_cons_succ]
    rfl
  refine take_ (i := 1) (N := (some 16)) (v := ?_) (a' := ?_) #[true, true, false, true, false, false, false, false, false] rfl rfl (by kernel_rfl) (fun _ _ _ h => h) (Or.inl ⟨by rfl, ?_⟩) hHeld ?_ ?_
  rotate_left
  · rintro w' ⟨s0, s1⟩
    go_simp
    with_reducible rfl
  rotate_left
  · simp only [Act.put, List.setIfInBounds_toArray, List.set_cons_zero, List.set_cons_succ]
    rfl
  refine take_ (i := 4) (N := (some 19)) (v := ?_) (a' := ?_) #[true, true, false, true, true, false, false, false, false] rfl rfl (by kernel_rfl) (fun _ _ _ h => h) (Or.inl ⟨by rfl, ?_⟩) hHeld ?_ ?_
  rotate_left
  · rintro w' ⟨s0, s1⟩
    go_simp
    with_reducible rfl
  rotate_left
  · simp only [Act.put, List.setIfInBounds_toArray, List.set_cons_zero, List.set_cons_succ]
    rfl
  refine join_ (σ := Value × Value × Nat) 1 #[true, true, true, true, true, true, true, true, false] (fun s => [(17, s.1), (20, s.2.1), (21, .agg #[s.1, s.2.1]), (7, .pointer (some ⟨s.2.2, 0, none⟩))]) (fun s w' => Below W.heap.size W w' ∧ w'.ownsRow w.heap.size 34 1 s.1 inp.nums.length (inp.nums.flatMap fun x => [.int .u64 x]) ∧ w'.ownsRow w.heap.size 9 1 s.2.1 inp.bufs.length (inp.bufs.flatMap fun x => [.string x]) ∧ Bk w' s.2.2 zeroIn 30 ∧ W.heap.size ≤ s.2.2) ?_ (fun HC => ?_)
  rotate_left
  · refine two_ (i := 2) (j := 7) (Ni := (some 17)) (Nj := (some 7)) #[true, true, true, true, true, false, false, false, false] #[true, true, false, true, true, false, false, true, false] rfl rfl rfl rfl (by kernel_rfl) (by decide) (by decide) (fun K hK => ?_) (fun K hK => ?_)
    · refine step_append_flat (fun x : Int => [.int .u64 x]) 1 (fun _ => rfl) (fun x u hu => by simp at hu; subst hu; rfl) (by rfl) _ _ 27 34 (.int .u64 0) 8 (by rfl) Try.underlying27 infoU64 rfl (by decide) w.heap.size (.slice none 0 0) 0 [] (by rfl) (nil_own _ _ _ _) NA nc inp.nums (by rfl) (HSR.out _ (Below.refl W.heap.size W).drew) (by omega) (by omega) (Nat.le_trans hws (Below.refl W.heap.size W).drew.size) ?_
      intro sv wA hosv hgs
      rw [Nat.zero_add, List.nil_append] at hosv
      obtain ⟨sa, sc, rfl⟩ := own_shape' hosv
      have hbA : Below W.heap.size W wA := (Below.refl W.heap.size W).drew.grown hgs (Below.refl W.heap.size W).drew.size (fun k e => by cases e)
      refine hK.out _ _ (HCS.out _ hbA) (fun hHeld => ?_)
      clear hK K
      refine norm_ (a' := ?_) ?_ ?_
      rotate_left
      · show Act.put _ (some 17) _ = _
        simp only [Act.put, List.setIfInBounds_toArray, List.set_cons_zero, List.set_cons_succ]
        rfl
      refine two_ (i := 5) (j := 7) (Ni := (some 20)) (Nj := (some 7)) #[true, true, true, true, true, true, false, false, false] #[true, true, true, true, true, false, false, true, false] rfl rfl rfl rfl (by kernel_rfl) (by decide) (by decide) (fun K hK => ?_) (fun K hK => ?_)
      · refine step_append_flat (fun x : ByteArray => [.string x]) 1 (fun _ => rfl) (fun x u hu => by simp at hu; subst hu; rfl) (by rfl) _ _ 28 9 (.string ⟨#[]⟩) 16 (by rfl) Try.underlying28 infoStr rfl (by decide) w.heap.size (.slice none 0 0) 0 [] (by rfl) (nil_own _ _ _ _) BA bc inp.bufs (by rfl) (HPR.out _ hbA) (by omega) (by omega) (Nat.le_trans hws hbA.size) ?_
        intro pv wB hopv hgp
        rw [Nat.zero_add, List.nil_append] at hopv
        obtain ⟨pa, pc, rfl⟩ := own_shape' hopv
        have hbB : Below W.heap.size W wB := hbA.grown hgp hbA.size (fun k e => by cases e)
        refine hK.out _ _ (HCS.out _ hbB) (fun hHeld => ?_)
        clear hK K
        refine norm_ (a' := ?_) ?_ ?_
        rotate_left
        · show Act.put _ (some 20) _ = _
          simp only [Act.put, List.setIfInBounds_toArray, List.set_cons_zero, List.set_cons_succ]
          rfl
        refine pure_ (i := 6) (N := (some 21)) (v := ?_) (a' := ?_) #[true, true, true, true, true, true, true, false, false] rfl rfl (by kernel_rfl) (fun _ _ _ h => h) (Or.inl ⟨by rfl, ?_⟩) ?_ ?_
        rotate_left
        · intro w'
          go_simp
          with_reducible rfl
        rotate_left
        · simp only [Act.put, List.setIfInBounds_toArray, List.set_cons_zero, List.set_cons_succ]
          rfl
        refine one_ (i := 7) (N := (some 7)) #[true, true, true, true, true, true, true, true, false] rfl rfl (by kernel_rfl) (by decide) (fun K hK => ?_)
        obtain ⟨wC, hwC⟩ : ∃ V, V = wB.alloc (.cells zeroIn 30) := ⟨_, rfl⟩
        have hbC : Below W.heap.size W wC := by rw [hwC]; exact hbB.alloc hbB.size _
        have hxtwC : Below wB.heap.size wB wC := by rw [hwC]; exact (Below.refl _ _).alloc (Nat.le_refl _) _
        have hkwC : Bk wC wB.heap.size zeroIn 30 := by rw [hwC]; exact Bk.new wB _ _
        refine value_ (v := .pointer (some ⟨wB.heap.size, 0, none⟩)) (w1 := wC) (by rfl) rfl ?_ ?_
        · rw [hwC]
          go_simp
        clear hwC
        refine hK.out _ _ (HCS.out _ hbC) (fun hHeld => ?_)
        clear hK K
        refine norm_ (a' := ?_) ?_ ?_
        rotate_left
        · show Act.put _ (some 7) _ = _
          simp only [Act.put, List.setIfInBounds_toArray, List.set_cons_zero, List.set_cons_succ]
          rfl
        refine norm_ (by simp only [putAll, Act.put, List.setIfInBounds_toArray, List.set_cons_zero, List.set_cons_succ]) (HC (.slice sa inp.nums.length sc, .slice pa inp.bufs.length pc, wB.heap.size) _ ⟨hbC, own_below (own_kept hosv hgp (fun g e => by cases e)) hxtwC, own_below hopv hxtwC, hkwC, hbB.size⟩)
      · obtain ⟨wB, hwB⟩ : ∃ V, V = wA.alloc (.cells zeroIn 30) := ⟨_, rfl⟩
        have hbB : Below W.heap.size W wB := by rw [hwB]; exact hbA.alloc hbA.size _
        have hxtwB : Below wA.heap.size wA wB := by rw [hwB]; exact (Below.refl _ _).alloc (Nat.le_refl _) _
        have hkwB : Bk wB wA.heap.size zeroIn 30 := by rw [hwB]; exact Bk.new wA _ _
        refine value_ (v := .pointer (some ⟨wA.heap.size, 0, none⟩)) (w1 := wB) (by rfl) rfl ?_ ?_
        · rw [hwB]
          go_simp
        clear hwB
        refine hK.out _ _ (HCS.out _ hbB) (fun hHeld => ?_)
        clear hK K
        refine norm_ (a' := ?_) ?_ ?_
        rotate_left
        · show Act.put _ (some 7) _ = _
          simp only [Act.put, List.setIfInBounds_toArray, List.set_cons_zero, List.set_cons_succ]
          rfl
        refine one_ (i := 5) (N := (some 20)) #[true, true, true, true, true, true, false, true, false] rfl rfl (by kernel_rfl) (by decide) (fun K hK => ?_)
        refine step_append_flat (fun x : ByteArray => [.string x]) 1 (fun _ => rfl) (fun x u hu => by simp at hu; subst hu; rfl) (by rfl) _ _ 28 9 (.string ⟨#[]⟩) 16 (by rfl) Try.underlying28 infoStr rfl (by decide) w.heap.size (.slice none 0 0) 0 [] (by rfl) (nil_own _ _ _ _) BA bc inp.bufs (by rfl) (HPR.out _ hbB) (by omega) (by omega) (Nat.le_trans hws hbB.size) ?_
        intro pv wC hopv hgp
        rw [Nat.zero_add, List.nil_append] at hopv
        obtain ⟨pa, pc, rfl⟩ := own_shape' hopv
        have hbC : Below W.heap.size W wC := hbB.grown hgp hbB.size (fun k e => by cases e)
        refine hK.out _ _ (HCS.out _ hbC) (fun hHeld => ?_)
        clear hK K
        refine norm_ (a' := ?_) ?_ ?_
        rotate_left
        · show Act.put _ (some 20) _ = _
          simp only [Act.put, List.setIfInBounds_toArray, List.set_cons_zero, List.set_cons_succ]
          rfl
        refine pure_ (i := 6) (N := (some 21)) (v := ?_) (a' := ?_) #[true, true, true, true, true, true, true, true, false] rfl rfl (by kernel_rfl) (fun _ _ _ h => h) (Or.inl ⟨by rfl, ?_⟩) ?_ ?_
        rotate_left
        · intro w'
          go_simp
          with_reducible rfl
        rotate_left
        · simp only [Act.put, List.setIfInBounds_toArray, List.set_cons_zero, List.set_cons_succ]
          rfl
        refine norm_ (by simp only [putAll, Act.put, List.setIfInBounds_toArray, List.set_cons_zero, List.set_cons_succ]) (HC (.slice sa inp.nums.length sc, .slice pa inp.bufs.length pc, wA.heap.size) _ ⟨hbC, own_kept (own_below hosv hxtwB) hgp (fun g e => by cases e), hopv, hkwB.grown hgp (by simp [Value.ownBlock]), hbA.size⟩)
    · obtain ⟨wA, hwA⟩ : ∃ V, V = W.drew.alloc (.cells zeroIn 30) := ⟨_, rfl⟩
      have hbA : Below W.heap.size W wA := by rw [hwA]; exact (Below.refl W.heap.size W).drew.alloc (Below.refl W.heap.size W).drew.size _
      have hxtwA : Below W.drew.heap.size W.drew wA := by rw [hwA]; exact (Below.refl _ _).alloc (Nat.le_refl _) _
      have hkwA : Bk wA W.drew.heap.size zeroIn 30 := by rw [hwA]; exact Bk.new W.drew _ _
      refine value_ (v := .pointer (some ⟨W.drew.heap.size, 0, none⟩)) (w1 := wA) (by rfl) rfl ?_ ?_
      · rw [hwA]
        go_simp
      clear hwA
      refine hK.out _ _ (HCS.out _ hbA) (fun hHeld => ?_)
      clear hK K
      refine norm_ (a' := ?_) ?_ ?_
      rotate_left
      · show Act.put _ (some 7) _ = _
        simp only [Act.put, List.setIfInBounds_toArray, List.set_cons_zero, List.set_cons_succ]
        rfl
      refine one_ (i := 2) (N := (some 17)) #[true, true, true, true, true, false, false, true, false] rfl rfl (by kernel_rfl) (by decide) (fun K hK => ?_)
      refine step_append_flat (fun x : Int => [.int .u64 x]) 1 (fun _ => rfl) (fun x u hu => by simp at hu; subst hu; rfl) (by rfl) _ _ 27 34 (.int .u64 0) 8 (by rfl) Try.underlying27 infoU64 rfl (by decide) w.heap.size (.slice none 0 0) 0 [] (by rfl) (nil_own _ _ _ _) NA nc inp.nums (by rfl) (HSR.out _ hbA) (by omega) (by omega) (Nat.le_trans hws hbA.size) ?_
      intro sv wB hosv hgs
      rw [Nat.zero_add, List.nil_append] at hosv
      obtain ⟨sa, sc, rfl⟩ := own_shape' hosv
      have hbB : Below W.heap.size W wB := hbA.grown hgs hbA.size (fun k e => by cases e)
      refine hK.out _ _ (HCS.out _ hbB) (fun hHeld => ?_)
      clear hK K
      refine norm_ (a' := ?_) ?_ ?_
      rotate_left
      · show Act.put _ (some 17) _ = _
        simp only [Act.put, List.setIfInBounds_toArray, List.set_cons_zero, List.set_cons_succ]
        rfl
      refine one_ (i := 5) (N := (some 20)) #[true, true, true, true, true, true, false, true, false] rfl rfl (by kernel_rfl) (by decide) (fun K hK => ?_)
      refine step_append_flat (fun x : ByteArray => [.string x]) 1 (fun _ => rfl) (fun x u hu => by simp at hu; subst hu; rfl) (by rfl) _ _ 28 9 (.string ⟨#[]⟩) 16 (by rfl) Try.underlying28 infoStr rfl (by decide) w.heap.size (.slice none 0 0) 0 [] (by rfl) (nil_own _ _ _ _) BA bc inp.bufs (by rfl) (HPR.out _ hbB) (by omega) (by omega) (Nat.le_trans hws hbB.size) ?_
      intro pv wC hopv hgp
      rw [Nat.zero_add, List.nil_append] at hopv
      obtain ⟨pa, pc, rfl⟩ := own_shape' hopv
      have hbC : Below W.heap.size W wC := hbB.grown hgp hbB.size (fun k e => by cases e)
      refine hK.out _ _ (HCS.out _ hbC) (fun hHeld => ?_)
      clear hK K
      refine norm_ (a' := ?_) ?_ ?_
      rotate_left
      · show Act.put _ (some 20) _ = _
        simp only [Act.put, List.setIfInBounds_toArray, List.set_cons_zero, List.set_cons_succ]
        rfl
      refine pure_ (i := 6) (N := (some 21)) (v := ?_) (a' := ?_) #[true, true, true, true, true, true, true, true, false] rfl rfl (by kernel_rfl) (fun _ _ _ h => h) (Or.inl ⟨by rfl, ?_⟩) ?_ ?_
      rotate_left
      · intro w'
        go_simp
        with_reducible rfl
      rotate_left
      · simp only [Act.put, List.setIfInBounds_toArray, List.set_cons_zero, List.set_cons_succ]
        rfl
      refine norm_ (by simp only [putAll, Act.put, List.setIfInBounds_toArray, List.set_cons_zero, List.set_cons_succ]) (HC (.slice sa inp.nums.length sc, .slice pa inp.bufs.length pc, W.drew.heap.size) _ ⟨hbC, own_kept hosv hgp (fun g e => by cases e), hopv, (hkwA.grown hgs (by simp [Value.ownBlock])).grown hgp (by simp [Value.ownBlock]), Nat.le_refl _⟩)
  rintro ⟨sv, pv, gx⟩ w8 ⟨hb8, hosv, hopv, hx8, hgx⟩
  refine norm_ (a' := ?_) ?_ ?_
  rotate_left
  · simp only [putAll, Act.put, List.setIfInBounds_toArray, List.set_cons_zero, List.set_cons_succ]
    rfl
  simp only at hosv hopv hx8 hgx
  have CX8 := hx8.cell
  have FX8 := hx8.free
  obtain ⟨sa, sc, rfl⟩ := own_shape' hosv
  obtain ⟨pa, pc, rfl⟩ := own_shape' hopv
  refine last_ (i := 8) (N := none) #[true, true, true, true, true, true, true, true, true] rfl rfl (by kernel_rfl) (by decide) (fun K hK => ?_)
  refine skip_ (w1 := ?_) (by rfl) rfl ?_ ?_
  rotate_left
  · go_simp
    rfl
  refine hK.out _ _ ?_
  clear hK K
  refine done_ (by kernel_rfl) ?_
  have hst3 : Bk ((w8.setCell ⟨gx, 0, none⟩ (.slice sa inp.nums.length sc)).setCell ⟨gx, 1, none⟩ (.slice pa inp.bufs.length pc)) gx #[.slice sa inp.nums.length sc, .slice pa inp.bufs.length pc] 30 := (hx8.set 0 _).set 1 _
  have hg3 : w8.grownBy ((w8.setCell ⟨gx, 0, none⟩ (.slice sa inp.nums.length sc)).setCell ⟨gx, 1, none⟩ (.slice pa inp.bufs.length pc)) (some gx) := grown_trans (set_grown w8 gx 0 _) (set_grown _ gx 1 _)
  obtain ⟨W9, hW9⟩ : ∃ W9, W9 = ((w8.setCell ⟨gx, 0, none⟩ (.slice sa inp.nums.length sc)).setCell ⟨gx, 1, none⟩ (.slice pa inp.bufs.length pc)) := ⟨_, rfl⟩
  rw [← hW9] at hst3 hg3 ⊢
  have hb9 : Below W.heap.size W W9 := hb8.grown hg3 hb8.size (fun k e => by cases e; exact hgx)
  have hos9 := own_kept hosv hg3 (fun g e => by cases e; exact own_not hosv hx8 (by decide))
  have hop9 := own_kept hopv hg3 (fun g e => by cases e; exact own_not hopv hx8 (by decide))
  have hO9 : Oth w.heap.size par inp W9 gx inp sa pa sc pc := ⟨hst3, by rw [← flat1]; exact hos9, by rw [← flat1]; exact hop9, LikeIn.refl _ _, hr⟩
  have hbw9 := bt hbW hb9
  have BQ9 := BQ.mono hb9
  clear hW9 hb8 hosv hopv hx8 CX8 FX8 hg3 hHeld HSR HPR HCS BP BQ hb9 hst3 hos9 hop9
  by_cases hy0 : bys.length = 0
  · have t1 : ((bys.length : Int) == 0) = true := by rw [hy0]; rfl
    clear hy0
    have CX := hO9.x.cell
    have CQ := BQ9.cell
    have FQ := BQ9.free
    go_wp2_with fail
    exact oth_end rfl hO9 BQ9 (Nat.le_succ _) hbw9
  · have t1 : ((bys.length : Int) == 0) = false := by
      have : (bys.length : Int) ≠ 0 := by omega
      simpa using this
    have hy1 : 1 ≤ bys.length := by omega
    have hy2 : (1 : Int) ≤ (bys.length : Int) := by omega
    clear hy0
    go_wp2_with fail
    clear t1
    have HL0 : Hid (∀ k, (inp.bufs.getD k bsZ).size ≤ 140737488355328) := Lib.hid fun k => by
      rw [List.getD_eq_getElem?_getD]
      cases hk : inp.bufs[k]? with
      | none => exact Nat.zero_le _
      | some b => exact hz b (List.mem_of_getElem? hk)
    go_loopw [8, 9, 10, 11] (fun u v t s wr => ∃ (i at' : Nat) (j : SIn) (na ba : Option Addr) (nc bc : Nat), s = .int .i64 i ∧ i ≤ par.length ∧ u = .int .i64 (numsOf (par.take i)).length ∧ v = .int .i64 (bufsOf (par.take i)).length ∧ t = .int .i64 at' ∧ at' ≤ i * 150000000000000 ∧ Oth w.heap.size par inp wr gx j na ba nc bc ∧ Bk wr (w.heap.size + 1) zeroIn 30 ∧ Below w.heap.size w wr) (fun _ _ _ s _ => par.length - (intOf s).toNat)
    case atStart => exact ⟨0, 0, inp, sa, pa, sc, pc, rfl, Nat.zero_le _, rfl, rfl, rfl, Nat.zero_le _, hO9, BQ9, hbw9⟩
    case round =>
      clear hO9 BQ9 hbw9
      obtain ⟨i, at', j, na, ba, nc', bc', rfl, hi, rfl, rfl, rfl, hat, hO, hBQ, hb⟩ := hrel
      have hnl : (numsOf (par.take i)).length ≤ par.length := Nat.le_trans (List.length_filter_le _ _) (List.length_take_le' _ _)
      have hbl2 : (bufsOf (par.take i)).length ≤ par.length := Nat.le_trans (List.length_filter_le _ _) (List.length_take_le' _ _)
      by_cases hlt : i < par.length
      · obtain ⟨pb, po, rfl, g0, g1, g2, g3, g4⟩ := kHanded_at' (hP.mono hb) i hlt
        have ht : par.take (i + 1) = par.take i ++ [par[i]] := List.take_succ_eq_append_getElem hlt
        have hsn := sec_num_at hlt
        have hsb := sec_buf_at hlt
        obtain ⟨h, hh⟩ : ∃ h, h = par[i] := ⟨_, rfl⟩
        rw [← hh] at g0 g1 g2 g3 g4 ht hsn hsb
        have HT := Lib.hid ht
        have HSN := Lib.hid hsn
        have HSB := Lib.hid hsb
        clear ht hh hsn hsb
        go_upto_region 9 with (fail)
        obtain ⟨Wh, hWh⟩ : ∃ Wh, Wh = wr.alloc (.cells (parCells h) 70) := ⟨_, rfl⟩
        rw [← hWh]
        have BH : Bk Wh wr.heap.size (parCells h) 70 := by rw [hWh]; exact Bk.new wr _ _
        have hbh : Below wr.heap.size wr Wh := by rw [hWh]; exact (Below.refl wr.heap.size wr).alloc (Nat.le_refl _) _
        clear hWh g0 g1 g2 g3 g4
        have hOh := hO.below hbh
        have hBQh := hBQ.mono hbh
        have hbwh := bt hb hbh
        clear hO hBQ hb hbh
        have CH := BH.cell
        have CX := hOh.x.cell
        have hjn : j.nums.length ≤ 60 := by rw [← hOh.like.nl]; exact hnl0
        have hjb : j.bufs.length ≤ 60 := by rw [← hOh.like.bl]; exact hbl0
        cases hbuf : h.buf with
        | false =>
          have HN : Hid (((numsOf (par.take i)).length : Int) + 1 = (numsOf (par.take (i + 1))).length ∧ (bufsOf (par.take i)).length = (bufsOf (par.take (i + 1))).length) := Lib.hid (by rw [HT.out]; unfold bufsOf numsOf; simp [List.filter_append, List.filter_cons, hbuf])
          obtain ⟨n, hn⟩ : ∃ n, n = (numsOf (par.take i)).length := ⟨_, rfl⟩
          rw [← hn] at hnl ⊢
          have HNN := Lib.hid hn
          clear hn
          by_cases hgo : h.sec = true ∧ n < j.nums.length
          · obtain ⟨hs, hlt2⟩ := hgo
            have HSS := Lib.hid (HSN.out hbuf)
            obtain ⟨na0, nac, hne, hna0, hna1⟩ := hOh.n.form (by omega)
            obtain ⟨rfl, rfl⟩ : na = some ⟨na0, 0, none⟩ ∧ nc' = nac := by injection hne with h1 h2 h3; exact ⟨h1, h3⟩
            clear hne
            have cn : Wh.cell? ⟨na0, n, none⟩ = some (.int .u64 j.nums[n]) := by
              rw [World.ownsRow.cellAt hOh.n n (by omega)]
              simp [hlt2]
            have fn : Wh.frozen? ⟨na0, n, none⟩ = false := World.ownsRow.frozenAt hOh.n n
            have hyr := hY.mono hbwh
            obtain ⟨yb, yo, rfl, cy⟩ := kU8_at hyr (at' % bys.length) (Nat.mod_lt _ (by omega))
            have hm0 : ((at' : Int) % (bys.length : Int)).toNat = at' % bys.length := rfl
            have hm1 : 0 ≤ (at' : Int) % (bys.length : Int) := Int.emod_nonneg _ (by omega)
            have hm2 : (at' : Int) % (bys.length : Int) < (bys.length : Int) := Int.emod_lt_of_pos _ (by omega)
            have hatl : (at' : Int) ≤ 9000000000000000 := by omega
            go_upto_region 20 with (fail)
            have cq1 : Bk Wh (w.heap.size + 1) zeroIn 30 := hBQh
            go_region
            obtain ⟨x, hx⟩ : ∃ x, x = bits .xor .u64 j.nums[n] (IntKind.u64.wrap (IntKind.u64.wrap bys[at' % bys.length] * 2 ^ (8 * (at' % 8)))) := ⟨_, rfl⟩
            have hxr : 0 ≤ x ∧ x < 18446744073709551616 := by rw [hx]; exact u64_bits_range _ _ _
            rw [← hx]
            obtain ⟨W3, hW3⟩ : ∃ W3, W3 = (Wh.setCell ⟨na0, n, none⟩ (.int .u64 x)).drew := ⟨_, rfl⟩
            rw [← hW3]
            have hO3 : Oth w.heap.size par inp W3 gx ⟨j.nums.set n x, j.bufs⟩ (some ⟨na0, 0, none⟩) ba nc' bc' := by
              rw [hW3]
              exact (hOh.setNum n x hxr (by rw [HNN.out, HSS.out]; exact hs)).below (Below.refl _ _).drew
            have hBQ3 : Bk W3 (w.heap.size + 1) zeroIn 30 := by
              rw [hW3]
              exact (hBQh.other (fun e => by rw [e] at hBQh; exact own_not hOh.n hBQh (by decide) rfl) _).drew
            have hbw3 : Below w.heap.size w W3 := by rw [hW3]; exact (hbwh.setCell (p := ⟨na0, n, none⟩) hna0 _).drew
            clear hx hW3 hOh hBQh hbwh cn fn cy hyr cq1 CX CH BH
            go_wp2_with fail
            go_roundw
            case rel => exact ⟨i + 1, at' + 1, ⟨j.nums.set n x, j.bufs⟩, some ⟨na0, 0, none⟩, ba, nc', bc', by go_num, by omega, by rw [← HN.out.1, HNN.out], by rw [← HN.out.2], by go_num, by omega, hO3, hBQ3, hbw3⟩
            case measure => simp [intOf]; omega
          · have hsk : h.sec = false ∨ h.sec = true ∧ j.nums.length ≤ n := by
              cases hs : h.sec
              · exact .inl rfl
              · exact .inr ⟨rfl, by
                  rcases Nat.lt_or_ge n j.nums.length with h' | h'
                  · exact absurd ⟨hs, h'⟩ hgo
                  · exact h'⟩
            clear hgo
            rcases hsk with hs | ⟨hs, hge⟩
            · go_wp2_with fail
              go_roundw
              case rel => exact ⟨i + 1, at', j, na, ba, nc', bc', by go_num, by omega, by rw [← HN.out.1, HNN.out], by rw [← HN.out.2], rfl, Nat.le_trans hat (Nat.mul_le_mul_right _ (Nat.le_succ i)), hOh, hBQh, hbwh⟩
              case measure => simp [intOf]; omega
            · have tk : decide (n < j.nums.length) = false := decide_eq_false (by omega)
              go_wp2_with fail
              go_roundw
              case rel => exact ⟨i + 1, at', j, na, ba, nc', bc', by go_num, by omega, by rw [← HN.out.1, HNN.out], by rw [← HN.out.2], rfl, Nat.le_trans hat (Nat.mul_le_mul_right _ (Nat.le_succ i)), hOh, hBQh, hbwh⟩
              case measure => simp [intOf]; omega
        | true =>
          have HN : Hid (((bufsOf (par.take i)).length : Int) + 1 = (bufsOf (par.take (i + 1))).length ∧ (numsOf (par.take i)).length = (numsOf (par.take (i + 1))).length) := Lib.hid (by rw [HT.out]; unfold bufsOf numsOf; simp [List.filter_append, List.filter_cons, hbuf])
          obtain ⟨n, hn⟩ : ∃ n, n = (bufsOf (par.take i)).length := ⟨_, rfl⟩
          rw [← hn] at hbl2 ⊢
          have HNN := Lib.hid hn
          clear hn
          by_cases hgo : h.sec = true ∧ n < j.bufs.length
          · obtain ⟨hs, hlt2⟩ := hgo
            have HSS := Lib.hid (HSB.out hbuf)
            obtain ⟨bb0, bbc, hbe, hbb0, hbb1⟩ := hOh.b.form (by omega)
            obtain ⟨rfl, rfl⟩ : ba = some ⟨bb0, 0, none⟩ ∧ bc' = bbc := by injection hbe with h1 h2 h3; exact ⟨h1, h3⟩
            clear hbe
            have hgd : j.bufs.getD n bsZ = j.bufs[n] := by simp [List.getD_eq_getElem?_getD, hlt2]
            have hss : j.bufs[n].size ≤ 140737488355328 := by rw [← hgd, ← hOh.like.z n]; exact HL0.out n
            obtain ⟨s, hs'⟩ : ∃ s, s = j.bufs[n] := ⟨_, rfl⟩
            have cn : Wh.cell? ⟨bb0, n, none⟩ = some (.string s) := by
              rw [World.ownsRow.cellAt hOh.b n (by omega)]
              simp [hlt2, hs']
            rw [← hs'] at hss hgd
            have HGD := Lib.hid hgd
            clear hs' hgd
            have HCV := Lib.run_convert_string_bytes (P := Try.prog) Wh 9 42 5 s Try.underlying9 Try.underlying42 Try.underlying5
            obtain ⟨Wb, hWb⟩ : ∃ Wb, Wb = Lib.bytesWorld Wh 5 s := ⟨_, rfl⟩
            obtain ⟨cap, hcap⟩ : ∃ cap, cap = grownCap Wh s.size 0 5 := ⟨_, rfl⟩
            rw [← hWb, ← hcap] at HCV
            have hbb : Below Wh.heap.size Wh Wb := by rw [hWb]; exact bytesWorld_below Wh _ _
            have hrow : ByRow Wb w.heap.size (.slice (some ⟨Wh.heap.size, 0, none⟩) s.size cap) (bytesI s) := by rw [hWb]; exact bytesWorld_row hbwh.size s cap
            clear hWb hcap
            have hOb := hOh.below hbb
            have hBQb := hBQh.mono hbb
            have hbwb := bt hbwh hbb
            have hgb0 : w.heap.size ≤ Wh.heap.size := hbwh.size
            go_upto_region 12 with (fail)
            clear HCV CX CH cn
            obtain ⟨gb, hgb⟩ : ∃ gb, gb = Wh.heap.size := ⟨_, rfl⟩
            rw [← hgb] at hrow hgb0 ⊢
            clear hOh hBQh hbwh hbb BH hgb
            go_wp2_with fail
            have hbl1 : (bytesI s).length = s.size := bytesI_len s
            go_loopw [10, 14] (fun t q wr => ∃ (jj aa : Nat) (xs : List Int), q = .int .i64 jj ∧ jj ≤ s.size ∧ t = .int .i64 aa ∧ aa = at' + jj ∧ xs.length = s.size ∧ ByRow wr w.heap.size (.slice (some ⟨gb, 0, none⟩) s.size cap) xs ∧ Oth w.heap.size par inp wr gx j na (some ⟨bb0, 0, none⟩) nc' bc' ∧ Bk wr (w.heap.size + 1) zeroIn 30 ∧ Below w.heap.size w wr) (fun _ q _ => s.size - (intOf q).toNat)
            case atStart => exact ⟨0, at', bytesI s, rfl, Nat.zero_le _, rfl, rfl, hbl1, hrow, hOb, hBQb, hbwb⟩
            case round =>
              clear hrow hOb hBQb hbwb hbl1
              obtain ⟨jj, aa, xs, rfl, hjj, rfl, haa, hxl, hrow, hOb, hBQb, hbwb⟩ := hrel
              have HAA := Lib.hid haa
              have HXL := Lib.hid hxl
              obtain ⟨gb', cap', hge, hg0, hg1, hgc, hgf⟩ := hrow.shape
              obtain ⟨rfl, hge2⟩ : gb = gb' ∧ cap = cap' := by
                injection hge with h1 h2 h3
                injection h1 with h1
                injection h1 with h1 _ _
                exact ⟨h1, h3⟩
              clear hge hge2
              by_cases hlt3 : jj < s.size
              · have hjx : jj < xs.length := by omega
                have cg := hgc jj hjx
                have fg := hgf jj hjx
                have hyr := hY.mono hbwb
                obtain ⟨yb, yo, rfl, cy⟩ := kU8_at hyr (aa % bys.length) (Nat.mod_lt _ (by omega))
                have hm0 : ((aa : Int) % (bys.length : Int)).toNat = aa % bys.length := rfl
                have hm1 : 0 ≤ (aa : Int) % (bys.length : Int) := Int.emod_nonneg _ (by omega)
                have hm2 : (aa : Int) % (bys.length : Int) < (bys.length : Int) := Int.emod_lt_of_pos _ (by omega)
                have hatl : (aa : Int) ≤ 9150000000000000 := by omega
                clear hgc hgf hxl haa
                go_upto_region 15 with (fail)
                go_region
                obtain ⟨y, hy'⟩ : ∃ y, y = bits .xor .u8 xs[jj] bys[aa % bys.length] := ⟨_, rfl⟩
                rw [← hy']
                obtain ⟨W3, hW3⟩ : ∃ W3, W3 = (wr.setCell ⟨gb, jj, none⟩ (.int .u8 y)).drew := ⟨_, rfl⟩
                rw [← hW3]
                obtain ⟨cur, fz, hgh⟩ := hrow.heap
                have hrow3 : ByRow W3 w.heap.size (.slice (some ⟨gb, 0, none⟩) s.size cap) (xs.set jj y) := by rw [hW3]; exact (hrow.set jj y).drew'
                have hO3 : Oth w.heap.size par inp W3 gx j na (some ⟨bb0, 0, none⟩) nc' bc' := by
                  rw [hW3]
                  exact (hOb.other (set_grown wr gb jj _) hgh (by decide) (by decide) (by decide)).below (Below.refl _ _).drew
                have hBQ3 : Bk W3 (w.heap.size + 1) zeroIn 30 := by
                  rw [hW3]
                  refine (hBQb.other (fun e => ?_) _).drew
                  have h1 : wr.heap[w.heap.size + 1]? = _ := hBQb
                  have e' : w.heap.size + 1 = gb := e
                  rw [e', hgh] at h1
                  injection h1 with h1
                  injection h1 with _ h1 _
                  exact absurd h1 (by decide)
                have hbw3 : Below w.heap.size w W3 := by rw [hW3]; exact (hbwb.setCell (p := ⟨gb, jj, none⟩) hg0 _).drew
                have HL3 : Hid ((xs.set jj y).length = s.size) := Lib.hid (by rw [List.length_set]; exact HXL.out)
                have HA3 : Hid (aa + 1 = at' + (jj + 1)) := Lib.hid (by have := HAA.out; omega)
                clear hy' hW3 hrow hOb hBQb hbwb cg fg cy hyr hgh
                go_wp2_with fail
                go_roundw
                case rel => exact ⟨jj + 1, aa + 1, xs.set jj y, by go_num, by omega, by go_num, HA3.out, HL3.out, hrow3, hO3, hBQ3, hbw3⟩
                case measure => simp [intOf]; omega
              · have hjl : jj = s.size := by omega
                have HB3 : Hid (aa ≤ (i + 1) * 150000000000000) := Lib.hid (by
                  have e : (i + 1) * 150000000000000 = i * 150000000000000 + 150000000000000 := Nat.succ_mul _ _
                  omega)
                have HCV2 : (convert 42 9 (.slice (some ⟨gb, 0, none⟩) s.size cap)).run Try.prog wr = .ok (.string (strOfNums xs)) wr := run_convert_bytes_arg (P := Try.prog) wr 42 5 Try.underlying42 Try.underlying5 gb 0 s.size cap xs hxl (fun q hq => by
                  rw [Nat.zero_add, hgc q (by omega)]
                  simp [List.getD_eq_getElem?_getD, show q < xs.length by omega]) 9 Try.underlying9
                have hxs : (strOfNums xs).size = (j.bufs.getD n bsZ).size := by rw [strOfNums_size, hxl, HGD.out]
                obtain ⟨x, hx⟩ : ∃ x, x = strOfNums xs := ⟨_, rfl⟩
                rw [← hx] at HCV2 hxs
                have hO3 := hOb.setBuf n x hlt2 hxs (by rw [HNN.out, HSS.out]; exact hs)
                have HO3 := Lib.hid hO3
                have cn : wr.cell? ⟨bb0, n, none⟩ = some (.string j.bufs[n]) := by
                  rw [World.ownsRow.cellAt hOb.b n (by omega)]
                  simp [hlt2]
                have fn : wr.frozen? ⟨bb0, n, none⟩ = false := World.ownsRow.frozenAt hOb.b n
                have HBQ3 : Hid (Bk (wr.setCell ⟨bb0, n, none⟩ (.string x)) (w.heap.size + 1) zeroIn 30) := Lib.hid (hBQb.other (fun e => by rw [e] at hBQb; exact own_not hOb.b hBQb (by decide) rfl) _)
                have HBW3 : Hid (Below w.heap.size w (wr.setCell ⟨bb0, n, none⟩ (.string x))) := Lib.hid (hbwb.setCell (p := ⟨bb0, n, none⟩) hbb0 _)
                have CX := hOb.x.cell
                clear hjl hx hO3 hxs hxl haa hgc hgf hrow
                go_wp2_with fail
                go_roundw
                case rel => exact ⟨i + 1, aa, ⟨j.nums, j.bufs.set n x⟩, na, some ⟨bb0, 0, none⟩, nc', bc', by go_num, by omega, by rw [← HN.out.2], by rw [← HN.out.1, HNN.out], rfl, HB3.out, HO3.out, HBQ3.out, HBW3.out⟩
                case measure => simp [intOf]; omega
          · have hsk : h.sec = false ∨ h.sec = true ∧ j.bufs.length ≤ n := by
              cases hs : h.sec
              · exact .inl rfl
              · exact .inr ⟨rfl, by
                  rcases Nat.lt_or_ge n j.bufs.length with h' | h'
                  · exact absurd ⟨hs, h'⟩ hgo
                  · exact h'⟩
            clear hgo
            rcases hsk with hs | ⟨hs, hge⟩
            · go_wp2_with fail
              go_roundw
              case rel => exact ⟨i + 1, at', j, na, ba, nc', bc', by go_num, by omega, by rw [← HN.out.2], by rw [← HN.out.1, HNN.out], rfl, Nat.le_trans hat (Nat.mul_le_mul_right _ (Nat.le_succ i)), hOh, hBQh, hbwh⟩
              case measure => simp [intOf]; omega
            · have tk : decide (n < j.bufs.length) = false := decide_eq_false (by omega)
              go_wp2_with fail
              go_roundw
              case rel => exact ⟨i + 1, at', j, na, ba, nc', bc', by go_num, by omega, by rw [← HN.out.2], by rw [← HN.out.1, HNN.out], rfl, Nat.le_trans hat (Nat.mul_le_mul_right _ (Nat.le_succ i)), hOh, hBQh, hbwh⟩
              case measure => simp [intOf]; omega
      · have hil : i = par.length := by omega
        have CX := hO.x.cell
        have CQ := hBQ.cell
        have FQ := hBQ.free
        clear hil
        go_wp2_with fail
        exact oth_end rfl hO hBQ (Nat.le_succ _) hb
end Go.Proofs.Ytoabiignjkcdmaa
