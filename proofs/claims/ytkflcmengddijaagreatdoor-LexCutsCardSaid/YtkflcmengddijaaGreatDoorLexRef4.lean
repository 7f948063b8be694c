/-
  The document's one, joined; its Cut, walked.
-/
import Derived.Test.YtkflcmengddijaaGreatDoorLexRef3
import Derived.Test.YtkflcmengddijaaGreatDoorLexSame
namespace Go.Proofs.YtkflcmengddijaaGreatDoor
open Go.RowKit Lx
set_option linter.unusedVariables false
set_option linter.unusedSimpArgs false

theorem one_c (s : ByteArray) (a : Nat) (w : World) (hs : s.size ≤ 1000000) (has : a < s.size) :
    Calls Tryz.prog 31 #[.string s, .int .i64 a] w fun e w' => e = .returned (oneV a (Lx.next (s.data.toList.drop a))) ∧ Below w.heap.size w w' := by
  by_cases hp : (s.data.toList.drop a).takeWhile isDigit = []
  · by_cases hq : (s.data.toList.drop a).takeWhile isPart = []
    · have hno : isPart s[a] = false := by
        have h := run_end isPart s a (by rw [hq]; simpa using has)
        simpa [hq] using h
      refine (one_sign s a w hs has hno (strB (signOf (s.data.toList.drop a))) rfl).mono fun e w' ⟨he, hb⟩ => ⟨?_, hb⟩
      rw [he]
      congr 1
      unfold Lx.next
      simp only [hp, hq, ne_eq, not_true_eq_false, if_false]
      have hsz : (strB (signOf (s.data.toList.drop a))).size = (signOf (s.data.toList.drop a)).length := rfl
      rw [hsz]
      by_cases hg : signOf (s.data.toList.drop a) = []
      · rw [if_pos (by rw [hg]; rfl), if_pos hg]
      · rw [if_neg (fun h => hg (List.eq_nil_of_length_eq_zero h)), if_neg hg]
        rfl
    · have hd : isDigit s[a] = false := by
        have h := run_end isDigit s a (by rw [hp]; simpa using has)
        simpa [hp] using h
      have hQp : 0 < ((s.data.toList.drop a).takeWhile isPart).length := List.length_pos_iff.2 hq
      have hXd := run_slice isPart s a
      have hle := run_le isPart s a (by omega)
      refine (one_word s a _ w hs has hd ⟨hle, fun k h h1 h2 => run_at isPart s a k h1 h2 h, run_end isPart s a⟩ hQp (s.extract a (a + ((s.data.toList.drop a).takeWhile isPart).length)) rfl (by rw [← size_data, hXd]) _ rfl).mono fun e w' ⟨he, hb⟩ => ⟨?_, hb⟩
      rw [he, hXd]
      congr 1
      unfold Lx.next
      simp only [hp, hq, ne_eq, not_true_eq_false, if_false, not_false_eq_true, if_true]
      have hX : s.extract a (a + ((s.data.toList.drop a).takeWhile isPart).length) = ⟨((s.data.toList.drop a).takeWhile isPart).toArray⟩ := by
        have e : ∀ Y : ByteArray, Y = ⟨Y.data.toList.toArray⟩ := fun _ => rfl
        exact (e _).trans (by rw [hXd])
      split
      · rfl
      · rw [hX]
        split <;> simp_all [oneV, tokV]
  · have hPp : 0 < ((s.data.toList.drop a).takeWhile isDigit).length := List.length_pos_iff.2 hp
    have hXd := run_slice isDigit s a
    have hle := run_le isDigit s a (by omega)
    have hXs : (s.extract a (a + ((s.data.toList.drop a).takeWhile isDigit).length)).size = ((s.data.toList.drop a).takeWhile isDigit).length := by rw [← size_data, hXd]
    refine (one_num s a _ w hs ⟨hle, fun k h h1 h2 => run_at isDigit s a k h1 h2 h, run_end isDigit s a⟩ hPp (numOf ((s.data.toList.drop a).takeWhile isDigit)) (fun w => ?_)).mono fun e w' ⟨he, hb⟩ => ⟨?_, hb⟩
    · have := rNumber_c (s.extract a (a + ((s.data.toList.drop a).takeWhile isDigit).length)) w (by omega) (by omega) (by rw [hXd]; exact mem_tw _)
      rw [hXd] at this
      exact this
    · rw [he]
      congr 1
      unfold Lx.next
      simp only [hp, ne_eq, not_false_eq_true, if_true]
      cases numOf ((s.data.toList.drop a).takeWhile isDigit) <;> rfl

/-- Two results, of which the second one lies in a block of its own. -/
theorem results_row2 {P : Program} {fn : Func} {p u : Tmp} {ty : TypeId} (h : fn.results = #[.tmp u, .cell p ty]) (tmps : Array Value) (w : World) (g : Nat) (cs : Array Value) (d : TypeDesc)
    (hp : tmps.getD p undef = .pointer (some ⟨g, 0, none⟩)) (hg : Bk w g cs ty)
    (hu : P.underlying ty = some d) (hd : (match d with | .struct _ | .array _ _ => true | _ => false) = true) (hi : (P.info? ty).map (·.size) = some cs.size) :
    (results fn tmps).run P w = .ok (.tuple #[tmps.getD u undef, .agg cs]) w := by
  have hp' : tmps[p]?.getD undef = .pointer (some ⟨g, 0, none⟩) := by simpa using hp
  have hl := run_loadVar_row (P := P) w g ty ty cs (0, 0) d hg hu hd hi
  simp only [results, h]
  simp [hp', hl, asAddr, Sem.run_bind, Result.andThen]
theorem next_err {s : List UInt8} {c : Int} (h : Lx.next s = .error c) : c = 5 ∨ c = 7 := by
  unfold Lx.next at h
  simp only [] at h
  split at h
  · split at h
    · cases h
    · injection h with h; exact .inr h.symm
  · split at h
    · split at h
      · injection h with h; exact .inl h.symm
      · split at h <;> cases h
    · split at h
      · injection h with h; exact .inr h.symm
      · cases h
def RCutR (r : Except (Int × Int) (List STok)) (e : Ending) (w : World) : Prop :=
  match r with
  | .ok l => ∃ A c, e = .returned (.tuple #[.slice A l.length c, .agg #[.int .i64 0, .int .i64 0]]) ∧ kTok.Row w A l
  | .error (a, c) => e = .returned (.tuple #[.slice none 0 0, .agg #[.int .i64 a, .int .i64 c]])

set_option maxRecDepth 100000 in
set_option maxHeartbeats 4000000 in
theorem rCut_c (s : ByteArray) (w : World) (hs : (s.size : Int) ≤ 16384) : Calls Tryz.prog 9 #[.string s] w fun e w' => RCutR (Lx.cut s.data.toList) e w' ∧ Below w.heap.size w w' := by
  have B0 := Bk.new w #[.int .i64 0, .int .i64 0] 30
  have hb0 : Below w.heap.size w (w.alloc (.cells #[.int .i64 0, .int .i64 0] 30)) := (Below.refl _ _).alloc (Nat.le_refl _) _
  go_enter Tryz.func9, Tryz.ntmps9
  go_wp2_with fail
  obtain ⟨wa, hwa⟩ : ∃ wa, wa = w.alloc (.cells #[.int .i64 0, .int .i64 0] 30) := ⟨_, rfl⟩
  rw [← hwa] at B0 hb0 ⊢
  have hza : wa.heap.size = w.heap.size + 1 := by rw [hwa]; simp
  clear hwa
  have hcut : Lx.cut s.data.toList = Lx.scan (s.size + 1) s.data.toList 0 := by unfold Lx.cut; rw [if_neg (by rw [size_data]; omega), size_data]
  have HC := Lib.hid hcut
  clear hcut
  go_loopw [4, 5] (fun v i wr => ∃ (k : Nat) (ts : List STok), k ≤ s.size ∧ ts.length ≤ k ∧ i = .int .i64 k ∧ wr.ownsRow wa.heap.size 50 4 v ts.length (cellsOf ts) ∧ Below wa.heap.size wa wr ∧
    ∃ F, s.size - k < F ∧ Lx.scan (s.size + 1) s.data.toList 0 = (Lx.scan F (s.data.toList.drop k) k).map fun r => ts ++ r) (fun _ i _ => s.size - (intOf i).toNat)
  case atStart => exact ⟨0, [], Nat.zero_le _, Nat.zero_le _, rfl, World.ownsRow_nil .., Below.refl _ _, s.size + 1, by omega, by simp only [List.nil_append, List.drop_zero]; cases Lx.scan (s.size + 1) s.data.toList 0 <;> rfl⟩
  case round =>
    obtain ⟨k, ts, hk, hts, rfl, hown, hB, F, hF, hscan⟩ := hrel
    obtain ⟨F, rfl⟩ : ∃ m, F = m + 1 := ⟨F - 1, by omega⟩
    have HS := Lib.hid hscan
    clear hscan
    have i0 : (0 : Int) ≤ (k : Int) := by omega
    have B1 := B0.mono hB
    have C1 := B1.cell
    have F1 := B1.free
    have hz1 := hB.size
    by_cases hlt : k < s.size
    · have i1 : (k : Int) < (s.size : Int) := by omega
      cases hbl : isBlank s[k] with
      | true =>
        have hstep := scan_blank (F := F) (k := k) (r := s.data.toList.drop (k + 1)) hbl
        have HST := Lib.hid hstep
        have hor : ((s[k].toNat : Nat) : Int) = 32 ∨ ((s[k].toNat : Nat) : Int) = 10 := by
          simp [isBlank] at hbl
          omega
        clear hstep hbl
        rcases hor with h32 | h10
        · go_wp2_with fail
          exact ⟨⟨k + 1, ts, by omega, by omega, by go_num, hown, hB, F + 1, by omega, by rw [HS.out, drop_data s k hlt, HST.out]⟩, by simp [intOf]; omega⟩
        · have hn : ¬ ((s[k].toNat : Nat) : Int) = 32 := by omega
          go_wp2_with fail
          exact ⟨⟨k + 1, ts, by omega, by omega, by go_num, hown, hB, F + 1, by omega, by rw [HS.out, drop_data s k hlt, HST.out]⟩, by simp [intOf]; omega⟩
      | false =>
        have hn1 : ¬ ((s[k].toNat : Nat) : Int) = 32 := by simp [isBlank] at hbl; omega
        have hn2 : ¬ ((s[k].toNat : Nat) : Int) = 10 := by simp [isBlank] at hbl; omega
        have hn3 : (((s[k].toNat : Nat) : Int) == 32) = false := by simpa using hn1
        have hn4 : (((s[k].toNat : Nat) : Int) == 10) = false := by simpa using hn2
        have hstep := scan_here (F := F) (k := k) (r := s.data.toList.drop (k + 1)) hbl
        rw [← drop_data s k hlt] at hstep
        clear hbl
        cases hnx : Lx.next (s.data.toList.drop k) with
        | error c =>
          have hO : ∀ W, Calls Tryz.prog 31 #[.string s, .int .i64 k] W fun e w' => e = .returned (.tuple #[.agg #[.int .u8 0, .string ⟨#[]⟩, .int .u64 0, .int .i64 0], .int .i64 0, .int .i64 c]) ∧ Below W.heap.size W w' := by
            intro W
            have := one_c s k W (by omega) hlt
            rw [hnx] at this
            exact this
          rw [hnx] at hstep
          have HST := Lib.hid hstep
          have HO := Lib.hid hO
          have hc0 : ¬ c = 0 := by rcases next_err hnx with h | h <;> omega
          have hc1 : (c == 0) = false := by simpa using hc0
          clear hstep hO hnx
          go_wp2_with (go_at_call 31; go_must (refine (HO.out _).mono ?_); rintro e w1 ⟨rfl, hb1⟩; have B2 := (B1.mono hb1).alloc (.cells #[.int .u8 0, .string ⟨#[]⟩, .int .u64 0, .int .i64 0] 50); have C2 := B2.cell; have F2 := B2.free; have hz2 := hb1.size)
          have B3 := (B2.set 0 (.int .i64 k)).set 1 (.int .i64 c)
          have hw1 := bt hb0 (bt hB hb1)
          refine bodyPost_ret (results_row2 rfl _ _ _ _ _ rfl B3 Tryz.underlying30 rfl (by kernel_rfl)) rfl ⟨?_, ((hw1.alloc hw1.size _).setCell (Nat.le_refl _) _).setCell (Nat.le_refl _) _⟩
          rw [HC.out, HS.out, HST.out]
          rfl
        | ok x =>
          obtain ⟨⟨tk, tt, tn, ta⟩, n⟩ := x
          obtain ⟨n1, n2⟩ := next_pos hnx
          have hO : ∀ W, Calls Tryz.prog 31 #[.string s, .int .i64 k] W fun e w' => e = .returned (.tuple #[.agg #[.int .u8 tk, .string ⟨tt.toArray⟩, .int .u64 tn, .int .i64 k], .int .i64 n, .int .i64 0]) ∧ Below W.heap.size W w' := by
            intro W
            have := one_c s k W (by omega) hlt
            rw [hnx] at this
            exact this
          rw [hnx] at hstep
          rw [List.length_drop, size_data] at n2
          have HST := Lib.hid hstep
          have HO := Lib.hid hO
          have n3 : (k : Int) + (n : Int) ≤ (s.size : Int) := by omega
          have n4 : (1 : Int) ≤ (n : Int) := by omega
          clear hstep hO hnx n2
          go_wp2_with (first
            | (go_at_call 31; go_must (refine (HO.out _).mono ?_); rintro e w1 ⟨rfl, hb1⟩; have T0 := Bk.new w1 #[.int .u8 tk, .string ⟨tt.toArray⟩, .int .u64 tn, .int .i64 k] 50; have D0 := T0.cell; have hz2 := hb1.size)
            | (at_builtin; refine wpList_append_tok rfl _ _ rfl wa.heap.size _ ts.length (cellsOf ts) rfl (((own_below hown hb1).alloc _).alloc _) (w1.heap.size + 1) _ _ _ _ ⟨rfl, rfl, rfl, rfl⟩ rfl (Bk.newAt _ _ (by simp)) (by omega) (by simp; omega) ?_; intro v1 w3 hown1 hgrow)
            | fail)
          have hown2 : w3.ownsRow wa.heap.size 50 4 v1 (ts ++ [(⟨tk, tt, tn, (k : Nat)⟩ : STok)]).length (cellsOf (ts ++ [⟨tk, tt, tn, (k : Nat)⟩])) := by
            rw [cellsOf_snoc]
            simpa [tokCells] using hown1
          have hbA := hB.trans (hb1.mono hz1)
          have hbC := (hbA.alloc hbA.size (.cells #[.int .u8 tk, .string ⟨tt.toArray⟩, .int .u64 tn, .int .i64 k] 50)).alloc (by have := hbA.size; simp; omega) (.cells #[.int .u8 tk, .string ⟨tt.toArray⟩, .int .u64 tn, .int .i64 k] 50)
          have hb3 := hbC.grown hgrow hbC.size (own_from hown)
          refine ⟨⟨k + n, ts ++ [⟨tk, tt, tn, (k : Nat)⟩], by omega, by simp; omega, by go_num, hown2, hb3, F, by omega, ?_⟩, by simp [intOf]; omega⟩
          rw [HS.out, HST.out, List.drop_drop]
          cases Lx.scan F (List.drop (k + n) s.data.toList) (k + n) <;> simp [Except.map]
    · have i1 : (s.size : Int) ≤ (k : Int) := by omega
      obtain rfl : k = s.size := by omega
      go_wp2_with (at_builtin; refine wpList_append_tok rfl _ _ rfl wa.heap.size _ ts.length (cellsOf ts) rfl (hown.alloc _) _ _ _ _ _ ⟨rfl, rfl, rfl, rfl⟩ rfl (Bk.new _ _ _) (by omega) (by simp; omega) ?_; intro v1 w3 hown1 hgrow; have B3 := (B1.alloc (.cells #[.int .u8 5, .string ⟨#[]⟩, .int .u64 0, .int .i64 s.size] 50)).grown hgrow (own_base hown (by omega)); have C3 := B3.cell; have F3 := B3.free)
      have hscan2 := HS.out
      rw [List.drop_of_length_le (by rw [size_data]; exact Nat.le_refl _), scan_done] at hscan2
      have hown2 : w3.ownsRow wa.heap.size 50 4 v1 (ts.length + 1) (cellsOf (ts ++ [⟨5, [], 0, (s.size : Nat)⟩])) := by rw [cellsOf_snoc]; simpa [tokCells] using hown1
      obtain ⟨a9, c9, rfl, hr⟩ := own_row hown2 (by simp)
      have hb9 := (bt hb0 hB).alloc (by have := (bt hb0 hB).size; omega) (.cells #[.int .u8 5, .string ⟨#[]⟩, .int .u64 0, .int .i64 s.size] 50)
      have B4 := (B3.set 0 (.int .i64 0)).set 1 (.int .i64 0)
      have hbA := (hb9.grown hgrow (by simp; have := (bt hb0 hB).size; omega) (fun q hq => by have := own_from hown q hq; omega))
      refine bodyPost_ret (results_row2 rfl _ _ _ _ _ rfl B4 Tryz.underlying30 rfl (by kernel_rfl)) rfl ⟨?_, (hbA.setCell (Nat.le_refl _) _).setCell (Nat.le_refl _) _⟩
      obtain ⟨a8, c8, e8, hr8⟩ := own_row (ownsRow_setCell_below (ownsRow_setCell_below hown2 (a := ⟨w.heap.size, 0, none⟩) (by show w.heap.size < _; omega) (.int .i64 0)) (a := ⟨w.heap.size, 1, none⟩) (by show w.heap.size < _; omega) (.int .i64 0)) (by simp)
      obtain ⟨rfl, rfl⟩ : a9 = a8 ∧ c9 = c8 := by injection e8 with h1 h2 h3; exact ⟨h1, h3⟩
      rw [HC.out, hscan2]
      exact ⟨a9, c9, rfl, hr8⟩

theorem rCut_long (s : ByteArray) (w : World) (hs : (16384 : Int) < (s.size : Int)) : Calls Tryz.prog 9 #[.string s] w fun e w' => RCutR (Lx.cut s.data.toList) e w' ∧ Below w.heap.size w w' := by
  have B0 := Bk.new w #[.int .i64 0, .int .i64 0] 30
  have hb0 : Below w.heap.size w (w.alloc (.cells #[.int .i64 0, .int .i64 0] 30)) := (Below.refl _ _).alloc (Nat.le_refl _) _
  go_enter Tryz.func9, Tryz.ntmps9
  go_wp2_with fail
  have : Lx.cut s.data.toList = .error (0, 5) := by
    unfold Lx.cut
    rw [if_pos (by rw [size_data]; omega)]
  rw [this]
  exact bodyPost_ret (results_row2 rfl _ _ _ _ _ rfl (Bk.new w #[.int .i64 0, .int .i64 5] 30) Tryz.underlying30 rfl (by kernel_rfl)) rfl ⟨by rfl, (Below.refl _ _).alloc (Nat.le_refl _) _⟩
theorem rCut_any (s : ByteArray) (w : World) : Calls Tryz.prog 9 #[.string s] w fun e w' => RCutR (Lx.cut s.data.toList) e w' ∧ Below w.heap.size w w' := by
  by_cases h : (s.size : Int) ≤ 16384
  · exact rCut_c s w h
  · exact rCut_long s w (by omega)
theorem scan_code : ∀ (F : Nat) (s : List UInt8) (k : Nat) (a c : Int), Lx.scan F s k = .error (a, c) → c = 5 ∨ c = 7
  | 0, s, k, a, c, h => by cases h
  | F + 1, s, k, a, c, h => by
    simp only [Lx.scan] at h
    split at h
    · cases h
    · split at h
      · rename_i e he
        injection h with h
        injection h with _ h
        subst h
        exact next_err he
      · rename_i t n he
        generalize hX : Lx.scan F _ _ = X at h
        cases X with
        | ok l => cases h
        | error x =>
          obtain ⟨a', c'⟩ := x
          injection h with h
          injection h with h1 h2
          subst h1 h2
          exact scan_code F _ _ _ _ hX
theorem cut_code {s : List UInt8} {a c : Int} (h : Lx.cut s = .error (a, c)) : (c == 0) = false := by
  unfold Lx.cut at h
  split at h
  · injection h with h
    injection h with _ h
    subst h; rfl
  · rcases scan_code _ _ _ _ _ h with rfl | rfl <;> rfl
end Go.Proofs.YtkflcmengddijaaGreatDoor
