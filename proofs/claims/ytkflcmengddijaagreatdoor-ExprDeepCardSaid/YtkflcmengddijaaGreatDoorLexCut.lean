/-
  lex.Cut walked.
-/
import Derived.Test.YtkflcmengddijaaGreatDoorLexApp
import Derived.Test.YtkflcmengddijaaGreatDoorLexIs
import Derived.ScopeJumps
namespace Go.Proofs.YtkflcmengddijaaGreatDoor
open Go.RowKit Lx
set_option linter.unusedVariables false
set_option linter.unusedSimpArgs false

/-- What stands at the label: k bytes are cut, into ts. -/
def CutI (s : ByteArray) (w0 : World) (a : Act) (w : World) : Prop :=
  ∃ (k : Nat) (ts : List STok) (v : Value) (u6 u7 u8 u9 u10 u11 u12 u13 u14 u15 u16 u17 u18 u19 u20 u21 u22 u23 u24 u25 u26 u27 u28 u29 u30 u31 u32 u33 u34 u35 u36 u37 u38 u39 u40 u41 u42 u43 u44 u45 u46 u47 u48 u49 u50 u51 u52 u53 u54 u55 : Value), (k ≤ s.size ∧ ts.length ≤ k ∧ w.ownsRow w0.heap.size 50 4 v ts.length (cellsOf ts) ∧ Env w ∧ Below w0.heap.size w0 w ∧
    ∃ F, s.size - k < F ∧ Lx.scan (s.size + 1) s.data.toList 0 = (Lx.scan F (s.data.toList.drop k) k).map fun r => ts ++ r) ∧
    a = ⟨#[.string s, undef, .slice none 0 0, .nilIface, v, .int .i64 k, u6, u7, u8, u9, u10, u11, u12, u13, u14, u15, u16, u17, u18, u19, u20, u21, u22, u23, u24, u25, u26, u27, u28, u29, u30, u31, u32, u33, u34, u35, u36, u37, u38, u39, u40, u41, u42, u43, u44, u45, u46, u47, u48, u49, u50, u51, u52, u53, u54, u55], []⟩
def CutR (r : Except (Int × Int) (List STok)) (e : Ending) (w : World) : Prop :=
  match r with
  | .ok ts => ∃ A c, e = .returned (.tuple #[.slice A ts.length c, .nilIface]) ∧ kTok.Row w A ts
  | .error (a, c) => e = .returned (.tuple #[.slice none 0 0, faultV a c])

/-- A scope in which the run jumps back to one label, that it first comes to by itself. -/
theorem wp_scope_label {P : Program} {a : Act} {w : World} {Q : Exit → Act → World → Prop} {c rest : Code} (l : Nat) (J : Act → World → Prop) (μ : Act → World → Nat) (hf : findLabel c l = some (Code.seq .skip rest))
    (first : Hid (∀ a w, J a w → rest.wp P (Exit.jump l J Q) a w) → c.wp P (Exit.jump l J Q) a w)
    (pass : ∀ a w, J a w → rest.wp P (Exit.jump l (fun a' w' => J a' w' ∧ μ a' w' < μ a w) Q) a w) : (Code.scope c).wp P Q a w :=
  wp_scope_jumps l J μ hf (first (Lib.hid fun a w hJ => wp_mono (Q' := Exit.jump l J Q) (pass a w hJ) fun e a' w' h => by
    cases e with
    | goto l' => exact ⟨h.1, h.2.1⟩
    | _ => exact h)) (fun a w hJ => wp_seq (wp_skip (pass a w hJ)))

theorem scan_end {l : List UInt8} {k b F : Nat} (hF : 0 < F) (hb : ((l.drop k).takeWhile isBlank).length = b) (he : k + b = l.length) : Lx.scan F (l.drop k) k = .ok [⟨5, [], 0, ((k + b : Nat) : Int)⟩] := by
  obtain ⟨F, rfl⟩ : ∃ m, F = m + 1 := ⟨F - 1, by omega⟩
  have hd : (l.drop k).drop b = [] := by rw [List.drop_drop]; exact List.drop_eq_nil_of_le (by omega)
  simp only [Lx.scan, hb, hd, if_true]
theorem scan_err {l : List UInt8} {k b F : Nat} {e : Int} (hF : 0 < F) (hb : ((l.drop k).takeWhile isBlank).length = b) (he : k + b < l.length) (hn : Lx.next (l.drop (k + b)) = .error e) : Lx.scan F (l.drop k) k = .error (((k + b : Nat) : Int), e) := by
  obtain ⟨F, rfl⟩ : ∃ m, F = m + 1 := ⟨F - 1, by omega⟩
  have hd : l.drop (k + b) ≠ [] := fun h => by
    have := congrArg List.length h
    simp at this
    omega
  simp only [Lx.scan, hb, List.drop_drop, if_neg hd, hn]
theorem scan_tok {l : List UInt8} {k b F n : Nat} {t : STok} (hb : ((l.drop k).takeWhile isBlank).length = b) (he : k + b < l.length) (hn : Lx.next (l.drop (k + b)) = .ok (t, n)) :
    Lx.scan (F + 1) (l.drop k) k = (Lx.scan F (l.drop (k + b + n)) (k + b + n)).map fun r => { t with at' := ((k + b : Nat) : Int) } :: r := by
  have hd : l.drop (k + b) ≠ [] := fun h => by
    have := congrArg List.length h
    simp at this
    omega
  simp only [Lx.scan, hb, List.drop_drop, if_neg hd, hn]
theorem next_at {s : List UInt8} {t : STok} {n : Nat} (h : Lx.next s = .ok (t, n)) : t.at' = 0 := by
  unfold Lx.next at h
  simp only [] at h
  split at h
  · split at h
    · injection h with h; injection h with h _; subst h; rfl
    · cases h
  · split at h
    · split at h
      · cases h
      · split at h
        · injection h with h; injection h with h _; subst h; rfl
        · injection h with h; injection h with h _; subst h; rfl
    · split at h
      · cases h
      · injection h with h; injection h with h _; subst h; rfl
theorem extract_data' (s : ByteArray) (k : Nat) : (s.extract k s.size).data.toList = s.data.toList.drop k := by
  exact Lib.extract_to_end s k

set_option maxRecDepth 100000 in
set_option maxHeartbeats 4000000 in
theorem cut_c (s : ByteArray) (w0 : World) (hw : Env w0) (hs : s.size ≤ 16384) :
    Calls Tryz.prog 8 #[.string s] w0 fun e w' => CutR (Lx.cut s.data.toList) e w' ∧ Below w0.heap.size w0 w' := by
  have hs' : ((s.size : Int)) ≤ 16384 := by omega
  go_enter Tryz.func8, Tryz.ntmps8
  go_wp2
  refine wp_scope_label 0 (CutI s w0) (fun a' _ => s.size - (intOf (a'.tmps.getD 5 undef)).toNat) rfl ?_ ?_
  · intro HP
    go_wp2
    go_step3
    rename_i hK
    refine hK _ _ ?_
    exact HP.out _ _ ⟨0, [], .slice none 0 0, _, _, _, _, _, _, _, _, _, _, _, _, _, _, _, _, _, _, _, _, _, _, _, _, _, _, _, _, _, _, _, _, _, _, _, _, _, _, _, _, _, _, _, _, _, _, _, _, _, _, ⟨Nat.zero_le _, Nat.zero_le _, World.ownsRow_nil .., hw, Below.refl _ _, s.size + 1, by omega, by simp only [List.nil_append, List.drop_zero]; cases Lx.scan (s.size + 1) s.data.toList 0 <;> rfl⟩, rfl⟩
  · rintro a' w ⟨k, ts, v, u6, u7, u8, u9, u10, u11, u12, u13, u14, u15, u16, u17, u18, u19, u20, u21, u22, u23, u24, u25, u26, u27, u28, u29, u30, u31, u32, u33, u34, u35, u36, u37, u38, u39, u40, u41, u42, u43, u44, u45, u46, u47, u48, u49, u50, u51, u52, u53, u54, u55, ⟨hk, hts, hown, hE, hB, F, hF, hscan⟩, rfl⟩
    have hk1 : (k : Int) ≤ (s.size : Int) := by omega
    have hk0 : (0 : Int) ≤ (k : Int) := by omega
    obtain ⟨P, hP⟩ : ∃ P, P = pieceS isBlank (s.extract k s.size) := ⟨_, rfl⟩
    have hpc : ∀ w, Calls Tryz.prog 27 #[.string (s.extract k s.size), .func (.func 28) #[] #[]] w fun e w' => e = .returned (.string P) ∧ w = w' := by
      intro w
      rw [hP]
      exact piece_c _ _ blank_c enBlank _ w (by simp; omega)
    have hb1 : k + P.size ≤ s.size := by
      have := pieceS_le isBlank (s.extract k s.size)
      rw [← hP] at this
      simp at this
      omega
    have hPb : ((s.data.toList.drop k).takeWhile isBlank).length = P.size := by rw [hP, pieceS_size, extract_data']
    have HPb := Lib.hid hPb
    have HPC := Lib.hid hpc
    have HS := Lib.hid hscan
    have hbW : ∀ W, Below w0.heap.size w0 W → w0.heap.size ≤ W.heap.size := fun W h => h.size
    clear hpc hP hscan hPb
    have hb2 : (k : Int) + (P.size : Int) ≤ (s.size : Int) := by omega
    have hb3 : (0 : Int) ≤ (k : Int) + (P.size : Int) := by omega
    have hsz0 : w0.heap.size ≤ w.heap.size := hB.size
    cases hend : ((k : Int) + (P.size : Int) == (s.size : Int)) with
    | true =>
      have hend' : k + P.size = s.data.toList.length := by rw [size_data]; have := beq_iff_eq.1 hend; omega
      have HE' := Lib.hid hend'
      clear hend'
      go_wp2_with (first
        | (go_at_call 27; refine (HPC.out _).mono ?_; rintro e w' ⟨rfl, rfl⟩)
        | (at_builtin; refine wpList_append_tok rfl _ _ rfl w0.heap.size v ts.length (cellsOf ts) rfl (hown.alloc _) w.heap.size _ _ _ _ ⟨rfl, rfl, rfl, rfl⟩ rfl (Bk.new _ _ _) (by omega) (by simp; omega) ?_; intro v1 w2 hown1 hgrow))
      simp only [Exit.jump]
      go_ret2
      have e1 := scan_end (F := F) (by omega) HPb.out HE'.out
      have hown2 : w2.ownsRow w0.heap.size 50 4 v1 (ts.length + 1) (cellsOf (ts ++ [⟨5, [], 0, ((k + P.size : Nat) : Int)⟩])) := by rw [cellsOf_snoc]; simpa [tokCells] using hown1
      obtain ⟨a, c, rfl, hr⟩ := own_row hown2 (by simp)
      have hcut : Lx.cut s.data.toList = .ok (ts ++ [⟨5, [], 0, ((k + P.size : Nat) : Int)⟩]) := by
        unfold Lx.cut
        rw [if_neg (by rw [size_data]; omega), size_data, HS.out, e1]
        rfl
      rw [hcut]
      exact ⟨⟨a, c, by simp, hr⟩, (hB.alloc hsz0 _).grown hgrow (by simp; omega) (own_from hown)⟩
    | false =>
      have hlt : k + P.size < s.data.toList.length := by rw [size_data]; have := beq_eq_false_iff_ne.1 hend; omega
      have HLT := Lib.hid hlt
      clear hlt
      cases hnx : Lx.next (s.data.toList.drop (k + P.size)) with
      | error c =>
        have hN : ∀ W, Env W → Calls Tryz.prog 29 #[.string (s.extract (k + P.size) s.size)] W fun e w' => e = .returned (.tuple #[.agg #[.int .u8 0, .string ⟨#[]⟩, .int .u64 0, .int .i64 0], .string ⟨#[]⟩, .iface 30 (.agg #[.int .i64 0, .int .i64 c])]) ∧ Below W.heap.size W w' := by
          intro W hW
          refine (next_c (s.extract (k + P.size) s.size) W hW (by simp; omega)).mono ?_
          rintro e w' ⟨h1, h2⟩
          rw [extract_data', hnx] at h1
          exact ⟨h1, h2⟩
        have HN := Lib.hid hN
        have HX := Lib.hid hnx
        clear hN hnx
        go_wp2_with (first
          | (go_at_call 27; refine (HPC.out _).mono ?_; rintro e w' ⟨rfl, rfl⟩)
          | (go_at_call 29; refine (HN.out _ hE).mono ?_; rintro e w1 ⟨rfl, hb1⟩)
          | (go_at_call 30; refine (as_hit (w1.heap.size + 1) _ _ 0 c _ ((hE.mono hb1).mono (((Below.refl _ _).alloc (Nat.le_refl _) _).alloc (by simp) _)) (Bk.newAt _ _ (by simp))).mono ?_; rintro e w2 ⟨rfl, K1, hg1⟩; have C1 := K1.cell; have F1 := K1.free; have K2 := K1.set 0 (.int .i64 (↑k + ↑P.size)); have z2 := K1.lt; have hb2' := (((hB.trans (hb1.mono hsz0)).alloc (Nat.le_trans hsz0 hb1.size) (.cells #[.int .u8 0, .string ⟨#[]⟩, .int .u64 0, .int .i64 0] 50)).alloc (by have := hb1.size; simp; omega) (.cells #[.int .i64 0, .int .i64 0] 30)).grown hg1 (by have := hb1.size; simp; omega) (fun q hq => by cases hq; have := hb1.size; omega); clear hg1))
        have d0 : (w2.setCell ⟨w1.heap.size + 1, 0, none⟩ (.int .i64 (↑k + ↑P.size))).cell? ⟨w1.heap.size + 1, 0, none⟩ = some (.int .i64 (↑k + ↑P.size)) := by simpa using K2.cell 0
        have d1 : (w2.setCell ⟨w1.heap.size + 1, 0, none⟩ (.int .i64 (↑k + ↑P.size))).cell? ⟨w1.heap.size + 1, 1, none⟩ = some (.int .i64 c) := by simpa using K2.cell 1
        go_quiet (fail)
        go_wp2
        simp only [Exit.jump]
        go_ret2
        have hcut : Lx.cut s.data.toList = .error (((k + P.size : Nat) : Int), c) := by
          unfold Lx.cut
          rw [if_neg (by rw [size_data]; omega), size_data, HS.out, scan_err (by omega) HPb.out HLT.out HX.out]
          rfl
        rw [hcut]
        have hb3' := hb2'.setCell (p := ⟨w1.heap.size + 1, 0, none⟩) (by have := hb1.size; show w0.heap.size ≤ w1.heap.size + 1; omega) (.int .i64 (↑k + ↑P.size))
        refine ⟨?_, ⟨hb3'.os, hb3'.tape, hb3'.output, hb3'.size, hb3'.block⟩⟩
        show _ = Ending.returned (.tuple #[.slice none 0 0, faultV _ _])
        rw [Int.natCast_add]
        rfl
      | ok x =>
        obtain ⟨t, n⟩ := x
        obtain ⟨tk, tt, tn, ta⟩ := t
        obtain ⟨n1, n2⟩ := next_pos hnx
        have n2' : k + P.size + n ≤ s.size := by
          rw [List.length_drop, size_data] at n2
          have := HLT.out
          rw [size_data] at this
          omega
        obtain rfl : ta = 0 := next_at hnx
        have hN : ∀ W, Env W → Calls Tryz.prog 29 #[.string (s.extract (k + P.size) s.size)] W fun e w' => (∃ q : ByteArray, q.size = n ∧ e = .returned (.tuple #[.agg #[.int .u8 tk, .string ⟨tt.toArray⟩, .int .u64 tn, .int .i64 0], .string q, .nilIface])) ∧ Below W.heap.size W w' := by
          intro W hW
          refine (next_c (s.extract (k + P.size) s.size) W hW (by simp; omega)).mono ?_
          rintro e w' ⟨h1, h2⟩
          rw [extract_data', hnx] at h1
          exact ⟨h1, h2⟩
        have HN := Lib.hid hN
        have HX := Lib.hid hnx
        clear hN hnx n2
        go_wp2_with (first
          | (go_at_call 27; refine (HPC.out _).mono ?_; rintro e w' ⟨rfl, rfl⟩)
          | (go_at_call 29; go_must (refine (HN.out _ hE).mono ?_); go_must (rintro e w1 ⟨⟨q, hq, rfl⟩, hb1⟩; have HQ := Lib.hid hq; have q1 : (k : Int) + (P.size : Int) + (q.size : Int) ≤ (s.size : Int) := (by omega); have q2 : 1 ≤ q.size := (by omega); clear hq; have T0 := (Bk.new w1 #[.int .u8 tk, .string ⟨tt.toArray⟩, .int .u64 tn, .int .i64 0] 50).alloc (.cells #[.int .i64 0, .int .i64 0] 30); have D0 := T0.cell; have G0 := T0.free; have z1 := hb1.size))
          | (go_at_call 30; refine (as_nil _ _).mono ?_; rintro e w2 ⟨rfl, rfl⟩)
          | (at_builtin; refine wpList_append_tok rfl _ _ rfl w0.heap.size v ts.length (cellsOf ts) rfl ((((own_below hown hb1).alloc _).alloc _).alloc _) (w1.heap.size + 1 + 1) _ _ _ _ ⟨rfl, rfl, rfl, rfl⟩ rfl (Bk.newAt _ _ (by simp)) (by omega) (by simp; omega) ?_; intro v1 w3 hown1 hgrow))
        go_step3
        have z3 := hgrow.size
        have hown2 : w3.ownsRow w0.heap.size 50 4 v1 (ts ++ [(⟨tk, tt, tn, ((k + P.size : Nat) : Int)⟩ : STok)]).length (cellsOf (ts ++ [⟨tk, tt, tn, ((k + P.size : Nat) : Int)⟩])) := by
          rw [cellsOf_snoc]
          simpa [tokCells] using hown1
        have hbA := ((((Below.refl w1.heap.size w1).alloc (Nat.le_refl _) (.cells #[.int .u8 tk, .string ⟨tt.toArray⟩, .int .u64 tn, .int .i64 (↑k + ↑P.size)] 50)).alloc (by simp) (.cells #[.int .i64 0, .int .i64 0] 30)).alloc (by simp; omega) (.cells #[.int .u8 tk, .string ⟨tt.toArray⟩, .int .u64 tn, .int .i64 (↑k + ↑P.size)] 50))
        have hb3 : Below w0.heap.size w0 w3 := (hB.trans ((hb1.mono hsz0).trans (hbA.mono (Nat.le_trans hsz0 z1)))).grown hgrow (Nat.le_trans (Nat.le_trans hsz0 z1) hbA.size) (own_from hown)
        have hE3 : Env w3 := hw.mono hb3
        rw [show (k : Int) + (P.size : Int) + (q.size : Int) = ((k + P.size + q.size : Nat) : Int) from by omega]
        refine ⟨rfl, ⟨k + P.size + q.size, ts ++ [⟨tk, tt, tn, ((k + P.size : Nat) : Int)⟩], v1, _, _, _, _, _, _, _, _, _, _, _, _, _, _, _, _, _, _, _, _, _, _, _, _, _, _, _, _, _, _, _, _, _, _, _, _, _, _, _, _, _, _, _, _, _, _, _, _, _, _, ⟨by omega, by simp; omega, hown2, hE3, hb3, F - 1, by omega, ?_⟩, rfl⟩, ?_⟩
        · obtain ⟨F', rfl⟩ : ∃ m, F = m + 1 := ⟨F - 1, by omega⟩
          rw [HS.out, scan_tok HPb.out HLT.out HX.out, HQ.out]
          simp only [Nat.add_sub_cancel]
          cases Lx.scan F' (List.drop (k + P.size + n) s.data.toList) (k + P.size + n) <;> simp [Except.map]
        · simp [intOf]
          omega

/-- .. of a text that is too long. -/
theorem cut_long (s : ByteArray) (w : World) (hs : (16384 : Int) < (s.size : Int)) :
    Calls Tryz.prog 8 #[.string s] w fun e w' => CutR (Lx.cut s.data.toList) e w' ∧ Below w.heap.size w w' := by
  go_enter Tryz.func8, Tryz.ntmps8
  go_wp2
  go_step3
  go_wp2
  rw [Exit.noGoto_ret]
  go_ret2
  have : Lx.cut s.data.toList = .error (0, 5) := by
    unfold Lx.cut
    rw [if_pos (by rw [size_data]; omega)]
  rw [this]
  exact ⟨rfl, Below.refl _ _⟩
theorem cut_any (s : ByteArray) (w : World) (hw : Env w) : Calls Tryz.prog 8 #[.string s] w fun e w' => CutR (Lx.cut s.data.toList) e w' ∧ Below w.heap.size w w' := by
  by_cases h : s.size ≤ 16384
  · exact cut_c s w hw h
  · exact cut_long s w (by omega)
end Go.Proofs.YtkflcmengddijaaGreatDoor
