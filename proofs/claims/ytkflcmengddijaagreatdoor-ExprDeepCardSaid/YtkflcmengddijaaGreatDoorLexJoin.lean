/-
  lex.Join walked.
-/
import Derived.Test.YtkflcmengddijaaGreatDoorLexCut
import Derived.Test.YtkflcmengddijaaGreatDoorLexFmt
import Derived.Deep.AppendLies
namespace Go.Proofs.YtkflcmengddijaaGreatDoor
open Go.RowKit Lx
set_option linter.unusedVariables false
set_option linter.unusedSimpArgs false

/-- The piece of a token, if it has one. -/
def pieceOf (t : STok) : List (List UInt8) := if t.k = 3 then [Lib.decDigits t.num.toNat] else if t.k = 1 ∨ t.k = 2 ∨ t.k = 4 then [t.text] else []
def pieces (ts : List STok) : List (List UInt8) := ts.flatMap pieceOf
/-- Tokens, joined. -/
def joinS (ts : List STok) : List UInt8 := Lib.join (pieces ts) [32]
theorem pieces_snoc (ts : List STok) (t : STok) : pieces (ts ++ [t]) = pieces ts ++ pieceOf t := by simp [pieces]
theorem pieceOf_le (t : STok) : (pieceOf t).length ≤ 1 := by
  unfold pieceOf
  split
  · simp
  · split <;> simp
theorem pieces_le (ts : List STok) : (pieces ts).length ≤ ts.length := by
  induction ts with
  | nil => simp [pieces]
  | cons t r ih =>
    have : pieces (t :: r) = pieceOf t ++ pieces r := by simp [pieces]
    rw [this, List.length_append]
    have := pieceOf_le t
    simp
    omega
def strOf (l : List UInt8) : Value := .string ⟨l.toArray⟩
theorem infoStr : (Tryz.prog.info? 9).map (fun i => (i.zero, i.size, i.bytes)) = some (some (.string ⟨#[]⟩), 1, 16) := by kernel_rfl

theorem wpList_append_str {ops : Array Oper} {rest : List Oper} {o : Oper} {a : Act} {Q : Exit → Act → World → Prop} {w : World} (hgd : o.guard = none) (s x : Operand)
    (ho : o.op = .call { callee := .builtin .append, args := #[s, x], argTypes := #[77, 77] }) (base : Nat) (v : Value) (n : Nat) (xs : List Value) (hs : a.eval s = v) (hown : w.ownsRow base 9 1 v n xs)
    (k : Nat) (y : ByteArray) (hx : a.eval x = .slice (some ⟨k, 0, none⟩) 1 1) (hc : w.cell? ⟨k, 0, none⟩ = some (.string y)) (hn : n ≤ 1000000000) (hb : base ≤ w.heap.size)
    (h : ∀ v' w', w'.ownsRow base 9 1 v' (n + 1) (xs ++ [.string y]) → w.grownBy w' v.ownBlock → wpList Tryz.prog ops Q rest (a.put o.dst v') w') : wpList Tryz.prog ops Q (o :: rest) a w := by
  obtain ⟨i0, hi, hz0, hz1, hz2⟩ := info_parts infoStr
  refine wpList_append_own w hgd s x _ ho base 9 i0 (.string ⟨#[]⟩) 1 16 Tryz.underlying77 hi hz0 hz1 hz2 rfl (by decide) v n xs hs hown ⟨k, 0, none⟩ 1 1 [.string y] hx rfl (fun j u hu => ?_) (by simp [Value.oneCell']) (by unfold maxLen; omega) (by omega) hb (fun v' w' h1 h2 _ => h v' w' h1 h2)
  cases j with
  | zero =>
    simp at hu
    subst hu
    exact hc
  | succ j => simp at hu

theorem own_shape {w : World} {base : Nat} {e : TypeId} {size n : Nat} {v : Value} {xs : List Value} (h : w.ownsRow base e size v n xs) : ∃ a c, v = .slice a n c := by
  rcases h.2 with ⟨rfl, h0⟩ | ⟨g, cap, cur, rfl, _⟩
  · exact ⟨none, 0, by rw [h0]⟩
  · exact ⟨_, _, rfl⟩
theorem kTok_at {w : World} {A : Option Addr} {xs : List STok} (h : kTok.Row w A xs) (i : Nat) (hi : i < xs.length) : ∃ b o, A = some ⟨b, o, none⟩ ∧
    w.cell? ⟨b, o + i * 4, none⟩ = some (.int .u8 xs[i].k) ∧ w.cell? ⟨b, o + i * 4 + 1, none⟩ = some (.string ⟨xs[i].text.toArray⟩) ∧ w.cell? ⟨b, o + i * 4 + 2, none⟩ = some (.int .u64 xs[i].num) ∧ w.cell? ⟨b, o + i * 4 + 3, none⟩ = some (.int .i64 xs[i].at') := by
  obtain ⟨b, o, cs, e, h1, h2⟩ := h.at i hi
  obtain rfl : cs = tokCells xs[i] := h1
  exact ⟨b, o, e, h2 0 (by simp [tokCells]), h2 1 (by simp [tokCells]), h2 2 (by simp [tokCells]), h2 3 (by simp [tokCells])⟩

set_option maxRecDepth 100000 in
set_option maxHeartbeats 4000000 in
theorem join_c (ts : List STok) (A : Option Addr) (c : Nat) (w : World) (hw : Env w) (hr : kTok.Row w A ts) (hl : ts.length ≤ 100000) (hnum : ∀ t ∈ ts, t.k = 3 → 0 ≤ t.num ∧ t.num < 18446744073709551616) (hjoin : (joinS ts).length ≤ 140737488355328) :
    Calls Tryz.prog 26 #[.slice A ts.length c] w fun e w' => e = .returned (.string ⟨(joinS ts).toArray⟩) ∧ Below w.heap.size w w' := by
  go_enter Tryz.func26, Tryz.ntmps26
  go_wp2
  go_loopw [3, 8] (fun v i wr => ∃ k : Nat, k ≤ ts.length ∧ i = .int .i64 k ∧ wr.ownsRow w.heap.size 9 1 v (pieces (ts.take k)).length ((pieces (ts.take k)).map strOf) ∧ Below w.heap.size w wr) (fun _ i _ => ts.length - (intOf i).toNat)
  case atStart => exact ⟨0, Nat.zero_le _, rfl, World.ownsRow_nil .., Below.refl _ _⟩
  case round =>
    obtain ⟨k, hk, rfl, hown, hb⟩ := hrel
    have hE := hw.mono hb
    have hsz := hb.size
    by_cases hlt : k < ts.length
    · obtain ⟨b, o, rfl, g0, g1, g2, g3⟩ := kTok_at (hr.mono hb) k hlt
      have hpl : (pieces (ts.take k)).length ≤ 100000 := by
        have := pieces_le (ts.take k)
        have h2 : (ts.take k).length ≤ ts.length := by rw [List.length_take]; omega
        omega
      have hts : ts.take (k + 1) = ts.take k ++ [ts[k]] := List.take_succ_eq_append_getElem hlt
      have hnm := hnum ts[k] (List.getElem_mem hlt)
      obtain ⟨t, htk⟩ : ∃ t, t = ts[k] := ⟨_, rfl⟩
      rw [← htk] at g0 g1 g2 g3 hnm hts
      clear htk
      obtain ⟨tk, tt, tn, ta⟩ := t
      have HT := Lib.hid hts
      clear hts
      by_cases t3 : tk = 3
      · subst t3
        have hnm' : 0 ≤ tn ∧ tn < 18446744073709551616 := hnm rfl
        obtain ⟨u, rfl⟩ : ∃ u : Nat, tn = u := ⟨tn.toNat, by omega⟩
        have hu : u < 18446744073709551616 := by omega
        have HN := Lib.hid hu
        clear hnm hnm' hu
        go_wp2_with (first
        | (go_at_call 47; refine (fmt_c u HN.out _ (hE.mono ((Below.refl _ _).alloc (Nat.le_refl _) _))).mono ?_; rintro e w1 ⟨rfl, hb1⟩; have z1 := hb1.size; have z1' : wr.heap.size + 1 ≤ w1.heap.size := (by simpa using z1))
        | (at_builtin; go_must (refine wpList_append_str rfl _ _ rfl w.heap.size _ _ _ rfl ((own_below (hown.alloc _) hb1).alloc _) (w1.heap.size) _ rfl ((Bk.newAt #[.string _] 9 (by simp)).cell 0) (by omega) (by simp; omega) ?_); intro v1 w3 hown1 hgrow))
        have hb3 : Below w.heap.size w w3 := (((hb.alloc hsz _).trans (hb1.mono (by simp; omega))).alloc (by omega) _).grown hgrow (by simp; omega) (own_from hown)
        go_roundw
        case rel =>
          refine ⟨k + 1, by omega, by go_num, ?_, hb3⟩
          rw [HT.out, pieces_snoc]
          have e : pieceOf ⟨3, tt, (u : Int), ta⟩ = [Lib.decDigits u] := by simp [pieceOf]
          rw [e]
          simpa [strOf] using hown1
        case measure => simp [intOf]; omega
      clear hnm
      by_cases t1 : tk = 1
      · subst t1
        go_wp2_with (first
        | fail
        | (at_builtin; go_must (refine wpList_append_str rfl _ _ rfl w.heap.size _ _ _ rfl ((hown.alloc _).alloc _) (wr.heap.size + 1) _ rfl ((Bk.newAt #[.string _] 9 (by simp)).cell 0) (by omega) (by simp; omega) ?_); intro v1 w3 hown1 hgrow))
        have hb3 : Below w.heap.size w w3 := ((hb.alloc hsz _).alloc (by simp; omega) _).grown hgrow (by simp; omega) (own_from hown)
        go_roundw
        case rel =>
          refine ⟨k + 1, by omega, by go_num, ?_, hb3⟩
          rw [HT.out, pieces_snoc]
          have e : pieceOf ⟨1, tt, tn, ta⟩ = [tt] := by simp [pieceOf]
          rw [e]
          simpa [strOf] using hown1
        case measure => simp [intOf]; omega
      by_cases t2 : tk = 2
      · subst t2
        go_wp2_with (first
        | fail
        | (at_builtin; go_must (refine wpList_append_str rfl _ _ rfl w.heap.size _ _ _ rfl ((hown.alloc _).alloc _) (wr.heap.size + 1) _ rfl ((Bk.newAt #[.string _] 9 (by simp)).cell 0) (by omega) (by simp; omega) ?_); intro v1 w3 hown1 hgrow))
        have hb3 : Below w.heap.size w w3 := ((hb.alloc hsz _).alloc (by simp; omega) _).grown hgrow (by simp; omega) (own_from hown)
        go_roundw
        case rel =>
          refine ⟨k + 1, by omega, by go_num, ?_, hb3⟩
          rw [HT.out, pieces_snoc]
          have e : pieceOf ⟨2, tt, tn, ta⟩ = [tt] := by simp [pieceOf]
          rw [e]
          simpa [strOf] using hown1
        case measure => simp [intOf]; omega
      by_cases t4 : tk = 4
      · subst t4
        go_wp2_with (first
        | fail
        | (at_builtin; go_must (refine wpList_append_str rfl _ _ rfl w.heap.size _ _ _ rfl ((hown.alloc _).alloc _) (wr.heap.size + 1) _ rfl ((Bk.newAt #[.string _] 9 (by simp)).cell 0) (by omega) (by simp; omega) ?_); intro v1 w3 hown1 hgrow))
        have hb3 : Below w.heap.size w w3 := ((hb.alloc hsz _).alloc (by simp; omega) _).grown hgrow (by simp; omega) (own_from hown)
        go_roundw
        case rel =>
          refine ⟨k + 1, by omega, by go_num, ?_, hb3⟩
          rw [HT.out, pieces_snoc]
          have e : pieceOf ⟨4, tt, tn, ta⟩ = [tt] := by simp [pieceOf]
          rw [e]
          simpa [strOf] using hown1
        case measure => simp [intOf]; omega
      have b3 : (tk == 3) = false := beq_eq_false_iff_ne.2 t3
      have b1 : (tk == 1) = false := beq_eq_false_iff_ne.2 t1
      have b2 : (tk == 2) = false := beq_eq_false_iff_ne.2 t2
      have b4 : (tk == 4) = false := beq_eq_false_iff_ne.2 t4
      go_wp2_with fail
      go_roundw
      case rel =>
        refine ⟨k + 1, by omega, by go_num, ?_, hb.alloc hsz _⟩
        rw [HT.out, pieces_snoc]
        have e : pieceOf ⟨tk, tt, tn, ta⟩ = [] := by simp [pieceOf, t1, t2, t3, t4]
        rw [e, List.append_nil]
        exact hown.alloc _
      case measure => simp [intOf]; omega
    · have ek : k = ts.length := by omega
      subst ek
      rw [List.take_length] at hown
      obtain ⟨a, c2, rfl⟩ := own_shape hown
      rcases Nat.eq_zero_or_pos (pieces ts).length with h0 | h0
      · have hp0 : pieces ts = [] := List.eq_nil_of_length_eq_zero h0
        have hj : joinS ts = [] := by rw [joinS, hp0]; rfl
        have H0 := Lib.hid h0
        have HJ := Lib.hid hj
        clear h0 hj hp0
        go_wp2_with (go_at_call 48; rw [H0.out]; refine (Tryz.strings_Join_none a c2 _ _).mono ?_; rintro e w' ⟨rfl, rfl⟩)
        go_ret
        exact ⟨by rw [HJ.out]; rfl, hb⟩
      · obtain ⟨g, cap, hv, hg1, hg2⟩ := hown.form h0
        injection hv with hv1 hv2 hv3
        subst hv1; subst hv3
        have hcells : ∀ (j : Nat) (x : ByteArray), ((pieces ts).map fun l => (⟨l.toArray⟩ : ByteArray))[j]? = some x → wr.cell? ⟨g, 0 + j, none⟩ = some (.string x) := by
          intro j x hx
          have hj : j < (pieces ts).length := by
            have := (List.getElem?_eq_some_iff.1 hx).1
            simpa using this
          rw [Nat.zero_add, World.ownsRow.cellAt hown j (by omega)]
          simp only [List.getElem?_map, List.getElem?_eq_getElem hj, Option.map_some, Option.some.injEq] at hx ⊢
          rw [← hx]; rfl
        have hcap : (pieces ts).length ≤ c2 := by
          rcases hown.2 with ⟨h', _⟩ | ⟨g', cap', cur, h', _, _, h2, _⟩
          · simp at h'
          · injection h' with _ _ h3
            omega
        have hmap : ((pieces ts).map fun l => (⟨l.toArray⟩ : ByteArray)).map (·.data.toList) = pieces ts := by rw [List.map_map]; exact List.map_id _
        have hJ := Tryz.strings_Join g 0 c2 ((pieces ts).map fun l => (⟨l.toArray⟩ : ByteArray)) ⟨#[32]⟩ wr hcells hg2 (by have := pieces_le ts; simp; omega) (by simpa using hcap) (by rw [hmap]; exact hjoin)
        rw [hmap, List.length_map] at hJ
        have HJ := Lib.hid hJ
        clear hJ hmap hcells
        go_wp2_with (go_at_call 48; refine HJ.out.mono ?_; rintro e w1 ⟨rfl, hb1⟩)
        go_ret
        exact ⟨rfl, hb.trans (hb1.mono hsz)⟩
end Go.Proofs.YtkflcmengddijaaGreatDoor
