/-
  over at any step, any set.
-/
import Derived.Test.YtfohhgmcodmkkaaLive4
namespace Go.Proofs.Ytfohhgmcodmkkaa
open Go.RowKit Go.Lib Go.Maps Go.MapKept
set_option linter.unusedVariables false
set_option linter.unusedSimpArgs false

/-- All keys are ints. -/
def Good (es : Array MapEntry) : Prop := ∀ x ∈ es.toList, ∃ k, x.key = .int .i64 k

theorem good_find {es : Array MapEntry} (h : Good es) (x : Int) : ∃ r, Instr.findNow (.int .i64) (.int .i64 x) es.toList 0 = some r ∧ ∀ i v, r = some (i, v) → ((es[i]?).map (·.key)).getD (.int .i64 x) = .int .i64 x := by
  have hk : IsKey (.int .i64) (.int .i64 x) := rfl
  rcases findNow_spec hk es.toList 0 (fun y hy => by obtain ⟨k, e⟩ := h y hy; rw [e]; exact rfl) with ⟨h1, _⟩ | ⟨j, e, h1, h2, h3⟩
  · exact ⟨none, h1, fun i v hc => by cases hc⟩
  · refine ⟨_, h1, fun i v hc => ?_⟩
    cases hc
    rw [Nat.zero_add]
    rw [Array.getElem?_toList] at h2
    simp [h2, h3]

section
variable {P : Program} {ops : Array Oper} {Q : Exit → Act → World → Prop} {rest : List Oper} {a : Act} {w : World} {o : Oper}
theorem wpl_update_any (hg : o.guard = none) (m x v : Operand) (t k e : TypeId) (hop : o.op = .mapUpdate t m x v) (ht : P.underlying t = some (.map k e)) (hk : P.underlying k = some (.int .i64)) (b clk : Nat) (es : Array MapEntry) (key : Int) (val : Value)
    (hm : a.eval m = .map (some b)) (hx : a.eval x = .int .i64 key) (hv : a.eval v = val) (hb : Ob w b (.map es clk)) (hgd : Good es)
    (h : ∀ w' es' clk', Ob w' b (.map es' clk') → Good es' → w.grownBy w' (some b) → wpList P ops Q rest (a.put o.dst undef) w') : wpList P ops Q (o :: rest) a w := by
  obtain ⟨r, h1, h2⟩ := good_find hgd key
  cases r with
  | none =>
    refine wpl_update_new hg m x v t k e hop ht hk b clk es key val hm hx hv hb h1 (fun w' g1 g2 => h w' _ _ g1 (fun y hy => ?_) g2)
    simp at hy
    rcases hy with hy | rfl
    · exact hgd y (by simpa using hy)
    · exact ⟨_, rfl⟩
  | some q =>
    obtain ⟨i, old⟩ := q
    refine wpl_update_old hg m x v t k e hop ht hk b clk i es key val old hm hx hv hb h1 (h2 _ _ rfl) (fun w' g1 g2 => h w' _ _ g1 (fun y hy => ?_) g2)
    obtain ⟨j, hj, rfl⟩ := List.getElem_of_mem hy
    simp at hj
    simp only [Array.getElem_toList, Array.getElem_modify]
    split
    · exact ⟨_, rfl⟩
    · exact hgd _ (by simp)
end

theorem good_del {es : Array MapEntry} (h : Good es) (r : Option (Nat × Value)) : Good (delE es r) := by
  cases r with
  | none => exact h
  | some q =>
    obtain ⟨i, v⟩ := q
    intro x hx
    refine h x ?_
    simp only [delE] at hx
    rw [Array.eraseIdxIfInBounds_eq] at hx
    split at hx
    · simp at hx; exact List.mem_of_mem_eraseIdx hx
    · exact hx

theorem row_keptM {w w' : World} {m clk : Nat} {es : Array MapEntry} {A : Option Addr} {L : List Int} (h : kInt.Row w A L) (hg : w.grownBy w' (some m)) (M : Ob w m (.map es clk)) : kInt.Row w' A L := by
  rcases h with h | ⟨b, o, e, hc⟩
  · exact .inl h
  · refine .inr ⟨b, o, e, fun i hi => ?_⟩
    obtain ⟨cs, h1, h2⟩ := hc i hi
    exact ⟨cs, h1, fun j hj => cell_keptM (h2 j hj) hg M⟩

theorem asksS_length (o : SOp) : (asksS o).length ≤ 2 := by
  unfold asksS
  split
  · simp
  · split
    · split <;> simp
    · simp

set_option maxRecDepth 100000 in
set_option maxHeartbeats 1000000 in
/-- over at any step. -/
theorem over_any (o : SOp) (m : Nat) (w : World) (es : Array MapEntry) (clk : Nat) (M : Ob w m (.map es clk)) (G : Good es) :
    Calls Try.prog 58 #[.map (some m), .agg #[.int .u8 o.k, .int .u8 o.fn, .int .i64 o.d, .int .i64 o.a, .int .i64 o.b, .int .u64 o.imm]] w
      fun e w' => e = .returned (.tuple #[]) ∧ (∃ es' clk', Ob w' m (.map es' clk') ∧ Good es') ∧ w.grownBy w' (some m) := by
  have B1 := Bk.new w #[.int .u8 o.k, .int .u8 o.fn, .int .i64 o.d, .int .i64 o.a, .int .i64 o.b, .int .u64 o.imm] 24
  have hml := M.lt
  have M1 := M.alloc (.cells #[.int .u8 o.k, .int .u8 o.fn, .int .i64 o.d, .int .i64 o.a, .int .i64 o.b, .int .u64 o.imm] 24)
  have hg0 : w.grownBy (w.alloc (.cells #[.int .u8 o.k, .int .u8 o.fn, .int .i64 o.d, .int .i64 o.a, .int .i64 o.b, .int .u64 o.imm] 24)) (some m) := World.grownBy_alloc _ _ _
  have hsv : ∃ sv, setsV o = sv := ⟨_, rfl⟩
  obtain ⟨sv, hsv⟩ := hsv
  have hal : ∃ L, asksS o = L := ⟨_, rfl⟩
  obtain ⟨L, hal⟩ := hal
  have hL : L.length ≤ 2 := by rw [← hal]; exact asksS_length o
  obtain ⟨r, hf, _⟩ := good_find G sv
  have G2 := Lib.hid (good_del G r)
  have HF := Lib.hid hf
  have HG := Lib.hid G
  have HS := Lib.hid hsv
  have HL := Lib.hid hal
  clear hf G hsv hal
  go_enter Try.func58, Try.ntmps58
  cases hsk : setK o.k with
  | true =>
    have HK := Lib.hid hsk; clear hsk
    go_wp2_with (first
      | (go_at_call 6; go_must (refine (sets_c o _).mono ?_); rintro e w1 ⟨rfl, hb⟩; rw [HK.out, HS.out]; replace M1 := M1.mono hb; replace B1 := B1.mono hb; have hg1 := hg0.trans (grown_of_below hb _))
      | (at_delete; go_must (refine wpl_delete rfl _ _ _ 3 4 rfl Try.underlying87 Try.underlying3 _ _ _ sv r rfl rfl M1 HF.out ?_); intro w2 M2 hg2; replace B1 := B1.grown hg2 (by intro h; cases h; omega); have C1 := B1.cell; have hg3 := hg1.trans hg2)
      | (go_at_call 9; go_must (refine (asks_c o _).mono ?_); rintro e w3 ⟨⟨A, c, rfl, hr⟩, hb⟩; rw [HL.out] at hr ⊢; replace M2 := M2.mono hb; have hg4 := hg3.trans (grown_of_below hb _)))
    go_loopw [19] (fun s wr => ∃ k : Nat, k ≤ L.length ∧ s = .int .i64 k ∧ (∃ es clk, Ob wr m (.map es clk) ∧ Good es) ∧ kInt.Row wr A L ∧ w.grownBy wr (some m)) (fun s _ => L.length - (intOf s).toNat)
    case atStart => exact ⟨0, Nat.zero_le _, rfl, ⟨_, _, M2, G2.out⟩, hr, hg4⟩
    case round =>
      obtain ⟨k, hk, rfl, ⟨es3, clk3, M3, G3⟩, hr3, hg5⟩ := hrel
      by_cases hlt : k < L.length
      · obtain ⟨b, off, rfl, k0⟩ := kInt_at hr3 k hlt
        have HG3 := Lib.hid G3
        clear G3
        go_wp2_with (at_mapUpdate; go_must (refine wpl_update_any rfl _ _ _ _ 3 4 rfl Try.underlying87 Try.underlying3 _ _ _ L[k] (.bool true) rfl rfl rfl M3 HG3.out ?_); intro w4 es4 clk4 M4 G4 hg6)
        go_roundw
        case rel => exact ⟨k + 1, by omega, by go_num, ⟨_, _, M4, G4⟩, row_keptM hr3 hg6 M3, hg5.trans hg6⟩
        case measure => simp [intOf]; omega
      · go_wp2_with fail
        go_end0
        exact ⟨rfl, ⟨_, _, M3, G3⟩, hg5⟩
  | false =>
    have HK := Lib.hid hsk; clear hsk
    go_wp2_with (first
      | (go_at_call 6; go_must (refine (sets_c o _).mono ?_); rintro e w1 ⟨rfl, hb⟩; rw [HK.out, HS.out]; replace M1 := M1.mono hb; replace B1 := B1.mono hb; have C1 := B1.cell; have hg1 := hg0.trans (grown_of_below hb _))
      | (go_at_call 9; go_must (refine (asks_c o _).mono ?_); rintro e w3 ⟨⟨A, c, rfl, hr⟩, hb⟩; rw [HL.out] at hr ⊢; replace M1 := M1.mono hb; have hg4 := hg1.trans (grown_of_below hb _)))
    go_loopw [19] (fun s wr => ∃ k : Nat, k ≤ L.length ∧ s = .int .i64 k ∧ (∃ es clk, Ob wr m (.map es clk) ∧ Good es) ∧ kInt.Row wr A L ∧ w.grownBy wr (some m)) (fun s _ => L.length - (intOf s).toNat)
    case atStart => exact ⟨0, Nat.zero_le _, rfl, ⟨_, _, M1, HG.out⟩, hr, hg4⟩
    case round =>
      obtain ⟨k, hk, rfl, ⟨es3, clk3, M3, G3⟩, hr3, hg5⟩ := hrel
      by_cases hlt : k < L.length
      · obtain ⟨b, off, rfl, k0⟩ := kInt_at hr3 k hlt
        have HG3 := Lib.hid G3
        clear G3
        go_wp2_with (at_mapUpdate; go_must (refine wpl_update_any rfl _ _ _ _ 3 4 rfl Try.underlying87 Try.underlying3 _ _ _ L[k] (.bool true) rfl rfl rfl M3 HG3.out ?_); intro w4 es4 clk4 M4 G4 hg6)
        go_roundw
        case rel => exact ⟨k + 1, by omega, by go_num, ⟨_, _, M4, G4⟩, row_keptM hr3 hg6 M3, hg5.trans hg6⟩
        case measure => simp [intOf]; omega
      · go_wp2_with fail
        go_end0
        exact ⟨rfl, ⟨_, _, M3, G3⟩, hg5⟩

end Go.Proofs.Ytfohhgmcodmkkaa
