/-
  lex.next walked.
-/
import Derived.Test.YtkflcmengddijaaGreatDoorLex3
namespace Go.Proofs.YtkflcmengddijaaGreatDoor
open Go.RowKit Lx
set_option linter.unusedVariables false
set_option linter.unusedSimpArgs false

theorem enDigit (args : Array Value) (w : World) : (callFunc 35 args).run Tryz.prog w = .ok (.enter 35 args) w := by kernel_rfl
theorem enPart1 (args : Array Value) (w : World) : (callFunc 50 args).run Tryz.prog w = .ok (.enter 50 args) w := by kernel_rfl
theorem enBlank (args : Array Value) (w : World) : (callFunc 28 args).run Tryz.prog w = .ok (.enter 28 args) w := by kernel_rfl

def faultV (a c : Int) : Value := .iface 30 (.agg #[.int .i64 a, .int .i64 c])
def tokV (t : STok) : Value := .agg #[.int .u8 t.k, .string ⟨t.text.toArray⟩, .int .u64 t.num, .int .i64 t.at']
/-- What lex.next answers. -/
def nextV (s : ByteArray) : Except Int (STok × Nat) → Value
  | .ok (t, n) => .tuple #[tokV t, .string (s.extract 0 n), .nilIface]
  | .error c => .tuple #[tokV ⟨0, [], 0, 0⟩, .string ⟨#[]⟩, faultV 0 c]

theorem mk_toList (s : ByteArray) : (⟨s.data.toList.toArray⟩ : ByteArray) = s := rfl
theorem below_or {w w' : World} {s : ByteArray} {t : TypeId} (h : w' = w ∨ w' = Lib.bytesWorld w t s) : Below w.heap.size w w' := by
  rcases h with rfl | rfl
  · exact Below.refl _ _
  · exact Lib.bytesWorld_below _ _ _
theorem parse_ok (s : ByteArray) (u : Nat) (w : World) (hs : s.size ≤ 1000000) (h : Lib.parseUintB 64 s.data.toList = .ok u) :
    Calls Tryz.prog 49 #[.string s, .int .i64 10, .int .i64 64] w fun e w' => e = .returned (.tuple #[.int .u64 u, .nilIface]) ∧ Below w.heap.size w w' :=
  (Tryz.strconv_ParseUint_10_at64_ok s (by omega) u h w).mono fun e w' ⟨h1, h2⟩ => ⟨h1, below_or h2⟩
theorem parse_bad (s : ByteArray) (w : World) (hw : Env w) (hs : s.size ≤ 1000000) (h : ∀ u, Lib.parseUintB 64 s.data.toList ≠ .ok u) :
    Calls Tryz.prog 49 #[.string s, .int .i64 10, .int .i64 64] w fun e w' => (∃ (z : Int) (t : TypeId) (p : Value), e = .returned (.tuple #[.int .u64 z, .iface t p])) ∧ Below w.heap.size w w' := by
  cases hp : Lib.parseUintB 64 s.data.toList with
  | ok u => exact absurd hp (h u)
  | range =>
    obtain ⟨tp, p, hv⟩ := hw.rng
    exact (Tryz.strconv_ParseUint_10_at64_range_var s (by omega) hp tp p w hv).mono fun e w' ⟨N, h1, _, _, h2⟩ => ⟨⟨_, _, _, h1⟩, h2⟩
  | _ =>
    obtain ⟨tp, p, hv⟩ := hw.syn
    exact (Tryz.strconv_ParseUint_10_at64_syntax_var s (by omega) h (by rw [hp]; nofun) tp p w hv).mono fun e w' ⟨N, h1, _, _, h2⟩ => ⟨⟨_, _, _, h1⟩, h2⟩

/-- Three results, of which the first one lies in a block of its own. -/
theorem results_row3 {P : Program} {fn : Func} {p u v : Tmp} {ty : TypeId} (h : fn.results = #[.cell p ty, .tmp u, .tmp v]) (tmps : Array Value) (w : World) (g : Nat) (cs : Array Value) (d : TypeDesc)
    (hp : tmps.getD p undef = .pointer (some ⟨g, 0, none⟩)) (hg : Bk w g cs ty)
    (hu : P.underlying ty = some d) (hd : (match d with | .struct _ | .array _ _ => true | _ => false) = true) (hi : (P.info? ty).map (·.size) = some cs.size) :
    (results fn tmps).run P w = .ok (.tuple #[.agg cs, tmps.getD u undef, tmps.getD v undef]) w := by
  have hp' : tmps[p]?.getD undef = .pointer (some ⟨g, 0, none⟩) := by simpa using hp
  have hl := run_loadVar_row (P := P) w g ty ty cs (0, 0) d hg hu hd hi
  simp only [results, h]
  simp [hp', hl, asAddr, Sem.run_bind, Result.andThen]
theorem set4 {w w1 : World} (h : Below w.heap.size w w1) (a b c d : Value) :
    Below w.heap.size w ((((w1.setCell ⟨w.heap.size, 0, none⟩ a).setCell ⟨w.heap.size, 1, none⟩ b).setCell ⟨w.heap.size, 2, none⟩ c).setCell ⟨w.heap.size, 3, none⟩ d) :=
  (((h.setCell (Nat.le_refl _) a).setCell (Nat.le_refl _) b).setCell (Nat.le_refl _) c).setCell (Nat.le_refl _) d
theorem emp_of_size {s : ByteArray} (h : s.size = 0) : s.toList.isEmpty = true := by rw [nil_of_size h]; rfl
theorem nem_of_size {s : ByteArray} (h : 0 < s.size) : s.toList.isEmpty = false := by
  have := ne_of_size h
  simpa using this

set_option maxRecDepth 100000 in
set_option maxHeartbeats 2000000 in
theorem next_long (s : ByteArray) (w : World) (hs : s.size ≤ 1000000) (h1 : (pieceS isDigit s).size = 0) (h2 : (16 : Int) < ((pieceS isPart s).size : Int)) :
    Calls Tryz.prog 29 #[.string s] w fun e w' => e = .returned (nextV s (.error 5)) ∧ Below w.heap.size w w' := by
  have h3 := emp_of_size h1
  have h4 := nem_of_size (s := pieceS isPart s) (by omega)
  clear h1
  go_enter Tryz.func29, Tryz.ntmps29
  go_wp2_with fail
  refine (piece_c _ _ digit_c enDigit s _ hs).mono ?_
  rintro e w' ⟨rfl, rfl⟩
  go_wp2_with fail
  refine (piece_c _ _ part1_c enPart1 s _ hs).mono ?_
  rintro e w' ⟨rfl, rfl⟩
  go_wp2_with fail
  go_returns
  exact ⟨rfl, (Below.refl _ _).alloc (Nat.le_refl _) _⟩
set_option maxRecDepth 100000 in
set_option maxHeartbeats 2000000 in
theorem next_word (s : ByteArray) (w : World) (hs : s.size ≤ 1000000) (h1 : (pieceS isDigit s).size = 0) (h0 : 0 < (pieceS isPart s).size) (h2 : ((pieceS isPart s).size : Int) ≤ 16) (hwd : words.contains (pieceS isPart s).data.toList = true) :
    Calls Tryz.prog 29 #[.string s] w fun e w' => e = .returned (.tuple #[.agg #[.int .u8 2, .string (pieceS isPart s), .int .u64 0, .int .i64 0], .string (pieceS isPart s), .nilIface]) ∧ Below w.heap.size w w' := by
  have h3 := emp_of_size h1
  have h4 := nem_of_size (s := pieceS isPart s) (by omega)
  have HW := Lib.hid hwd
  clear h1 hwd
  go_enter Tryz.func29, Tryz.ntmps29
  go_wp2_with fail
  refine (piece_c _ _ digit_c enDigit s _ hs).mono ?_
  rintro e w' ⟨rfl, rfl⟩
  go_wp2_with fail
  refine (piece_c _ _ part1_c enPart1 s _ hs).mono ?_
  rintro e w' ⟨rfl, rfl⟩
  go_wp2_with (go_at_call 36; refine (word_c _ _ (by omega)).mono ?_; rintro e w' ⟨rfl, rfl⟩; rw [HW.out])
  go_returns
  exact ⟨rfl, (Below.refl _ _).alloc (Nat.le_refl _) _⟩
set_option maxRecDepth 100000 in
set_option maxHeartbeats 2000000 in
theorem next_name (s : ByteArray) (w : World) (hs : s.size ≤ 1000000) (h1 : (pieceS isDigit s).size = 0) (h0 : 0 < (pieceS isPart s).size) (h2 : ((pieceS isPart s).size : Int) ≤ 16) (hwd : words.contains (pieceS isPart s).data.toList = false) :
    Calls Tryz.prog 29 #[.string s] w fun e w' => e = .returned (.tuple #[.agg #[.int .u8 1, .string (pieceS isPart s), .int .u64 0, .int .i64 0], .string (pieceS isPart s), .nilIface]) ∧ Below w.heap.size w w' := by
  have h3 := emp_of_size h1
  have h4 := nem_of_size (s := pieceS isPart s) (by omega)
  have HW := Lib.hid hwd
  clear h1 hwd
  go_enter Tryz.func29, Tryz.ntmps29
  go_wp2_with fail
  refine (piece_c _ _ digit_c enDigit s _ hs).mono ?_
  rintro e w' ⟨rfl, rfl⟩
  go_wp2_with fail
  refine (piece_c _ _ part1_c enPart1 s _ hs).mono ?_
  rintro e w' ⟨rfl, rfl⟩
  go_wp2_with (go_at_call 36; refine (word_c _ _ (by omega)).mono ?_; rintro e w' ⟨rfl, rfl⟩; rw [HW.out])
  go_returns
  exact ⟨rfl, (Below.refl _ _).alloc (Nat.le_refl _) _⟩
set_option maxRecDepth 100000 in
set_option maxHeartbeats 2000000 in
theorem next_bad (s : ByteArray) (w : World) (hw : Env w) (hs : s.size ≤ 1000000) (h1 : (pieceS isDigit s).size = 0) (h0 : (pieceS isPart s).size = 0) (hg : signOf s.data.toList = []) :
    Calls Tryz.prog 29 #[.string s] w fun e w' => e = .returned (nextV s (.error 7)) ∧ Below w.heap.size w w' := by
  have h3 := emp_of_size h1
  have h4 := emp_of_size h0
  have HG := Lib.hid hg
  have B0 := Bk.new w #[.int .u8 0, .string ⟨#[]⟩, .int .u64 0, .int .i64 0] 50
  have hb0 : Below w.heap.size w (w.alloc (.cells #[.int .u8 0, .string ⟨#[]⟩, .int .u64 0, .int .i64 0] 50)) := (Below.refl _ _).alloc (Nat.le_refl _) _
  clear h1 h0 hg
  go_enter Tryz.func29, Tryz.ntmps29
  go_wp2_with fail
  refine (piece_c _ _ digit_c enDigit s _ hs).mono ?_
  rintro e w' ⟨rfl, rfl⟩
  go_wp2_with fail
  refine (piece_c _ _ part1_c enPart1 s _ hs).mono ?_
  rintro e w' ⟨rfl, rfl⟩
  go_wp2_with (go_at_call 51; refine (sign_c _ _ (hw.mono hb0)).mono ?_; rintro e w1 ⟨rfl, hb1⟩; rw [HG.out]; have B1 := B0.mono hb1; have C1 := B1.cell; have F1 := B1.free; have hz1 := B1.lt)
  have B2 := (((B1.set 0 (.int .u8 0)).set 1 (.string ⟨#[]⟩)).set 2 (.int .u64 0)).set 3 (.int .i64 0)
  exact bodyPost_ret (results_row3 rfl _ _ _ _ _ rfl B2 Tryz.underlying50 rfl (by kernel_rfl)) rfl ⟨rfl, set4 (bt hb0 hb1) _ _ _ _⟩

set_option maxRecDepth 100000 in
set_option maxHeartbeats 2000000 in
theorem next_sign (s : ByteArray) (w : World) (hw : Env w) (hs : s.size ≤ 1000000) (h1 : (pieceS isDigit s).size = 0) (h0 : (pieceS isPart s).size = 0) (hg : signOf s.data.toList ≠ []) :
    Calls Tryz.prog 29 #[.string s] w fun e w' => e = .returned (.tuple #[.agg #[.int .u8 4, .string ⟨(signOf s.data.toList).toArray⟩, .int .u64 0, .int .i64 0], .string ⟨(signOf s.data.toList).toArray⟩, .nilIface]) ∧ Below w.heap.size w w' := by
  have h3 := emp_of_size h1
  have h4 := emp_of_size h0
  obtain ⟨g, hG⟩ : ∃ g : ByteArray, g = ⟨(signOf s.data.toList).toArray⟩ := ⟨_, rfl⟩
  have h5 : ¬ g.toList = [] := by rw [toList_data, hG, mkList]; exact hg
  have h6 : g.toList.isEmpty = false := by simpa using h5
  have h7 : (g.toList == []) = false := by simpa using h5
  have hS := fun (w : World) (hw : Env w) => sign_c s w hw
  rw [← hG] at hS ⊢
  have HS := Lib.hid hS
  have B0 := Bk.new w #[.int .u8 0, .string ⟨#[]⟩, .int .u64 0, .int .i64 0] 50
  have hb0 : Below w.heap.size w (w.alloc (.cells #[.int .u8 0, .string ⟨#[]⟩, .int .u64 0, .int .i64 0] 50)) := (Below.refl _ _).alloc (Nat.le_refl _) _
  clear h1 h0 hg hS hG
  go_enter Tryz.func29, Tryz.ntmps29
  go_wp2_with fail
  refine (piece_c _ _ digit_c enDigit s _ hs).mono ?_
  rintro e w' ⟨rfl, rfl⟩
  go_wp2_with fail
  refine (piece_c _ _ part1_c enPart1 s _ hs).mono ?_
  rintro e w' ⟨rfl, rfl⟩
  go_wp2_with (go_at_call 51; refine (HS.out _ (hw.mono hb0)).mono ?_; rintro e w1 ⟨rfl, hb1⟩; have B1 := B0.mono hb1; have C1 := B1.cell; have F1 := B1.free; have hz1 := B1.lt)
  have B2 := (((B1.set 0 (.int .u8 4)).set 1 (.string g)).set 2 (.int .u64 0)).set 3 (.int .i64 0)
  exact bodyPost_ret (results_row3 rfl _ _ _ _ _ rfl B2 Tryz.underlying50 rfl (by kernel_rfl)) rfl ⟨rfl, set4 (bt hb0 hb1) _ _ _ _⟩

set_option maxRecDepth 100000 in
set_option maxHeartbeats 2000000 in
theorem next_nan (s : ByteArray) (w : World) (hw : Env w) (hs : s.size ≤ 1000000) (h1 : 0 < (pieceS isDigit s).size) (hn : ∀ u, Lib.parseUintB 64 (pieceS isDigit s).data.toList ≠ .ok u) :
    Calls Tryz.prog 29 #[.string s] w fun e w' => e = .returned (nextV s (.error 7)) ∧ Below w.heap.size w w' := by
  have h3 := nem_of_size h1
  have hsz : (pieceS isDigit s).size ≤ 1000000 := by have := pieceS_le isDigit s; omega
  have HN := Lib.hid hn
  have B0 := Bk.new w #[.int .u8 0, .string ⟨#[]⟩, .int .u64 0, .int .i64 0] 50
  have hb0 : Below w.heap.size w (w.alloc (.cells #[.int .u8 0, .string ⟨#[]⟩, .int .u64 0, .int .i64 0] 50)) := (Below.refl _ _).alloc (Nat.le_refl _) _
  clear h1 hn
  go_enter Tryz.func29, Tryz.ntmps29
  go_wp2_with fail
  refine (piece_c _ _ digit_c enDigit s _ hs).mono ?_
  rintro e w' ⟨rfl, rfl⟩
  go_wp2_with (go_at_call 49; refine (parse_bad _ _ (hw.mono hb0) hsz HN.out).mono ?_; rintro e w1 ⟨⟨z, pt, pp, rfl⟩, hb1⟩; have B1 := B0.mono hb1; have C1 := B1.cell; have F1 := B1.free; have hz1 := B1.lt)
  have B2 := (((B1.set 0 (.int .u8 0)).set 1 (.string ⟨#[]⟩)).set 2 (.int .u64 0)).set 3 (.int .i64 0)
  exact bodyPost_ret (results_row3 rfl _ _ _ _ _ rfl B2 Tryz.underlying50 rfl (by kernel_rfl)) rfl ⟨rfl, set4 (bt hb0 hb1) _ _ _ _⟩

set_option maxRecDepth 100000 in
set_option maxHeartbeats 2000000 in
theorem next_zero (s : ByteArray) (w : World) (hw : Env w) (hs : s.size ≤ 1000000) (h1 : 1 < (pieceS isDigit s).size) (u : Nat) (hn : Lib.parseUintB 64 (pieceS isDigit s).data.toList = .ok u) (hz : ((((pieceS isDigit s)[0]'(by omega)).toNat : Int) == 48) = true) :
    Calls Tryz.prog 29 #[.string s] w fun e w' => e = .returned (nextV s (.error 7)) ∧ Below w.heap.size w w' := by
  have h3 := nem_of_size (s := pieceS isDigit s) (by omega)
  have h4 : 0 < (pieceS isDigit s).size := by omega
  have h5 : (1 : Int) < ((pieceS isDigit s).size : Int) := by omega
  have hsz : (pieceS isDigit s).size ≤ 1000000 := by have := pieceS_le isDigit s; omega
  have HN := Lib.hid hn
  have B0 := Bk.new w #[.int .u8 0, .string ⟨#[]⟩, .int .u64 0, .int .i64 0] 50
  have hb0 : Below w.heap.size w (w.alloc (.cells #[.int .u8 0, .string ⟨#[]⟩, .int .u64 0, .int .i64 0] 50)) := (Below.refl _ _).alloc (Nat.le_refl _) _
  clear hn
  go_enter Tryz.func29, Tryz.ntmps29
  go_wp2_with fail
  refine (piece_c _ _ digit_c enDigit s _ hs).mono ?_
  rintro e w' ⟨rfl, rfl⟩
  go_wp2_with (go_at_call 49; refine (parse_ok _ u _ hsz HN.out).mono ?_; rintro e w1 ⟨rfl, hb1⟩; have B1 := B0.mono hb1; have C1 := B1.cell; have F1 := B1.free; have hz1 := B1.lt)
  have B2 := (((B1.set 0 (.int .u8 0)).set 1 (.string ⟨#[]⟩)).set 2 (.int .u64 0)).set 3 (.int .i64 0)
  exact bodyPost_ret (results_row3 rfl _ _ _ _ _ rfl B2 Tryz.underlying50 rfl (by kernel_rfl)) rfl ⟨rfl, set4 (bt hb0 hb1) _ _ _ _⟩

set_option maxRecDepth 100000 in
set_option maxHeartbeats 2000000 in
theorem next_num (s : ByteArray) (w : World) (hw : Env w) (hs : s.size ≤ 1000000) (h1 : 0 < (pieceS isDigit s).size) (u : Nat) (hn : Lib.parseUintB 64 (pieceS isDigit s).data.toList = .ok u)
    (hz : ((((pieceS isDigit s)[0]'h1).toNat : Int) == 48) = false ∨ (((((pieceS isDigit s)[0]'h1).toNat : Int) == 48) = true ∧ ((pieceS isDigit s).size : Int) ≤ 1)) :
    Calls Tryz.prog 29 #[.string s] w fun e w' => e = .returned (.tuple #[.agg #[.int .u8 3, .string ⟨#[]⟩, .int .u64 u, .int .i64 0], .string (pieceS isDigit s), .nilIface]) ∧ Below w.heap.size w w' := by
  have h3 := nem_of_size (s := pieceS isDigit s) (by omega)
  have hsz : (pieceS isDigit s).size ≤ 1000000 := by have := pieceS_le isDigit s; omega
  have HN := Lib.hid hn
  have B0 := Bk.new w #[.int .u8 0, .string ⟨#[]⟩, .int .u64 0, .int .i64 0] 50
  have hb0 : Below w.heap.size w (w.alloc (.cells #[.int .u8 0, .string ⟨#[]⟩, .int .u64 0, .int .i64 0] 50)) := (Below.refl _ _).alloc (Nat.le_refl _) _
  clear hn
  rcases hz with hz | ⟨hz, hz'⟩
  all_goals
    go_enter Tryz.func29, Tryz.ntmps29
    go_wp2_with fail
    refine (piece_c _ _ digit_c enDigit s _ hs).mono ?_
    rintro e w' ⟨rfl, rfl⟩
    go_wp2_with (go_at_call 49; refine (parse_ok _ u _ hsz HN.out).mono ?_; rintro e w1 ⟨rfl, hb1⟩; have B1 := B0.mono hb1; have C1 := B1.cell; have F1 := B1.free; have hz1 := B1.lt)
    have B2 := (((B1.set 0 (.int .u8 3)).set 1 (.string ⟨#[]⟩)).set 2 (.int .u64 u)).set 3 (.int .i64 0)
    exact bodyPost_ret (results_row3 rfl _ _ _ _ _ rfl B2 Tryz.underlying50 rfl (by kernel_rfl)) rfl ⟨rfl, set4 (bt hb0 hb1) _ _ _ _⟩

/-- What lex.next answers, by what the plain function says. -/
def NextR (r : Except Int (STok × Nat)) (e : Ending) : Prop :=
  match r with
  | .ok (t, n) => ∃ q : ByteArray, q.size = n ∧ e = .returned (.tuple #[tokV t, .string q, .nilIface])
  | .error c => e = .returned (.tuple #[tokV ⟨0, [], 0, 0⟩, .string ⟨#[]⟩, faultV 0 c])

theorem size_mk (l : List UInt8) : (⟨l.toArray⟩ : ByteArray).size = l.length := rfl

theorem nn_of_size {s : ByteArray} (h : 0 < s.size) : s.data.toList ≠ [] := by rw [cons_of_size h]; simp
theorem next_c (s : ByteArray) (w : World) (hw : Env w) (hs : s.size ≤ 1000000) :
    Calls Tryz.prog 29 #[.string s] w fun e w' => NextR (Lx.next s.data.toList) e ∧ Below w.heap.size w w' := by
  have e1 := pieceS_data isDigit s
  have e2 := pieceS_data isPart s
  have z1 := pieceS_size isDigit s
  have z2 := pieceS_size isPart s
  unfold Lx.next
  simp only []
  rw [← e1, ← e2]
  rcases Nat.eq_zero_or_pos (pieceS isDigit s).size with h1 | h1
  · have n1 : (pieceS isDigit s).data.toList = [] := List.eq_nil_of_length_eq_zero h1
    rw [if_neg (by simp [n1])]
    rcases Nat.eq_zero_or_pos (pieceS isPart s).size with h2 | h2
    · have n2 : (pieceS isPart s).data.toList = [] := List.eq_nil_of_length_eq_zero h2
      rw [if_neg (by simp [n2])]
      by_cases hg : signOf s.data.toList = []
      · rw [if_pos hg]
        exact next_bad s w hw hs h1 h2 hg
      · rw [if_neg hg]
        exact (next_sign s w hw hs h1 h2 hg).mono fun e w' ⟨he, hb⟩ => ⟨⟨⟨(signOf s.data.toList).toArray⟩, rfl, he⟩, hb⟩
    · have n2 : (pieceS isPart s).data.toList ≠ [] := nn_of_size h2
      rw [if_pos n2]
      by_cases h16 : 16 < (pieceS isPart s).data.toList.length
      · rw [if_pos h16]
        exact next_long s w hs h1 (by rw [size_data] at h16; omega)
      · rw [if_neg h16]
        rw [size_data] at h16
        cases hwd : words.contains (pieceS isPart s).data.toList with
        | true =>
          rw [if_pos rfl]
          exact (next_word s w hs h1 h2 (by omega) hwd).mono fun e w' ⟨he, hb⟩ => ⟨⟨pieceS isPart s, rfl, he⟩, hb⟩
        | false =>
          rw [if_neg (by simp)]
          exact (next_name s w hs h1 h2 (by omega) hwd).mono fun e w' ⟨he, hb⟩ => ⟨⟨pieceS isPart s, rfl, he⟩, hb⟩
  · have n1 : (pieceS isDigit s).data.toList ≠ [] := nn_of_size h1
    rw [if_pos n1]
    have hh : (pieceS isDigit s).data.toList.head? = some ((pieceS isDigit s)[0]'h1) := by rw [cons_of_size h1]; rfl
    cases hp : Lib.parseUintB 64 (pieceS isDigit s).data.toList with
    | ok u =>
      simp only [numOf, hp, hh]
      by_cases hz : (pieceS isDigit s)[0]'h1 = 48
      · by_cases hl : 1 < (pieceS isDigit s).data.toList.length
        · rw [if_pos ⟨by rw [hz], hl⟩]
          rw [size_data] at hl
          exact next_zero s w hw hs hl u hp (by rw [hz]; rfl)
        · rw [if_neg (fun h => hl h.2)]
          rw [size_data] at hl
          exact (next_num s w hw hs h1 u hp (.inr ⟨by rw [hz]; rfl, by omega⟩)).mono fun e w' ⟨he, hb⟩ => ⟨⟨pieceS isDigit s, rfl, he⟩, hb⟩
      · rw [if_neg (fun h => hz (by simpa using h.1))]
        refine (next_num s w hw hs h1 u hp (.inl ?_)).mono fun e w' ⟨he, hb⟩ => ⟨⟨pieceS isDigit s, rfl, he⟩, hb⟩
        rw [beq_eq_false_iff_ne]
        intro h
        apply hz
        have : ((pieceS isDigit s)[0]'h1).toNat = 48 := by omega
        exact UInt8.toNat_inj.1 this
    | _ => simp only [numOf, hp]; exact next_nan s w hw hs h1 (by simp [hp])
end Go.Proofs.YtkflcmengddijaaGreatDoor
