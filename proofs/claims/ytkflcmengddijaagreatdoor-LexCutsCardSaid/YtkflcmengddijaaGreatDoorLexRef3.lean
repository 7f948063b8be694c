/-
  The document's one, walked.
-/
import Derived.Test.YtkflcmengddijaaGreatDoorLexRef2
import Derived.Test.YtkflcmengddijaaGreatDoorLex4
namespace Go.Proofs.YtkflcmengddijaaGreatDoor
open Go.RowKit Lx
set_option linter.unusedVariables false
set_option linter.unusedSimpArgs false

/-- What one answers. -/
def oneV (a : Nat) : Except Int (STok × Nat) → Value
  | .ok (t, n) => .tuple #[tokV { t with at' := (a : Nat) }, .int .i64 n, .int .i64 0]
  | .error c => .tuple #[tokV ⟨0, [], 0, 0⟩, .int .i64 0, .int .i64 c]

/-- Where a run of such bytes ends. -/
theorem run_at (p : UInt8 → Bool) (s : ByteArray) (a k : Nat) (ha : a ≤ k) (hk : k < a + ((s.data.toList.drop a).takeWhile p).length) (hks : k < s.size) : p s[k] = true := by
  have h1 : (s.data.toList.drop a).takeWhile p <+: s.data.toList.drop a := List.takeWhile_prefix p
  have h2 : k - a < ((s.data.toList.drop a).takeWhile p).length := by omega
  have h3 := h1.getElem h2
  have h4 : ((s.data.toList.drop a).takeWhile p)[k - a] = s[k] := by
    rw [h3, List.getElem_drop]
    have e : a + (k - a) = k := by omega
    simp only [e]
    exact get_data s k hks (by rw [size_data]; exact hks)
  rw [← h4]
  exact mem_tw _ _ (List.getElem_mem _)
theorem run_end (p : UInt8 → Bool) (s : ByteArray) (a : Nat) (hks : a + ((s.data.toList.drop a).takeWhile p).length < s.size) : p s[a + ((s.data.toList.drop a).takeWhile p).length] = false := by
  obtain ⟨h1, h2⟩ := dropWhile_split p (s.data.toList.drop a)
  apply h2
  rw [List.drop_drop, drop_data s _ hks]
  rfl
theorem run_le (p : UInt8 → Bool) (s : ByteArray) (a : Nat) (ha : a ≤ s.size) : a + ((s.data.toList.drop a).takeWhile p).length ≤ s.size := by
  have := (List.takeWhile_prefix p (l := s.data.toList.drop a)).length_le
  rw [List.length_drop, size_data] at this
  omega
theorem run_slice (p : UInt8 → Bool) (s : ByteArray) (a : Nat) : (s.extract a (a + ((s.data.toList.drop a).takeWhile p).length)).data.toList = (s.data.toList.drop a).takeWhile p := by
  rw [slice_data]
  exact (List.prefix_iff_eq_take.1 (List.takeWhile_prefix p)).symm

def numX (P : Nat) : Option Nat → Except Int (STok × Nat)
  | some u => .ok (⟨3, [], u, 0⟩, P)
  | none => .error 7
abbrev tok0 : Array Value := #[.int .u8 0, .string ⟨#[]⟩, .int .u64 0, .int .i64 0]
/-- What both ways know of the first loop. -/
structure Dig (s : ByteArray) (a P : Nat) : Prop where
  le : a + P ≤ s.size
  is : ∀ k (h : k < s.size), a ≤ k → k < a + P → isDigit s[k] = true
  no : ∀ (h : a + P < s.size), isDigit s[a + P] = false

set_option maxRecDepth 100000 in
set_option maxHeartbeats 4000000 in
theorem one_num (s : ByteArray) (a P : Nat) (w : World) (hs : s.size ≤ 1000000) (hD : Dig s a P) (hP : 0 < P) (r : Option Nat) (hN : ∀ w, Calls Tryz.prog 56 #[.string (s.extract a (a + P))] w fun e w' => e = .returned (numV r) ∧ w = w') :
    Calls Tryz.prog 31 #[.string s, .int .i64 a] w fun e w' => e = .returned (oneV a (numX P r)) ∧ Below w.heap.size w w' := by
  obtain ⟨h1, h2, h3⟩ := hD
  have H2 := Lib.hid h2
  have H3 := Lib.hid h3
  have HN := Lib.hid hN
  have z0 : (0 : Int) ≤ (a : Int) := by omega
  have z1 : (a : Int) + (P : Int) ≤ (s.size : Int) := by omega
  have z2 : (0 : Int) < (P : Int) := by omega
  have z3 : (s.size : Int) ≤ 1000000 := by omega
  have B0 := Bk.new w tok0 50
  have hb0 : Below w.heap.size w (w.alloc (.cells tok0 50)) := (Below.refl _ _).alloc (Nat.le_refl _) _
  clear h2 h3 hN
  go_enter Tryz.func31, Tryz.ntmps31
  go_wp2_with fail
  go_loop [7] (fun i => ∃ k : Nat, a ≤ k ∧ k ≤ a + P ∧ i = .int .i64 k) (fun i => s.size - (intOf i).toNat)
  case atStart => exact ⟨a, Nat.le_refl _, Nat.le_add_right _ _, rfl⟩
  case round =>
    obtain ⟨k, hka, hkP, rfl⟩ := hrel
    have i0 : (0 : Int) ≤ (k : Int) := by omega
    by_cases hin : k < a + P
    · have hks : k < s.size := by omega
      have i1 : (k : Int) < (s.size : Int) := by omega
      have hd := H2.out k hks hka hin
      have HD := Lib.hid hd
      clear hd
      go_wp2_with (go_at_call 39; refine (rDigit_c s[k] _).mono ?_; rintro e w' ⟨rfl, rfl⟩; rw [HD.out])
      go_round
      case rel => exact ⟨k + 1, by omega, by omega, by go_num⟩
      case measure => simp [intOf]; omega
    · obtain rfl : k = a + P := by omega
      have C0 := B0.cell
      have F0 := B0.free
      by_cases hks : a + P < s.size
      · have i1 : (a : Int) + (P : Int) < (s.size : Int) := by omega
        have HD := Lib.hid (H3.out hks)
        go_wp2_with (go_at_call 39; refine (rDigit_c s[a + P] _).mono ?_; rintro e w' ⟨rfl, rfl⟩; rw [HD.out])
        refine (HN.out _).mono ?_
        rintro e w' ⟨h9, rfl⟩
        cases r with
        | some u =>
          obtain rfl : e = .returned (.tuple #[.int .u64 u, .bool true]) := h9
          go_wp2_with fail
          have B2 := Bk.new w #[.int .u8 3, .string ⟨#[]⟩, .int .u64 u, .int .i64 a] 50
          refine bodyPost_ret (results_row3 rfl _ _ _ _ _ rfl B2 Tryz.underlying50 rfl (by kernel_rfl)) rfl ⟨?_, (Below.refl _ _).alloc (Nat.le_refl _) _⟩
          show Ending.returned (.tuple #[.agg #[.int .u8 3, .string ⟨#[]⟩, .int .u64 u, .int .i64 a], .int .i64 ((a : Int) + (P : Int) - (a : Int)), .int .i64 0]) = _
          rw [show (a : Int) + (P : Int) - (a : Int) = (P : Int) by omega]
          rfl
        | none =>
          obtain rfl : e = .returned (.tuple #[.int .u64 0, .bool false]) := h9
          go_wp2_with fail
          have B2 := B0
          refine bodyPost_ret (results_row3 rfl _ _ _ _ _ rfl B2 Tryz.underlying50 rfl (by kernel_rfl)) rfl ⟨rfl, hb0⟩
      · have i1 : (a : Int) + (P : Int) = (s.size : Int) := by omega
        go_wp2_with fail
        have hsz : a + P = s.size := by omega
        have HN2 := HN.out
        rw [hsz] at HN2
        refine (HN2 _).mono ?_
        rintro e w' ⟨h9, rfl⟩
        cases r with
        | some u =>
          obtain rfl : e = .returned (.tuple #[.int .u64 u, .bool true]) := h9
          go_wp2_with fail
          have B2 := Bk.new w #[.int .u8 3, .string ⟨#[]⟩, .int .u64 u, .int .i64 a] 50
          refine bodyPost_ret (results_row3 rfl _ _ _ _ _ rfl B2 Tryz.underlying50 rfl (by kernel_rfl)) rfl ⟨?_, (Below.refl _ _).alloc (Nat.le_refl _) _⟩
          show Ending.returned (.tuple #[.agg #[.int .u8 3, .string ⟨#[]⟩, .int .u64 u, .int .i64 a], .int .i64 ((s.size : Int) - (a : Int)), .int .i64 0]) = _
          rw [show (s.size : Int) - (a : Int) = (P : Int) by omega]
          rfl
        | none =>
          obtain rfl : e = .returned (.tuple #[.int .u64 0, .bool false]) := h9
          go_wp2_with fail
          have B2 := B0
          refine bodyPost_ret (results_row3 rfl _ _ _ _ _ rfl B2 Tryz.underlying50 rfl (by kernel_rfl)) rfl ⟨rfl, hb0⟩

/-- What the ways without digits know of the second loop. -/
structure Prt (s : ByteArray) (a Q : Nat) : Prop where
  le : a + Q ≤ s.size
  is : ∀ k (h : k < s.size), a ≤ k → k < a + Q → isPart s[k] = true
  no : ∀ (h : a + Q < s.size), isPart s[a + Q] = false
theorem letter_or {c : UInt8} (h : isPart c = true) (h2 : isLetter c = false) : isDigit c = true := by simpa [isPart, h2] using h
theorem part_no {c : UInt8} (h : isPart c = false) : isLetter c = false ∧ isDigit c = false := by simpa [isPart] using h

set_option maxRecDepth 100000 in
set_option maxHeartbeats 4000000 in
theorem one_word (s : ByteArray) (a Q : Nat) (w : World) (hs : s.size ≤ 1000000) (has : a < s.size) (hD : isDigit s[a] = false) (hQ : Prt s a Q) (Qp : 0 < Q) (X : ByteArray) (hX : X = s.extract a (a + Q)) (hXs : X.size = Q) (b : Bool) (hb : words.contains X.data.toList = b) :
    Calls Tryz.prog 31 #[.string s, .int .i64 a] w fun e w' => e = .returned (if 16 < Q then oneV a (.error 5) else .tuple #[.agg #[.int .u8 (if b then 2 else 1), .string X, .int .u64 0, .int .i64 a], .int .i64 Q, .int .i64 0]) ∧ Below w.heap.size w w' := by
  obtain ⟨h1, h2, h3⟩ := hQ
  have H2 := Lib.hid h2
  have H3 := Lib.hid h3
  have HD := Lib.hid hD
  have HB := Lib.hid hb
  have z0 : (0 : Int) ≤ (a : Int) := by omega
  have z1 : (a : Int) + (Q : Int) ≤ (s.size : Int) := by omega
  have z2 : (0 : Int) < (Q : Int) := by omega
  have z3 : (s.size : Int) ≤ 1000000 := by omega
  have z4 : (a : Int) < (s.size : Int) := by omega
  have B0 := Bk.new w tok0 50
  have hb0 : Below w.heap.size w (w.alloc (.cells tok0 50)) := (Below.refl _ _).alloc (Nat.le_refl _) _
  clear h2 h3 hD hb
  go_enter Tryz.func31, Tryz.ntmps31
  go_wp2_with fail
  go_loop [7] (fun i => i = .int .i64 a) (fun i => 0)
  case atStart => rfl
  case round =>
    obtain rfl := hrel
    go_wp2_with (go_at_call 39; refine (rDigit_c s[a] _).mono ?_; rintro e w' ⟨rfl, rfl⟩; rw [HD.out])
    go_loop [7] (fun i => ∃ k : Nat, a ≤ k ∧ k ≤ a + Q ∧ i = .int .i64 k) (fun i => s.size - (intOf i).toNat)
    case atStart => exact ⟨a, Nat.le_refl _, Nat.le_add_right _ _, rfl⟩
    case round =>
      obtain ⟨k, hka, hkQ, rfl⟩ := hrel
      have i0 : (0 : Int) ≤ (k : Int) := by omega
      by_cases hin : k < a + Q
      · have hks : k < s.size := by omega
        have i1 : (k : Int) < (s.size : Int) := by omega
        have hp := H2.out k hks hka hin
        cases hl : isLetter s[k] with
        | true =>
          have HL := Lib.hid hl
          clear hl hp
          go_wp2_with (go_at_call 37; refine (rLetter_c s[k] _).mono ?_; rintro e w' ⟨rfl, rfl⟩; rw [HL.out])
          go_round
          case rel => exact ⟨k + 1, by omega, by omega, by go_num⟩
          case measure => simp [intOf]; omega
        | false =>
          have HL := Lib.hid hl
          have HE := Lib.hid (letter_or hp hl)
          clear hl hp
          go_wp2_with (first
            | (go_at_call 37; refine (rLetter_c s[k] _).mono ?_; rintro e w' ⟨rfl, rfl⟩; rw [HL.out])
            | (go_at_call 39; refine (rDigit_c s[k] _).mono ?_; rintro e w' ⟨rfl, rfl⟩; rw [HE.out]))
          go_round
          case rel => exact ⟨k + 1, by omega, by omega, by go_num⟩
          case measure => simp [intOf]; omega
      · obtain rfl : k = a + Q := by omega
        have C0 := B0.cell
        have F0 := B0.free
        by_cases hks : a + Q < s.size
        · have i1 : (a : Int) + (Q : Int) < (s.size : Int) := by omega
          obtain ⟨n1, n2⟩ := part_no (H3.out hks)
          have HN1 := Lib.hid n1
          have HN2 := Lib.hid n2
          clear n1 n2
          have hx : s.extract a (a + Q) = X := hX.symm
          clear hX
          by_cases hlong : (16 : Int) < (X.size : Int)
          · go_wp2_with (first
            | (go_at_call 37; refine (rLetter_c s[a + Q] _).mono ?_; rintro e w' ⟨rfl, rfl⟩; rw [HN1.out])
            | (go_at_call 39; refine (rDigit_c s[a + Q] _).mono ?_; rintro e w' ⟨rfl, rfl⟩; rw [HN2.out])
            | fail)
            exact bodyPost_ret (results_row3 rfl _ _ _ _ _ rfl B0 Tryz.underlying50 rfl (by kernel_rfl)) rfl ⟨rfl, hb0⟩
          · cases b with
            | true =>
              go_wp2_with (first
            | (go_at_call 37; refine (rLetter_c s[a + Q] _).mono ?_; rintro e w' ⟨rfl, rfl⟩; rw [HN1.out])
            | (go_at_call 39; refine (rDigit_c s[a + Q] _).mono ?_; rintro e w' ⟨rfl, rfl⟩; rw [HN2.out])
            | (go_at_call 38; refine (rWord_c X _).mono ?_; rintro e w1 ⟨rfl, hb1⟩; rw [HB.out]; have B1 := B0.mono hb1; have C1 := B1.cell; have F1 := B1.free; have hz1 := B1.lt))
              have B2 := (((B1.set 0 (.int .u8 2)).set 1 (.string X)).set 2 (.int .u64 0)).set 3 (.int .i64 a)
              refine bodyPost_ret (results_row3 rfl _ _ _ _ _ rfl B2 Tryz.underlying50 rfl (by kernel_rfl)) rfl ⟨?_, set4 (bt hb0 hb1) _ _ _ _⟩
              show Ending.returned (.tuple #[.agg #[.int .u8 2, .string X, .int .u64 0, .int .i64 a], .int .i64 ((a : Int) + (Q : Int) - (a : Int)), .int .i64 0]) = _
              rw [show (a : Int) + (Q : Int) - (a : Int) = (Q : Int) by omega]
            | false =>
              go_wp2_with (first
            | (go_at_call 37; refine (rLetter_c s[a + Q] _).mono ?_; rintro e w' ⟨rfl, rfl⟩; rw [HN1.out])
            | (go_at_call 39; refine (rDigit_c s[a + Q] _).mono ?_; rintro e w' ⟨rfl, rfl⟩; rw [HN2.out])
            | (go_at_call 38; refine (rWord_c X _).mono ?_; rintro e w1 ⟨rfl, hb1⟩; rw [HB.out]; have B1 := B0.mono hb1; have C1 := B1.cell; have F1 := B1.free; have hz1 := B1.lt))
              have B2 := (((B1.set 0 (.int .u8 1)).set 1 (.string X)).set 2 (.int .u64 0)).set 3 (.int .i64 a)
              refine bodyPost_ret (results_row3 rfl _ _ _ _ _ rfl B2 Tryz.underlying50 rfl (by kernel_rfl)) rfl ⟨?_, set4 (bt hb0 hb1) _ _ _ _⟩
              show Ending.returned (.tuple #[.agg #[.int .u8 1, .string X, .int .u64 0, .int .i64 a], .int .i64 ((a : Int) + (Q : Int) - (a : Int)), .int .i64 0]) = _
              rw [show (a : Int) + (Q : Int) - (a : Int) = (Q : Int) by omega]
        · have i1 : (a : Int) + (Q : Int) = (s.size : Int) := by omega
          have hx : s.extract a s.size = X := by rw [hX]; congr 1; omega
          clear hX
          by_cases hlong : (16 : Int) < (X.size : Int)
          · go_wp2_with (first
            | fail)
            exact bodyPost_ret (results_row3 rfl _ _ _ _ _ rfl B0 Tryz.underlying50 rfl (by kernel_rfl)) rfl ⟨rfl, hb0⟩
          · cases b with
            | true =>
              go_wp2_with (first
            | (go_at_call 38; refine (rWord_c X _).mono ?_; rintro e w1 ⟨rfl, hb1⟩; rw [HB.out]; have B1 := B0.mono hb1; have C1 := B1.cell; have F1 := B1.free; have hz1 := B1.lt))
              have B2 := (((B1.set 0 (.int .u8 2)).set 1 (.string X)).set 2 (.int .u64 0)).set 3 (.int .i64 a)
              refine bodyPost_ret (results_row3 rfl _ _ _ _ _ rfl B2 Tryz.underlying50 rfl (by kernel_rfl)) rfl ⟨?_, set4 (bt hb0 hb1) _ _ _ _⟩
              show Ending.returned (.tuple #[.agg #[.int .u8 2, .string X, .int .u64 0, .int .i64 a], .int .i64 ((s.size : Int) - (a : Int)), .int .i64 0]) = _
              rw [show (s.size : Int) - (a : Int) = (Q : Int) by omega]
            | false =>
              go_wp2_with (first
            | (go_at_call 38; refine (rWord_c X _).mono ?_; rintro e w1 ⟨rfl, hb1⟩; rw [HB.out]; have B1 := B0.mono hb1; have C1 := B1.cell; have F1 := B1.free; have hz1 := B1.lt))
              have B2 := (((B1.set 0 (.int .u8 1)).set 1 (.string X)).set 2 (.int .u64 0)).set 3 (.int .i64 a)
              refine bodyPost_ret (results_row3 rfl _ _ _ _ _ rfl B2 Tryz.underlying50 rfl (by kernel_rfl)) rfl ⟨?_, set4 (bt hb0 hb1) _ _ _ _⟩
              show Ending.returned (.tuple #[.agg #[.int .u8 1, .string X, .int .u64 0, .int .i64 a], .int .i64 ((s.size : Int) - (a : Int)), .int .i64 0]) = _
              rw [show (s.size : Int) - (a : Int) = (Q : Int) by omega]

set_option maxRecDepth 100000 in
set_option maxHeartbeats 4000000 in
theorem one_sign (s : ByteArray) (a : Nat) (w : World) (hs : s.size ≤ 1000000) (has : a < s.size) (hD : isPart s[a] = false) (X : ByteArray) (hX : strB (signOf (s.data.toList.drop a)) = X) :
    Calls Tryz.prog 31 #[.string s, .int .i64 a] w fun e w' => e = .returned (if X.size = 0 then oneV a (.error 7) else .tuple #[.agg #[.int .u8 4, .string X, .int .u64 0, .int .i64 a], .int .i64 X.size, .int .i64 0]) ∧ Below w.heap.size w w' := by
  obtain ⟨n1, n2⟩ := part_no hD
  have HN1 := Lib.hid n1
  have HN2 := Lib.hid n2
  have hS : ∀ w, Calls Tryz.prog 57 #[.string s, .int .i64 a] w fun e w' => e = .returned (.string X) ∧ Below w.heap.size w w' := fun w => by
    have := rSign_c s a w hs (by omega)
    rw [hX] at this
    exact this
  have HS := Lib.hid hS
  have z0 : (0 : Int) ≤ (a : Int) := by omega
  have z3 : (s.size : Int) ≤ 1000000 := by omega
  have z4 : (a : Int) < (s.size : Int) := by omega
  have B0 := Bk.new w tok0 50
  have hb0 : Below w.heap.size w (w.alloc (.cells tok0 50)) := (Below.refl _ _).alloc (Nat.le_refl _) _
  clear n1 n2 hD hS hX
  go_enter Tryz.func31, Tryz.ntmps31
  go_wp2_with fail
  go_loop [7] (fun i => i = .int .i64 a) (fun i => 0)
  case atStart => rfl
  case round =>
    obtain rfl := hrel
    go_wp2_with (go_at_call 39; refine (rDigit_c s[a] _).mono ?_; rintro e w' ⟨rfl, rfl⟩; rw [HN2.out])
    go_loop [7] (fun i => i = .int .i64 a) (fun i => 0)
    case atStart => rfl
    case round =>
      obtain rfl := hrel
      by_cases hz : X.size = 0
      · have hz1 : X.toList = [] := nil_of_size hz
        have hz2 : X.toList.isEmpty = true := by rw [hz1]; rfl
        go_wp2_with (first
          | (go_at_call 37; refine (rLetter_c s[a] _).mono ?_; rintro e w' ⟨rfl, rfl⟩; rw [HN1.out])
          | (go_at_call 39; refine (rDigit_c s[a] _).mono ?_; rintro e w' ⟨rfl, rfl⟩; rw [HN2.out])
          | (go_at_call 57; refine (HS.out _).mono ?_; rintro e w1 ⟨rfl, hb1⟩; have B1 := B0.mono hb1; have C1 := B1.cell; have F1 := B1.free; have hz1 := B1.lt))
        have B2 := (((B1.set 0 (.int .u8 0)).set 1 (.string ⟨#[]⟩)).set 2 (.int .u64 0)).set 3 (.int .i64 0)
        exact bodyPost_ret (results_row3 rfl _ _ _ _ _ rfl B2 Tryz.underlying50 rfl (by kernel_rfl)) rfl ⟨rfl, set4 (bt hb0 hb1) _ _ _ _⟩
      · have hz1 : ¬ X.toList = [] := ne_of_size (by omega)
        have hz2 : X.toList.isEmpty = false := by simpa using hz1
        have hz4 : (X.toList == []) = false := by simpa using hz1
        go_wp2_with (first
          | (go_at_call 37; refine (rLetter_c s[a] _).mono ?_; rintro e w' ⟨rfl, rfl⟩; rw [HN1.out])
          | (go_at_call 39; refine (rDigit_c s[a] _).mono ?_; rintro e w' ⟨rfl, rfl⟩; rw [HN2.out])
          | (go_at_call 57; refine (HS.out _).mono ?_; rintro e w1 ⟨rfl, hb1⟩; have B1 := B0.mono hb1; have C1 := B1.cell; have F1 := B1.free; have hz1 := B1.lt))
        have B2 := (((B1.set 0 (.int .u8 4)).set 1 (.string X)).set 2 (.int .u64 0)).set 3 (.int .i64 a)
        exact bodyPost_ret (results_row3 rfl _ _ _ _ _ rfl B2 Tryz.underlying50 rfl (by kernel_rfl)) rfl ⟨rfl, set4 (bt hb0 hb1) _ _ _ _⟩
end Go.Proofs.YtkflcmengddijaaGreatDoor
