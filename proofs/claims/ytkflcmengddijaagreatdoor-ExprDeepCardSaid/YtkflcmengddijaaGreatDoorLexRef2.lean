/-
  The document's Named, number, sign, walked.
-/
import Derived.Test.YtkflcmengddijaaGreatDoorLexRef1
import Derived.Handy
namespace Go.Proofs.YtkflcmengddijaaGreatDoor
open Go.RowKit Lx
set_option linter.unusedVariables false
set_option linter.unusedSimpArgs false

theorem all_step {l : List UInt8} {p : UInt8 → Bool} : ∀ (k : Nat), (∀ j (h : j < l.length), j < k → p l[j] = true) → l.all p = (l.drop k).all p
  | 0, _ => rfl
  | k + 1, h => by
    rw [all_step k (fun j hj hk => h j hj (by omega))]
    by_cases hk : k < l.length
    · rw [List.drop_eq_getElem_cons hk, List.all_cons, h k hk (by omega)]; rfl
    · rw [List.drop_of_length_le (by omega), List.drop_of_length_le (by omega)]
theorem drop_data (s : ByteArray) (k : Nat) (h : k < s.size) : s.data.toList.drop k = s[k] :: s.data.toList.drop (k + 1) := by
  rw [List.drop_eq_getElem_cons (by rw [size_data]; exact h)]
  rfl

set_option maxRecDepth 100000 in
set_option maxHeartbeats 2000000 in
theorem rNamed_c (s : ByteArray) (w : World) (hs : s.size ≤ 1000000) : Calls Tryz.prog 13 #[.string s] w fun e w' => e = .returned (.bool (isName s.data.toList)) ∧ Below w.heap.size w w' := by
  by_cases h0 : s.size = 0
  · have h1 := nil_of_size h0
    clear h0
    go_enter Tryz.func13, Tryz.ntmps13
    go_wp2
    go_ret
    refine ⟨ret_bool ?_, Below.refl _ _⟩
    rw [← toList_data, h1]; rfl
  have h1 : 0 < s.size := by omega
  have h2 := ne_of_size h1
  have h3 := Lib.hid (cons_of_size h1)
  clear h0
  by_cases h16 : (s.size : Int) ≤ 16
  case neg =>
    go_enter Tryz.func13, Tryz.ntmps13
    go_wp2
    go_ret
    refine ⟨ret_bool ?_, Below.refl _ _⟩
    have : ¬ s.data.toList.length ≤ 16 := by rw [size_data]; omega
    simp only [isName, decide_eq_false this, Bool.and_false, Bool.false_and]
  have h17 : s.data.toList.length ≤ 16 := by rw [size_data]; omega
  have H17 := Lib.hid h17; clear h17
  cases hl : isLetter s[0] with
  | false =>
    have HL := Lib.hid hl; clear hl
    go_enter Tryz.func13, Tryz.ntmps13
    go_wp2_with (go_at_call 37; refine (rLetter_c _ _).mono ?_; rintro e w' ⟨rfl, rfl⟩; rw [HL.out])
    go_ret
    refine ⟨ret_bool ?_, Below.refl _ _⟩
    rw [h3.out]
    simp [isName, HL.out]
  | true =>
    have HL := Lib.hid hl; clear hl
    cases hw : words.contains s.data.toList with
    | true =>
      have HW := Lib.hid hw; clear hw
      go_enter Tryz.func13, Tryz.ntmps13
      go_wp2_with (first
        | (go_at_call 37; refine (rLetter_c _ _).mono ?_; rintro e w' ⟨rfl, rfl⟩; rw [HL.out])
        | (go_at_call 38; refine (rWord_c _ _).mono ?_; rintro e w1 ⟨rfl, hb1⟩; rw [HW.out]))
      go_ret
      refine ⟨ret_bool ?_, hb1⟩
      simp only [isName, HW.out, Bool.not_true, Bool.and_false, Bool.false_and]
    | false =>
      have HW := Lib.hid hw; clear hw
      have h5 : (s.data.toList.head?.map isLetter).getD false = true := by rw [h3.out]; exact HL.out
      have h6 : s.data.toList.isEmpty = false := by rw [h3.out]; rfl
      have h7 : isName s.data.toList = s.data.toList.all isPart := by
        rw [isName, h5, HW.out, decide_eq_true H17.out, h6]
        simp
      have H7 := Lib.hid h7
      have h8 : s.toList.isEmpty = false := by simpa using h2
      clear h5 h6 h7
      go_enter Tryz.func13, Tryz.ntmps13
      go_wp2_with (first
        | (go_at_call 37; refine (rLetter_c _ _).mono ?_; rintro e w' ⟨rfl, rfl⟩; rw [HL.out])
        | (go_at_call 38; refine (rWord_c _ _).mono ?_; rintro e w1 ⟨rfl, hb1⟩; rw [HW.out]))
      go_loopw [3] (fun i wr => ∃ k : Nat, k ≤ s.size ∧ i = .int .i64 k ∧ (∀ j (h : j < s.data.toList.length), j < k → isPart s.data.toList[j] = true) ∧ Below w.heap.size w wr) (fun i _ => s.size - (intOf i).toNat)
      case atStart => exact ⟨0, Nat.zero_le _, rfl, fun j _ h => absurd h (by omega), hb1⟩
      case round =>
        obtain ⟨k, hk, rfl, hall, hb⟩ := hrel
        have HA := Lib.hid hall; clear hall
        by_cases hlt : k < s.size
        · have i0 : (0 : Int) ≤ (k : Int) := by omega
          have i1 : (k : Int) < (s.size : Int) := by omega
          have next : isPart s[k] = true → ∀ j (h : j < s.data.toList.length), j < k + 1 → isPart s.data.toList[j] = true := fun hp j h hj => by
            by_cases e : j = k
            · subst e; exact hp
            · exact HA.out j h (by omega)
          have HN := Lib.hid next
          clear next
          cases hk1 : isLetter s[k] with
          | true =>
            have HK := Lib.hid hk1; clear hk1
            go_wp2_with (go_at_call 37; refine (rLetter_c s[k] _).mono ?_; rintro e w' ⟨rfl, rfl⟩; rw [HK.out])
            exact ⟨⟨k + 1, by omega, by go_num, HN.out (by simp [isPart, HK.out]), hb⟩, by simp [intOf]; omega⟩
          | false =>
            have HK := Lib.hid hk1; clear hk1
            cases hk2 : isDigit s[k] with
            | true =>
              have HD := Lib.hid hk2; clear hk2
              go_wp2_with (first
                | (go_at_call 37; refine (rLetter_c s[k] _).mono ?_; rintro e w' ⟨rfl, rfl⟩; rw [HK.out])
                | (go_at_call 39; refine (rDigit_c s[k] _).mono ?_; rintro e w' ⟨rfl, rfl⟩; rw [HD.out]))
              exact ⟨⟨k + 1, by omega, by go_num, HN.out (by simp [isPart, HD.out]), hb⟩, by simp [intOf]; omega⟩
            | false =>
              have HD := Lib.hid hk2; clear hk2
              go_wp2_with (first
                | (go_at_call 37; refine (rLetter_c s[k] _).mono ?_; rintro e w' ⟨rfl, rfl⟩; rw [HK.out])
                | (go_at_call 39; refine (rDigit_c s[k] _).mono ?_; rintro e w' ⟨rfl, rfl⟩; rw [HD.out]))
              go_ret
              refine ⟨ret_bool ?_, hb⟩
              rw [H7.out, all_step k HA.out, drop_data s k hlt, List.all_cons]
              simp [isPart, HK.out, HD.out]
        · have i1 : (s.size : Int) ≤ (k : Int) := by omega
          go_wp2
          go_ret
          refine ⟨ret_bool ?_, hb⟩
          rw [H7.out, all_step k HA.out, List.drop_of_length_le (by rw [size_data]; omega)]
          rfl

/-- What number answers. -/
def numV : Option Nat → Value
  | some u => .tuple #[.int .u64 u, .bool true]
  | none => .tuple #[.int .u64 0, .bool false]
set_option maxRecDepth 100000 in
set_option maxHeartbeats 2000000 in
theorem rNumber_c (s : ByteArray) (w : World) (hs : s.size ≤ 1000000) (hp : 0 < s.size) (hd : ∀ c ∈ s.data.toList, isDigit c = true) :
    Calls Tryz.prog 56 #[.string s] w fun e w' => e = .returned (numV (numOf s.data.toList)) ∧ w = w' := by
  have hne : s.data.toList ≠ [] := by
    intro h
    rw [← size_data, h] at hp
    simp at hp
  have hn := numOf_ref hne hd
  have hh : s.data.toList.head? = some s[0] := by rw [cons_of_size hp]; rfl
  rw [hh, size_data] at hn
  by_cases hz : s[0].toNat = 48 ∧ 1 < s.size
  · obtain ⟨z1, z2⟩ := hz
    have z3 : ((s[0].toNat : Nat) : Int) = 48 := by omega
    have z4 : (1 : Int) < (s.size : Int) := by omega
    have e : s[0] = 48 := UInt8.toNat_inj.1 z1
    rw [if_pos ⟨by rw [e], z2⟩] at hn
    rw [hn]
    clear hn hh hne hd e
    go_enter Tryz.func56, Tryz.ntmps56
    go_wp2
    go_returns
    exact ⟨rfl, rfl⟩
  · have e : ¬ (some s[0] = some 48 ∧ 1 < s.size) := fun ⟨h1, h2⟩ => hz ⟨by injection h1 with h1; rw [h1]; rfl, h2⟩
    rw [if_neg e] at hn
    rw [hn]
    have hdig : ∀ k (h : k < s.size), (48 : Int) ≤ (s[k].toNat : Int) ∧ (s[k].toNat : Int) ≤ 57 := fun k h => by
      have := hd s[k] (by rw [← get_data s k h (by rw [size_data]; exact h)]; exact List.getElem_mem _)
      simp [isDigit] at this
      omega
    have HDG := Lib.hid hdig
    have hz' : ((s[0].toNat : Nat) : Int) = 48 → ¬ (1 : Int) < (s.size : Int) := fun h1 h2 => hz ⟨by omega, by omega⟩
    clear hn hh hne hd e hdig hz
    have loop : ∀ (q : Prop), q → q := fun _ h => h
    by_cases h1 : (1 : Int) < (s.size : Int)
    · have z3 : ¬ ((s[0].toNat : Nat) : Int) = 48 := fun h => hz' h h1
      clear hz'
      go_enter Tryz.func56, Tryz.ntmps56
      go_wp2
      go_loop [4, 5] (fun n i => ∃ k acc : Nat, k ≤ s.size ∧ i = .int .i64 k ∧ n = .int .u64 acc ∧ acc < 18446744073709551616 ∧ refNum (s.data.toList.drop k) acc = refNum s.data.toList 0) (fun _ i => s.size - (intOf i).toNat)
      case atStart => exact ⟨0, 0, Nat.zero_le _, rfl, rfl, by decide, rfl⟩
      case round =>
        obtain ⟨k, acc, hk, rfl, rfl, hacc, hR⟩ := hrel
        have HR := Lib.hid hR
        clear hR
        have a0 : (0 : Int) ≤ (acc : Int) := by omega
        have a1 : (acc : Int) < 18446744073709551616 := by omega
        by_cases hlt : k < s.size
        · have i0 : (0 : Int) ≤ (k : Int) := by omega
          have i1 : (k : Int) < (s.size : Int) := by omega
          obtain ⟨g0, g1⟩ := HDG.out k hlt
          by_cases hov : (18446744073709551615 - ((s[k].toNat : Int) - 48)) / 10 < (acc : Int)
          · go_wp2
            go_returns
            refine ⟨?_, rfl⟩
            rw [← HR.out, drop_data s k hlt]
            simp only [refNum]
            rw [if_pos (by omega)]
            rfl
          · go_wp2
            go_round
            case rel =>
              refine ⟨k + 1, 10 * acc + (s[k].toNat - 48), by omega, by go_num, ?_, by omega, ?_⟩
              · congr 1
                omega
              · rw [← HR.out, drop_data s k hlt]
                simp only [refNum]
                rw [if_neg (by omega)]
            case measure => simp [intOf]; omega
        · have i1 : (s.size : Int) ≤ (k : Int) := by omega
          go_wp2
          go_returns
          refine ⟨?_, rfl⟩
          rw [← HR.out, List.drop_of_length_le (by rw [size_data]; omega)]
          rfl
    · clear hz'
      have h1' : (s.size : Int) ≤ 1 := by omega
      go_enter Tryz.func56, Tryz.ntmps56
      go_wp2
      go_loop [4, 5] (fun n i => ∃ k acc : Nat, k ≤ s.size ∧ i = .int .i64 k ∧ n = .int .u64 acc ∧ acc < 18446744073709551616 ∧ refNum (s.data.toList.drop k) acc = refNum s.data.toList 0) (fun _ i => s.size - (intOf i).toNat)
      case atStart => exact ⟨0, 0, Nat.zero_le _, rfl, rfl, by decide, rfl⟩
      case round =>
        obtain ⟨k, acc, hk, rfl, rfl, hacc, hR⟩ := hrel
        have HR := Lib.hid hR
        clear hR
        have a0 : (0 : Int) ≤ (acc : Int) := by omega
        have a1 : (acc : Int) < 18446744073709551616 := by omega
        by_cases hlt : k < s.size
        · have i0 : (0 : Int) ≤ (k : Int) := by omega
          have i1 : (k : Int) < (s.size : Int) := by omega
          obtain ⟨g0, g1⟩ := HDG.out k hlt
          by_cases hov : (18446744073709551615 - ((s[k].toNat : Int) - 48)) / 10 < (acc : Int)
          · go_wp2
            go_returns
            refine ⟨?_, rfl⟩
            rw [← HR.out, drop_data s k hlt]
            simp only [refNum]
            rw [if_pos (by omega)]
            rfl
          · go_wp2
            go_round
            case rel =>
              refine ⟨k + 1, 10 * acc + (s[k].toNat - 48), by omega, by go_num, ?_, by omega, ?_⟩
              · congr 1
                omega
              · rw [← HR.out, drop_data s k hlt]
                simp only [refNum]
                rw [if_neg (by omega)]
            case measure => simp [intOf]; omega
        · have i1 : (s.size : Int) ≤ (k : Int) := by omega
          go_wp2
          go_returns
          refine ⟨?_, rfl⟩
          rw [← HR.out, List.drop_of_length_le (by rw [size_data]; omega)]
          rfl

theorem find_step {xs : List (List UInt8)} {p : List UInt8 → Bool} : ∀ (k : Nat), (∀ j (h : j < xs.length), j < k → p xs[j] = false) → xs.find? p = (xs.drop k).find? p
  | 0, _ => rfl
  | k + 1, h => by
    rw [find_step k (fun j hj hk => h j hj (by omega))]
    by_cases hk : k < xs.length
    · rw [List.drop_eq_getElem_cons hk, List.find?_cons, h k hk (by omega)]
    · rw [List.drop_of_length_le (by omega), List.drop_of_length_le (by omega)]
theorem belowN {B : Nat} {a w : World} (h : Below B a w) (n : Nat) : Below B a (w.drewN n) := ⟨h.os, h.tape, h.output, h.size, h.block⟩
theorem slice_data (s : ByteArray) (a n : Nat) : (s.extract a (a + n)).data.toList = (s.data.toList.drop a).take n := by simp

set_option maxRecDepth 100000 in
set_option maxHeartbeats 2000000 in
theorem rSign_c (s : ByteArray) (a : Nat) (w : World) (hs : s.size ≤ 1000000) (ha : a ≤ s.size) :
    Calls Tryz.prog 57 #[.string s, .int .i64 a] w fun e w' => e = .returned (.string (strB (signOf (s.data.toList.drop a)))) ∧ Below w.heap.size w w' := by
  have z0 : (0 : Int) ≤ (a : Int) := by omega
  have z1 : (a : Int) ≤ (s.size : Int) := by omega
  have hn2 : signs.length = 25 := rfl
  go_enter Tryz.func57, Tryz.ntmps57
  go_wp2_with (go_at_call 83; refine (rSigns_c _).mono ?_; rintro e w1 ⟨⟨A, rfl, hr⟩, hb1⟩)
  go_loopw [6] (fun i wr => ∃ k : Nat, k ≤ signs.length ∧ i = .int .i64 k ∧ (∀ j (h : j < signs.length), j < k → signs[j].isPrefixOf (s.data.toList.drop a) = false) ∧ Below w1.heap.size w1 wr) (fun i _ => 25 - (intOf i).toNat)
  case atStart => exact ⟨0, Nat.zero_le _, rfl, fun j _ h => absurd h (by omega), Below.refl _ _⟩
  case round =>
    obtain ⟨k, hk, rfl, hall, hb⟩ := hrel
    have HA := Lib.hid hall; clear hall
    by_cases hlt : k < signs.length
    · obtain ⟨b, o, rfl, g0⟩ := kStr_at' (hr.mono hb) k (by rw [List.length_map]; exact hlt)
      obtain ⟨X, hX⟩ : ∃ X, X = strB signs[k] := ⟨_, rfl⟩
      rw [List.getElem_map, ← hX] at g0
      have hXd : X.data.toList = signs[k] := by rw [hX]; rfl
      have hXs : X.size = signs[k].length := by rw [← hXd, size_data]
      have i0 : (0 : Int) ≤ (k : Int) := by omega
      have i1 : (k : Int) < 25 := by omega
      have x0 : (0 : Int) ≤ (X.size : Int) := by omega
      have x1 : X.size ≤ 3 := by
        rw [hXs]
        exact (show ∀ x ∈ signs, x.length ≤ 3 by decide) _ (List.getElem_mem _)
      cases he : signs[k].isPrefixOf (s.data.toList.drop a) with
      | true =>
        have hpre := List.isPrefixOf_iff_prefix.1 he
        have hle : a + X.size ≤ s.size := by
          have := hpre.length_le
          rw [List.length_drop, size_data] at this
          omega
        have hle' : (a : Int) + (X.size : Int) ≤ (s.size : Int) := by omega
        have heq : (s.extract a (a + X.size)).toList = X.toList := by
          rw [toList_data, toList_data, slice_data, hXd, hXs]
          exact (List.prefix_iff_eq_take.1 hpre).symm
        have heqb : ((s.extract a (a + X.size)).toList == X.toList) = true := by rw [heq]; simp
        have HE := Lib.hid he
        clear he hpre
        have hans : strB (signOf (s.data.toList.drop a)) = X := by
          unfold signOf
          rw [find_step k HA.out, List.drop_eq_getElem_cons hlt, List.find?_cons, HE.out]
          exact hX.symm
        have HAN := Lib.hid hans
        clear hans hX hXd hXs
        go_upto_region 5 with (fail)
        go_quiet (fail)
        go_wp2
        go_ret
        exact ⟨by rw [HAN.out]; rfl, bt hb1 (belowN hb _)⟩
      | false =>
        have HE := Lib.hid he
        have next : ∀ j (h : j < signs.length), j < k + 1 → signs[j].isPrefixOf (s.data.toList.drop a) = false := fun j h hj => by
          by_cases e : j = k
          · subst e; exact he
          · exact HA.out j h (by omega)
        have HN := Lib.hid next
        clear next
        by_cases hle : (a : Int) + (X.size : Int) ≤ (s.size : Int)
        · have heq : ¬ (s.extract a (a + X.size)).toList = X.toList := by
            intro h
            rw [toList_data, toList_data, slice_data, hXd, hXs] at h
            have : signs[k] <+: s.data.toList.drop a := by rw [← h]; exact List.take_prefix _ _
            rw [List.isPrefixOf_iff_prefix.2 this] at he
            cases he
          have heqb : ((s.extract a (a + X.size)).toList == X.toList) = false := by simpa using heq
          clear he hX hXd hXs
          go_upto_region 5 with (fail)
          go_quiet (fail)
          go_wp2
          exact ⟨⟨k + 1, by omega, by go_num, HN.out, belowN hb _⟩, by simp [intOf]; omega⟩
        · clear he hX hXd hXs
          go_upto_region 5 with (fail)
          go_quiet (fail)
          go_wp2
          exact ⟨⟨k + 1, by omega, by go_num, HN.out, belowN hb _⟩, by simp [intOf]; omega⟩
    · have i1 : (25 : Int) ≤ (k : Int) := by omega
      have hans : strB (signOf (s.data.toList.drop a)) = ⟨#[]⟩ := by
        unfold signOf
        rw [find_step k HA.out, (List.drop_of_length_le (by omega) : signs.drop k = [])]
        rfl
      have HAN := Lib.hid hans
      clear hans
      go_wp2
      go_ret
      exact ⟨by rw [HAN.out]; rfl, bt hb1 hb⟩
end Go.Proofs.YtkflcmengddijaaGreatDoor
