/-
  LexCuts walked.
-/
import Derived.Test.YtkflcmengddijaaGreatDoorLexRef4
import Derived.Test.YtkflcmengddijaaGreatDoorLexLaw2
import Derived.Test.YtkflcmengddijaaGreatDoorLexAlive
namespace Go.Proofs.YtkflcmengddijaaGreatDoor
open Go.RowKit Lx
set_option linter.unusedVariables false
set_option linter.unusedSimpArgs false


set_option maxRecDepth 100000 in
set_option maxHeartbeats 4000000 in
theorem cuts_true (s t : ByteArray) (w : World) (hw : Env w) (hs : (s.size : Int) ≤ 16484) (ht : (t.size : Int) ≤ 100) (hn : isName t.data.toList = true) : Calls Tryz.prog 3 #[.string s, .string t] w fun e w' => e = .returned (.bool true) ∧ Below w.heap.size w w' := by
  have hN : ∀ W, Calls Tryz.prog 12 #[.string t] W fun e w' => e = .returned (.bool true) ∧ W = w' := fun W => by have h := named_c t W (by omega); rw [hn] at h; exact h
  have hM : ∀ W, Calls Tryz.prog 13 #[.string t] W fun e w' => e = .returned (.bool true) ∧ Below W.heap.size W w' := fun W => by have h := rNamed_c t W (by omega); rw [hn] at h; exact h
  have HN := Lib.hid hN
  have HM := Lib.hid hM
  clear hN hM hn
  cases hc : Lx.cut s.data.toList with
  | ok l =>
    have hl : l.length ≤ 100000 := by
      have := (cut_facts hc).2.1
      rw [size_data] at this
      omega
    have hC : ∀ W, Env W → Calls Tryz.prog 8 #[.string s] W fun e w' => (∃ A c, e = .returned (.tuple #[.slice A l.length c, .nilIface]) ∧ kTok.Row w' A l) ∧ Below W.heap.size W w' := by
      intro W hW
      have h := cut_any s W hW
      rw [hc] at h
      exact h
    have hD : ∀ W, Calls Tryz.prog 9 #[.string s] W fun e w' => (∃ A c, e = .returned (.tuple #[.slice A l.length c, .agg #[.int .i64 0, .int .i64 0]]) ∧ kTok.Row w' A l) ∧ Below W.heap.size W w' := by
      intro W
      have h := rCut_any s W
      rw [hc] at h
      exact h
    have HC := Lib.hid hC
    have HD := Lib.hid hD
    clear hC hD hc
    go_enter Tryz.func3, Tryz.ntmps3
    go_wp2_with fail
    refine (HC.out _ hw).mono ?_
    rintro e w1 ⟨⟨A, c, rfl, hr⟩, hb1⟩
    go_wp2_with fail
    refine (HD.out _).mono ?_
    rintro e w2 ⟨⟨B, c2, rfl, hr2⟩, hb2⟩
    have hB2 := bt hb1 hb2
    have F0 := Bk.new w2 #[.int .i64 0, .int .i64 0] 30
    have hbX := (Below.refl w2.heap.size w2).alloc (Nat.le_refl _) (.cells #[.int .i64 0, .int .i64 0] 30)
    have C0 := F0.cell
    go_wp2_with fail
    refine (same_c l A B c c2 _ ((hr.mono hb2).mono hbX) (hr2.mono hbX) hl).mono ?_
    rintro e w3 ⟨rfl, hb3⟩
    have F3 := F0.mono hb3
    have C3 := F3.cell
    have hB3 := bt (bt hB2 hbX) hb3
    go_wp2_with fail
    refine (told_nil 0 _).mono ?_
    rintro e w4 ⟨rfl, hb4⟩
    have hB4 := bt hB3 hb4
    go_wp2_with fail
    refine (HN.out _).mono ?_
    rintro e w5 ⟨rfl, rfl⟩
    go_wp2_with fail
    refine (HM.out _).mono ?_
    rintro e w6 ⟨rfl, hb6⟩
    have hB6 := bt hB4 hb6
    go_wp2_with fail
    refine (alive_c _ (hw.mono hB6)).mono ?_
    rintro e w7 ⟨rfl, hb7⟩
    go_wp2_with fail
    go_ret
    exact ⟨rfl, bt hB6 hb7⟩
  | error x =>
    obtain ⟨a, cc⟩ := x
    have hcc := cut_code hc
    have hC : ∀ W, Env W → Calls Tryz.prog 8 #[.string s] W fun e w' => e = .returned (.tuple #[.slice none 0 0, .iface 30 (.agg #[.int .i64 a, .int .i64 cc])]) ∧ Below W.heap.size W w' := by
      intro W hW
      have h := cut_any s W hW
      rw [hc] at h
      exact h
    have hD : ∀ W, Calls Tryz.prog 9 #[.string s] W fun e w' => e = .returned (.tuple #[.slice none 0 0, .agg #[.int .i64 a, .int .i64 cc]]) ∧ Below W.heap.size W w' := by
      intro W
      have h := rCut_any s W
      rw [hc] at h
      exact h
    have HC := Lib.hid hC
    have HD := Lib.hid hD
    have HCC := Lib.hid hcc
    clear hC hD hc hcc
    go_enter Tryz.func3, Tryz.ntmps3
    go_wp2_with fail
    refine (HC.out _ hw).mono ?_
    rintro e w1 ⟨rfl, hb1⟩
    go_wp2_with fail
    refine (HD.out _).mono ?_
    rintro e w2 ⟨rfl, hb2⟩
    have hB2 := bt hb1 hb2
    have F0 := Bk.new w2 #[.int .i64 a, .int .i64 cc] 30
    have hbX := (Below.refl w2.heap.size w2).alloc (Nat.le_refl _) (.cells #[.int .i64 a, .int .i64 cc] 30)
    have C0 := F0.cell
    go_wp2_with fail
    refine (same_c [] none none 0 0 _ (.inl rfl) (.inl rfl) (by simp)).mono ?_
    rintro e w3 ⟨rfl, hb3⟩
    have F3 := F0.mono hb3
    have C3 := F3.cell
    have hB3 := bt (bt hB2 hbX) hb3
    go_wp2_with fail
    refine (told_c a cc HCC.out _ (hw.mono hB3)).mono ?_
    rintro e w4 ⟨rfl, hb4⟩
    have hB4 := bt hB3 hb4
    go_wp2_with fail
    refine (HN.out _).mono ?_
    rintro e w5 ⟨rfl, rfl⟩
    go_wp2_with fail
    refine (HM.out _).mono ?_
    rintro e w6 ⟨rfl, hb6⟩
    have hB6 := bt hB4 hb6
    go_wp2_with fail
    refine (alive_c _ (hw.mono hB6)).mono ?_
    rintro e w7 ⟨rfl, hb7⟩
    go_wp2_with fail
    go_ret
    exact ⟨rfl, bt hB6 hb7⟩

set_option maxRecDepth 100000 in
set_option maxHeartbeats 4000000 in
theorem cuts_false (s t : ByteArray) (w : World) (hw : Env w) (hs : (s.size : Int) ≤ 16484) (ht : (t.size : Int) ≤ 100) (hn : isName t.data.toList = false) : Calls Tryz.prog 3 #[.string s, .string t] w fun e w' => e = .returned (.bool true) ∧ Below w.heap.size w w' := by
  have hN : ∀ W, Calls Tryz.prog 12 #[.string t] W fun e w' => e = .returned (.bool false) ∧ W = w' := fun W => by have h := named_c t W (by omega); rw [hn] at h; exact h
  have hM : ∀ W, Calls Tryz.prog 13 #[.string t] W fun e w' => e = .returned (.bool false) ∧ Below W.heap.size W w' := fun W => by have h := rNamed_c t W (by omega); rw [hn] at h; exact h
  have HN := Lib.hid hN
  have HM := Lib.hid hM
  clear hN hM hn
  cases hc : Lx.cut s.data.toList with
  | ok l =>
    have hl : l.length ≤ 100000 := by
      have := (cut_facts hc).2.1
      rw [size_data] at this
      omega
    have hC : ∀ W, Env W → Calls Tryz.prog 8 #[.string s] W fun e w' => (∃ A c, e = .returned (.tuple #[.slice A l.length c, .nilIface]) ∧ kTok.Row w' A l) ∧ Below W.heap.size W w' := by
      intro W hW
      have h := cut_any s W hW
      rw [hc] at h
      exact h
    have hD : ∀ W, Calls Tryz.prog 9 #[.string s] W fun e w' => (∃ A c, e = .returned (.tuple #[.slice A l.length c, .agg #[.int .i64 0, .int .i64 0]]) ∧ kTok.Row w' A l) ∧ Below W.heap.size W w' := by
      intro W
      have h := rCut_any s W
      rw [hc] at h
      exact h
    have HC := Lib.hid hC
    have HD := Lib.hid hD
    clear hC hD hc
    go_enter Tryz.func3, Tryz.ntmps3
    go_wp2_with fail
    refine (HC.out _ hw).mono ?_
    rintro e w1 ⟨⟨A, c, rfl, hr⟩, hb1⟩
    go_wp2_with fail
    refine (HD.out _).mono ?_
    rintro e w2 ⟨⟨B, c2, rfl, hr2⟩, hb2⟩
    have hB2 := bt hb1 hb2
    have F0 := Bk.new w2 #[.int .i64 0, .int .i64 0] 30
    have hbX := (Below.refl w2.heap.size w2).alloc (Nat.le_refl _) (.cells #[.int .i64 0, .int .i64 0] 30)
    have C0 := F0.cell
    go_wp2_with fail
    refine (same_c l A B c c2 _ ((hr.mono hb2).mono hbX) (hr2.mono hbX) hl).mono ?_
    rintro e w3 ⟨rfl, hb3⟩
    have F3 := F0.mono hb3
    have C3 := F3.cell
    have hB3 := bt (bt hB2 hbX) hb3
    go_wp2_with fail
    refine (told_nil 0 _).mono ?_
    rintro e w4 ⟨rfl, hb4⟩
    have hB4 := bt hB3 hb4
    go_wp2_with fail
    refine (HN.out _).mono ?_
    rintro e w5 ⟨rfl, rfl⟩
    go_wp2_with fail
    refine (HM.out _).mono ?_
    rintro e w6 ⟨rfl, hb6⟩
    have hB6 := bt hB4 hb6
    go_wp2_with fail
    refine (alive_c _ (hw.mono hB6)).mono ?_
    rintro e w7 ⟨rfl, hb7⟩
    go_wp2_with fail
    go_ret
    exact ⟨rfl, bt hB6 hb7⟩
  | error x =>
    obtain ⟨a, cc⟩ := x
    have hcc := cut_code hc
    have hC : ∀ W, Env W → Calls Tryz.prog 8 #[.string s] W fun e w' => e = .returned (.tuple #[.slice none 0 0, .iface 30 (.agg #[.int .i64 a, .int .i64 cc])]) ∧ Below W.heap.size W w' := by
      intro W hW
      have h := cut_any s W hW
      rw [hc] at h
      exact h
    have hD : ∀ W, Calls Tryz.prog 9 #[.string s] W fun e w' => e = .returned (.tuple #[.slice none 0 0, .agg #[.int .i64 a, .int .i64 cc]]) ∧ Below W.heap.size W w' := by
      intro W
      have h := rCut_any s W
      rw [hc] at h
      exact h
    have HC := Lib.hid hC
    have HD := Lib.hid hD
    have HCC := Lib.hid hcc
    clear hC hD hc hcc
    go_enter Tryz.func3, Tryz.ntmps3
    go_wp2_with fail
    refine (HC.out _ hw).mono ?_
    rintro e w1 ⟨rfl, hb1⟩
    go_wp2_with fail
    refine (HD.out _).mono ?_
    rintro e w2 ⟨rfl, hb2⟩
    have hB2 := bt hb1 hb2
    have F0 := Bk.new w2 #[.int .i64 a, .int .i64 cc] 30
    have hbX := (Below.refl w2.heap.size w2).alloc (Nat.le_refl _) (.cells #[.int .i64 a, .int .i64 cc] 30)
    have C0 := F0.cell
    go_wp2_with fail
    refine (same_c [] none none 0 0 _ (.inl rfl) (.inl rfl) (by simp)).mono ?_
    rintro e w3 ⟨rfl, hb3⟩
    have F3 := F0.mono hb3
    have C3 := F3.cell
    have hB3 := bt (bt hB2 hbX) hb3
    go_wp2_with fail
    refine (told_c a cc HCC.out _ (hw.mono hB3)).mono ?_
    rintro e w4 ⟨rfl, hb4⟩
    have hB4 := bt hB3 hb4
    go_wp2_with fail
    refine (HN.out _).mono ?_
    rintro e w5 ⟨rfl, rfl⟩
    go_wp2_with fail
    refine (HM.out _).mono ?_
    rintro e w6 ⟨rfl, hb6⟩
    have hB6 := bt hB4 hb6
    go_wp2_with fail
    refine (alive_c _ (hw.mono hB6)).mono ?_
    rintro e w7 ⟨rfl, hb7⟩
    go_wp2_with fail
    go_ret
    exact ⟨rfl, bt hB6 hb7⟩

set_option maxRecDepth 100000 in
theorem cuts_c (s t : ByteArray) (w : World) (hw : Env w) : Calls Tryz.prog 3 #[.string s, .string t] w fun e w' => e = .returned (.bool true) ∧ Below w.heap.size w w' := by
  by_cases hs : (s.size : Int) ≤ 16484
  · by_cases ht : (t.size : Int) ≤ 100
    · cases hn : isName t.data.toList with
      | true => exact cuts_true s t w hw hs ht hn
      | false => exact cuts_false s t w hw hs ht hn
    · go_enter Tryz.func3, Tryz.ntmps3
      go_wp2_with fail
      refine (alive_c _ hw).mono ?_
      rintro e w2 ⟨rfl, hb2⟩
      go_wp2_with fail
      go_ret
      exact ⟨rfl, hb2⟩
  · go_enter Tryz.func3, Tryz.ntmps3
    go_wp2_with fail
    refine (alive_c _ hw).mono ?_
    rintro e w2 ⟨rfl, hb2⟩
    go_wp2_with fail
    go_ret
    exact ⟨rfl, hb2⟩
end Go.Proofs.YtkflcmengddijaaGreatDoor
