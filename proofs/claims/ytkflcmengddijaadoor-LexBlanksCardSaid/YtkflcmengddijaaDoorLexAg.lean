/-
  LexAgain walked.
-/
import Derived.Test.YtkflcmengddijaaDoorLexLaw2
import Derived.Test.YtkflcmengddijaaDoorLexAlive
namespace Go.Proofs.YtkflcmengddijaaDoor
open Go.RowKit Lx
set_option linter.unusedVariables false
set_option linter.unusedSimpArgs false

set_option maxRecDepth 100000 in
set_option maxHeartbeats 4000000 in
theorem again_ok (s : ByteArray) (w : World) (hw : Env w) (hs : (s.size : Int) ≤ 4096) (l : List STok) (hc : Lx.cut s.data.toList = .ok l) :
    Calls Tryd.prog 3 #[.string s] w fun e w' => e = .returned (.bool true) ∧ Below w.heap.size w w' := by
  obtain ⟨f1, f2, f3, f4⟩ := cut_facts hc
  rw [size_data] at f2 f4
  have hC : ∀ W, Env W → Calls Tryd.prog 6 #[.string s] W fun e w' => (∃ A c, e = .returned (.tuple #[.slice A l.length c, .nilIface]) ∧ kTok.Row w' A l) ∧ Below W.heap.size W w' := by
    intro W hW
    have h := cut_any s W hW
    rw [hc] at h
    exact h
  obtain ⟨T, hT⟩ : ∃ T : ByteArray, T = ⟨(joinS l).toArray⟩ := ⟨_, rfl⟩
  have hTd : T.data.toList = joinS l := by rw [hT]
  have hTs : T.size = (joinS l).length := by rw [hT]; rfl
  have hJ : ∀ W A c, Env W → kTok.Row W A l → Calls Tryd.prog 7 #[.slice A l.length c] W fun e w' => e = .returned (.string T) ∧ Below W.heap.size W w' := by
    intro W A c hW hr
    rw [hT]
    exact join_c l A c W hW hr (by omega) f3 (by omega)
  have HC := Lib.hid hC
  have HJ := Lib.hid hJ
  have z1 : (0 : Int) ≤ (T.size : Int) := by omega
  clear hC hJ hT
  by_cases hbig : (16384 : Int) < (T.size : Int)
  · clear hTs hTd f3 f4 f1 f2
    go_enter Tryd.func3, Tryd.ntmps3
    go_wp2_with fail
    refine (HC.out _ hw).mono ?_
    rintro e w1 ⟨⟨A, c, rfl, hr⟩, hb1⟩
    go_wp2_with fail
    refine (HJ.out _ A c (hw.mono hb1) hr).mono ?_
    rintro e w2 ⟨rfl, hb2⟩
    go_wp2_with fail
    refine (alive_c _ (hw.mono (bt hb1 hb2))).mono ?_
    rintro e w3 ⟨rfl, hb3⟩
    go_wp2_with fail
    go_ret
    exact ⟨rfl, bt (bt hb1 hb2) hb3⟩
  · obtain ⟨m, g1, g2, g3⟩ := again_law hc (by omega)
    have hC2 : ∀ W, Env W → Calls Tryd.prog 6 #[.string T] W fun e w' => (∃ A c, e = .returned (.tuple #[.slice A m.length c, .nilIface]) ∧ kTok.Row w' A m) ∧ Below W.heap.size W w' := by
      intro W hW
      have h := cut_any T W hW
      rw [hTd, g1] at h
      exact h
    have hl := g2.length
    have hJ2 : ∀ W A c, Env W → kTok.Row W A m → Calls Tryd.prog 7 #[.slice A m.length c] W fun e w' => e = .returned (.string T) ∧ Below W.heap.size W w' := by
      intro W A c hW hr
      obtain ⟨q1, q2, q3, q4⟩ := cut_facts g1
      have e : T = ⟨(joinS m).toArray⟩ := by rw [g3, ← hTd]
      rw [e]
      exact join_c m A c W hW hr (by omega) q3 (by omega)
    have HC2 := Lib.hid hC2
    have HJ2 := Lib.hid hJ2
    have H2 := Lib.hid g2
    have hll : l.length ≤ 100000 := by omega
    clear hTs hTd f3 f4 f1 f2 hC2 hJ2 g1 g2 g3 hl
    go_enter Tryd.func3, Tryd.ntmps3
    go_wp2_with fail
    refine (HC.out _ hw).mono ?_
    rintro e w1 ⟨⟨A, c, rfl, hr⟩, hb1⟩
    go_wp2_with fail
    refine (HJ.out _ A c (hw.mono hb1) hr).mono ?_
    rintro e w2 ⟨rfl, hb2⟩
    have hB2 := bt hb1 hb2
    go_wp2_with fail
    refine (HC2.out _ (hw.mono hB2)).mono ?_
    rintro e w3 ⟨⟨A', c', rfl, hr'⟩, hb3⟩
    have hB3 := bt hB2 hb3
    go_wp2_with fail
    refine (bare_c l m A A' c c' _ H2.out (hr.mono (bt hb2 hb3)) hr' hll).mono ?_
    rintro e w4 ⟨rfl, hb4⟩
    have hB4 := bt hB3 hb4
    go_wp2_with fail
    refine (HJ2.out _ A' c' (hw.mono hB4) (hr'.mono hb4)).mono ?_
    rintro e w5 ⟨rfl, hb5⟩
    have hB5 := bt hB4 hb5
    go_wp2_with fail
    refine (alive_c _ (hw.mono hB5)).mono ?_
    rintro e w6 ⟨rfl, hb6⟩
    go_wp2_with fail
    go_ret
    exact ⟨rfl, bt hB5 hb6⟩

set_option maxRecDepth 100000 in
set_option maxHeartbeats 4000000 in
theorem again_c (s : ByteArray) (w : World) (hw : Env w) : Calls Tryd.prog 3 #[.string s] w fun e w' => e = .returned (.bool true) ∧ Below w.heap.size w w' := by
  by_cases hs : (s.size : Int) ≤ 4096
  · cases hc : Lx.cut s.data.toList with
    | ok l => exact again_ok s w hw hs l hc
    | error x =>
      obtain ⟨a, c⟩ := x
      have hC : ∀ W, Env W → Calls Tryd.prog 6 #[.string s] W fun e w' => e = .returned (.tuple #[.slice none 0 0, .iface 39 (.agg #[.int .i64 a, .int .i64 c])]) ∧ Below W.heap.size W w' := by
        intro W hW
        have h := cut_any s W hW
        rw [hc] at h
        exact h
      have HC := Lib.hid hC
      clear hC hc
      go_enter Tryd.func3, Tryd.ntmps3
      go_wp2_with fail
      refine (HC.out _ hw).mono ?_
      rintro e w1 ⟨rfl, hb1⟩
      go_wp2_with fail
      refine (alive_c _ (hw.mono hb1)).mono ?_
      rintro e w2 ⟨rfl, hb2⟩
      go_wp2_with fail
      go_ret
      exact ⟨rfl, bt hb1 hb2⟩
  · go_enter Tryd.func3, Tryd.ntmps3
    go_wp2_with fail
    refine (alive_c _ hw).mono ?_
    rintro e w2 ⟨rfl, hb2⟩
    go_wp2_with fail
    go_ret
    exact ⟨rfl, hb2⟩
end Go.Proofs.YtkflcmengddijaaDoor
