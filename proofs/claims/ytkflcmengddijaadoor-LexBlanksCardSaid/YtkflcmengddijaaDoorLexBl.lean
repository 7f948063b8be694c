/-
  LexBlanks walked.
-/
import Derived.Test.YtkflcmengddijaaDoorLexLaw3
import Derived.Test.YtkflcmengddijaaDoorLexAlive
namespace Go.Proofs.YtkflcmengddijaaDoor
open Go.RowKit Lx
set_option linter.unusedVariables false
set_option linter.unusedSimpArgs false

def kU8 : Kd Int := Kd.flat 1 (fun x => [.int .u8 x]) (fun _ => rfl)
theorem kU8_at {w : World} {A : Option Addr} {xs : List Int} (h : kU8.Row w A xs) (i : Nat) (hi : i < xs.length) : ∃ b o, A = some ⟨b, o, none⟩ ∧ w.cell? ⟨b, o + i, none⟩ = some (.int .u8 xs[i]) := by
  obtain ⟨b, o, cs, e, h1, h2⟩ := h.at i hi
  obtain rfl : cs = [.int .u8 xs[i]] := h1
  exact ⟨b, o, e, by simpa [kU8, Kd.flat] using h2 0 (by simp)⟩
def G (xs : List Int) : Nat → List UInt8 := gOf (xs.map Int.toNat)

theorem infoU8 : (Tryd.prog.info? 5).map (fun i => (i.zero, i.size, i.bytes)) = some (some (.int .u8 0), 1, 1) := by kernel_rfl
/-- b = append(b, y). -/
theorem wpList_append_byte {ops : Array Oper} {rest : List Oper} {o : Oper} {a : Act} {Q : Exit → Act → World → Prop} {w : World} (hgd : o.guard = none) (s x : Operand)
    (ho : o.op = .call { callee := .builtin .append, args := #[s, x], argTypes := #[31, 31] }) (base : Nat) (v : Value) (n : Nat) (xs : List Value) (hs : a.eval s = v) (hown : w.ownsRow base 5 1 v n xs)
    (k : Nat) (y : Int) (hx : a.eval x = .slice (some ⟨k, 0, none⟩) 1 1) (hc : w.cell? ⟨k, 0, none⟩ = some (.int .u8 y)) (hn : n ≤ 1000000000000) (hb : base ≤ w.heap.size)
    (h : ∀ v' w', w'.ownsRow base 5 1 v' (n + 1) (xs ++ [.int .u8 y]) → w.grownBy w' v.ownBlock → wpList Tryd.prog ops Q rest (a.put o.dst v') w') : wpList Tryd.prog ops Q (o :: rest) a w := by
  obtain ⟨i0, hi, hz0, hz1, hz2⟩ := info_parts infoU8
  refine wpList_append_own w hgd s x _ ho base 5 i0 (.int .u8 0) 1 1 Tryd.underlying31 hi hz0 hz1 hz2 rfl (by decide) v n xs hs hown ⟨k, 0, none⟩ 1 1 [.int .u8 y] hx rfl (fun j u hu => ?_) (by simp [Value.oneCell']) (by unfold maxLen; omega) (by omega) hb (fun v' w' h1 h2 _ => h v' w' h1 h2)
  cases j with
  | zero =>
    simp at hu
    subst hu
    exact hc
  | succ j => simp at hu

theorem byteCells_snoc (bs : List UInt8) (c : UInt8) : Lib.byteCells (bs ++ [c]) = Lib.byteCells bs ++ [.int .u8 c.toNat] := by simp [Lib.byteCells]
/-- string(b), b of the call's own. -/
theorem convert_own {w : World} {base : Nat} {v : Value} {bs : List UInt8} (h : w.ownsRow base 5 1 v bs.length (Lib.byteCells bs)) : (convert 31 9 v).run Tryd.prog w = .ok (.string ⟨bs.toArray⟩) w := by
  rcases h.2 with ⟨rfl, h0⟩ | ⟨g, cap, cur, rfl, _⟩
  · obtain rfl : bs = [] := List.eq_nil_of_length_eq_zero h0
    exact run_convert_bytes_nil w 31 5 Tryd.underlying31 Tryd.underlying5 0 0 _ Tryd.underlying9
  · refine run_convert_bytes_back w 31 9 5 _ cap bs Tryd.underlying31 Tryd.underlying5 Tryd.underlying9 (fun j hj => ?_)
    have e : ((⟨g, 0, none⟩ : Addr).add j) = ⟨g, j, none⟩ := by simp only [Addr.add]; split <;> simp_all
    rw [e, World.ownsRow.cellAt h j (by omega)]
    simp [Lib.byteCells, List.getElem?_eq_getElem hj]
theorem gx_none (xs : List Int) (k n : Nat) (h : xs.length ≤ k) : (G xs k).drop n = [] := by
  unfold G gOf
  rw [List.getElem?_eq_none (by simpa using h)]
  simp
theorem gx_some (xs : List Int) (k : Nat) (h : k < xs.length) : G xs k = blanksOf xs[k].toNat := by
  unfold G gOf
  rw [List.getElem?_map, List.getElem?_eq_getElem h]
  rfl
theorem gx_end (xs : List Int) (k n : Nat) (h : k < xs.length) (h0 : 0 ≤ xs[k]) (hn : ¬ (n : Int) < xs[k] % 4) : (G xs k).drop n = [] := by
  rw [gx_some xs k h, List.drop_eq_nil_iff]
  simp [blanksOf]
  omega
theorem two_at (m : Nat) (hp : m % 2 < (⟨#[32, 10]⟩ : ByteArray).size) : (⟨#[32, 10]⟩ : ByteArray)[m % 2]'hp = if m % 2 = 0 then 32 else 10 := by
  rcases Nat.mod_two_eq_zero_or_one m with h | h
  · simp only [h]; rfl
  · simp only [h]; rfl
theorem gx_step (xs : List Int) (k n : Nat) (h : k < xs.length) (h0 : 0 ≤ xs[k]) (hn : (n : Int) < xs[k] % 4) (hp : ((xs[k] / 4 + (n : Int)) % 2).toNat < (⟨#[32, 10]⟩ : ByteArray).size) :
    (G xs k).drop n = (⟨#[32, 10]⟩ : ByteArray)[((xs[k] / 4 + (n : Int)) % 2).toNat]'hp :: (G xs k).drop (n + 1) := by
  rw [gx_some xs k h]
  obtain ⟨m, hm⟩ : ∃ m : Nat, xs[k] = m := ⟨xs[k].toNat, by omega⟩
  have hl : n < (blanksOf xs[k].toNat).length := by simp [blanksOf]; omega
  rw [List.drop_eq_getElem_cons hl]
  congr 1
  have e : ((xs[k] / 4 + (n : Int)) % 2).toNat = (m / 4 + n) % 2 := by rw [hm]; omega
  simp only [e]
  rw [two_at]
  simp [blanksOf, hm]

set_option maxRecDepth 100000 in
set_option maxHeartbeats 4000000 in
theorem blanks_ok (s : ByteArray) (xs : List Int) (A : Option Addr) (mc : Nat) (w : World) (hw : Env w) (hs : (s.size : Int) ≤ 2048) (hxl : (xs.length : Int) ≤ 200) (hrow : kU8.Row w A xs) (hwf : ∀ x ∈ xs, 0 ≤ x ∧ x < 256) (l : List STok) (hc : Lx.cut s.data.toList = .ok l) :
    Calls Tryd.prog 4 #[.string s, .slice A xs.length mc] w fun e w' => e = .returned (.bool true) ∧ Below w.heap.size w w' := by
  obtain ⟨f1, f2, f3, f4⟩ := cut_facts hc
  rw [size_data] at f2 f4
  have hC : ∀ W, Env W → Calls Tryd.prog 6 #[.string s] W fun e w' => (∃ A c, e = .returned (.tuple #[.slice A l.length c, .nilIface]) ∧ kTok.Row w' A l) ∧ Below W.heap.size W w' := by
    intro W hW
    have h := cut_any s W hW
    rw [hc] at h
    exact h
  obtain ⟨t1, m, t2, t3⟩ := blanks_law hc (by rw [size_data]; omega) (G xs) (gOf_blank _) (gOf_len _)
  obtain ⟨T, hT⟩ : ∃ T, T = weave (G xs) (l.map (·.at')) 0 0 s.data.toList := ⟨_, rfl⟩
  rw [← hT] at t1 t2
  have HT := Lib.hid hT
  have HC := Lib.hid hC
  have H2 := Lib.hid t2
  have H3 := Lib.hid t3
  clear hC hT hc t2 t3 f1 f3 f4
  go_enter Tryd.func4, Tryd.ntmps4
  go_wp2_with fail
  refine (HC.out _ hw).mono ?_
  rintro e w1 ⟨⟨B, c, rfl, hr⟩, hb1⟩
  go_wp2_with fail
  go_loopw [7, 8, 9] (fun b kv iv wr => ∃ (kk ii : Nat) (bs : List UInt8), ii ≤ s.size ∧ kk ≤ l.length ∧ kv = .int .i64 kk ∧ iv = .int .i64 ii ∧ bs ++ weave (G xs) ((l.map (·.at')).drop kk) kk ii (s.data.toList.drop ii) = T ∧ wr.ownsRow w1.heap.size 5 1 b bs.length (Lib.byteCells bs) ∧ Below w1.heap.size w1 wr) (fun _ _ iv _ => s.size - (intOf iv).toNat)
  case atStart => exact ⟨0, 0, [], Nat.zero_le _, Nat.zero_le _, rfl, rfl, by rw [HT.out]; rfl, World.ownsRow_nil .., Below.refl _ _⟩
  case round =>
    obtain ⟨kk, ii, bs, hii, hkk, rfl, rfl, hT, hown, hB⟩ := hrel
    by_cases hlt : ii < s.size
    · have i0 : (0 : Int) ≤ (ii : Int) := by omega
      have i1 : (ii : Int) < (s.size : Int) := by omega
      have HTo := Lib.hid hT
      clear hT
      go_wp2_with fail
      go_loopw [7, 8] (fun b kv wr => ∃ (kk : Nat) (bs : List UInt8), kk ≤ l.length ∧ kv = .int .i64 kk ∧ bs ++ weave (G xs) ((l.map (·.at')).drop kk) kk ii (s.data.toList.drop ii) = T ∧ wr.ownsRow w1.heap.size 5 1 b bs.length (Lib.byteCells bs) ∧ Below w1.heap.size w1 wr) (fun _ kv _ => l.length - (intOf kv).toNat)
      case atStart => exact ⟨kk, bs, hkk, rfl, HTo.out, hown, hB⟩
      case round =>
        clear HTo hkk hown hB
        obtain ⟨k2, bs2, hkk, rfl, hT, hown, hB⟩ := hrel
        have j0 : (0 : Int) ≤ (k2 : Int) := by omega
        have hbl : bs2.length ≤ 10000 := by
          have := congrArg List.length hT
          rw [List.length_append] at this
          omega
        by_cases hin : k2 < l.length
        · have j1 : (k2 : Int) < (l.length : Int) := by omega
          obtain ⟨b, o, hBe, g0, g1, g2, g3⟩ := kTok_at (hr.mono hB) k2 hin
          subst hBe
          clear g0 g1 g2
          have hd : (l.map (·.at')).drop k2 = l[k2].at' :: (l.map (·.at')).drop (k2 + 1) := by
            rw [List.drop_eq_getElem_cons (by simpa using hin)]
            simp
          have hc : s.data.toList.drop ii = s[ii] :: s.data.toList.drop (ii + 1) := by
            rw [List.drop_eq_getElem_cons (by rw [size_data]; omega)]
            rfl
          cases hat : (l[k2].at' == (ii : Int)) with
          | true =>
            have hT2 : bs2 ++ ((G xs k2).drop 0 ++ weave (G xs) ((l.map (·.at')).drop (k2 + 1)) (k2 + 1) ii (s.data.toList.drop ii)) = T := by
              rw [← hT, hd, eq_of_beq hat, hc, weave_hit]
              rfl
            have HTo := Lib.hid hT2
            clear hT hT2 hd hc
            go_wp2_with fail
            go_loopw [7, 10] (fun bv nv wr => ∃ (n : Nat) (bs : List UInt8), n ≤ 3 ∧ nv = .int .i64 n ∧ bs ++ ((G xs k2).drop n ++ weave (G xs) ((l.map (·.at')).drop (k2 + 1)) (k2 + 1) ii (s.data.toList.drop ii)) = T ∧ wr.ownsRow w1.heap.size 5 1 bv bs.length (Lib.byteCells bs) ∧ Below w1.heap.size w1 wr) (fun _ nv _ => 4 - (intOf nv).toNat)
            case atStart => exact ⟨0, bs2, Nat.zero_le _, rfl, HTo.out, hown, hB⟩
            case round =>
              clear HTo hown hB
              obtain ⟨n, bs3, hn3, rfl, hT, hown, hB⟩ := hrel
              have n0 : (0 : Int) ≤ (n : Int) := by omega
              have hbl : bs3.length ≤ 10000 := by
                have := congrArg List.length hT
                rw [List.length_append] at this
                omega
              by_cases hkx : k2 < xs.length
              · obtain ⟨b2, o2, hAe, x0⟩ := kU8_at ((hrow.mono hb1).mono hB) k2 hkx
                subst hAe
                have w0 := hwf xs[k2] (List.getElem_mem _)
                obtain ⟨w00, w01⟩ := w0
                have k1 : (k2 : Int) < (xs.length : Int) := by omega
                have HTo := Lib.hid hT
                clear hT
                by_cases hcnt : (n : Int) < xs[k2] % 4
                · go_wp2_with (at_builtin; refine wpList_append_byte rfl _ _ rfl w1.heap.size _ bs3.length (Lib.byteCells bs3) rfl (hown.alloc _) _ _ rfl ((Bk.new _ _ _).cell 0) (by omega) (by have := hB.size; simp; omega) ?_; intro v1 w3 hown1 hgrow)
                  have hb9 := (hB.alloc hB.size _).grown hgrow (by have := hB.size; simp; omega) (own_from hown)
                  have hp : ((xs[k2] / 4 + (n : Int)) % 2).toNat < (⟨#[32, 10]⟩ : ByteArray).size := (by simp [ByteArray.size]; omega)
                  rw [gx_step xs k2 n hkx w00 hcnt hp] at HTo
                  have HT9 := HTo.out
                  refine ⟨⟨n + 1, bs3 ++ [(⟨#[32, 10]⟩ : ByteArray)[((xs[k2] / 4 + (n : Int)) % 2).toNat]'hp], by omega, by go_num, ?_, ?_, hb9⟩, by simp [intOf]; omega⟩
                  · rw [List.append_assoc]
                    exact HT9
                  · rw [List.length_append, byteCells_snoc]
                    exact hown1
                · go_wp2_with fail
                  have HT9 := HTo.out
                  rw [gx_end xs k2 n hkx w00 hcnt, List.nil_append] at HT9
                  exact ⟨⟨k2 + 1, bs3, by omega, by go_num, HT9, hown, hB⟩, by simp [intOf]; omega⟩
              · have k1 : (xs.length : Int) ≤ (k2 : Int) := by omega
                have HTo := Lib.hid hT
                clear hT
                go_wp2_with fail
                have HT9 := HTo.out
                rw [gx_none xs k2 n (by omega), List.nil_append] at HT9
                exact ⟨⟨k2 + 1, bs3, by omega, by go_num, HT9, hown, hB⟩, by simp [intOf]; omega⟩
          | false =>
            have hT2 : (bs2 ++ [s[ii]]) ++ weave (G xs) ((l.map (·.at')).drop k2) k2 (ii + 1) (s.data.toList.drop (ii + 1)) = T := by
              rw [← hT, hc, weave_go _ _ _ _ _ _ (fun a ha => by rw [hd] at ha; simp at ha; subst ha; exact ne_of_beq_false hat)]
              simp
            have HTo := Lib.hid hT2
            clear hT hT2 hd hc
            go_wp2_with (at_builtin; refine wpList_append_byte rfl _ _ rfl w1.heap.size _ bs2.length (Lib.byteCells bs2) rfl (hown.alloc _) _ _ rfl ((Bk.new _ _ _).cell 0) (by omega) (by have := hB.size; simp; omega) ?_; intro v1 w3 hown1 hgrow)
            have hb9 := (hB.alloc hB.size _).grown hgrow (by have := hB.size; simp; omega) (own_from hown)
            refine ⟨⟨k2, ii + 1, bs2 ++ [s[ii]], by omega, hkk, rfl, by go_num, HTo.out, ?_, hb9⟩, by simp [intOf]; omega⟩
            rw [List.length_append, byteCells_snoc]
            exact hown1
        · have j1 : (l.length : Int) ≤ (k2 : Int) := by omega
          have hT2 : (bs2 ++ [s[ii]]) ++ weave (G xs) ((l.map (·.at')).drop k2) k2 (ii + 1) (s.data.toList.drop (ii + 1)) = T := by
            have hc : s.data.toList.drop ii = s[ii] :: s.data.toList.drop (ii + 1) := by
              rw [List.drop_eq_getElem_cons (by rw [size_data]; omega)]
              rfl
            rw [← hT, hc, weave_go _ _ _ _ _ _ (fun a ha => by rw [List.drop_of_length_le (by simp; omega)] at ha; simp at ha)]
            simp
          have HTo := Lib.hid hT2
          clear hT hT2
          go_wp2_with (at_builtin; refine wpList_append_byte rfl _ _ rfl w1.heap.size _ bs2.length (Lib.byteCells bs2) rfl (hown.alloc _) _ _ rfl ((Bk.new _ _ _).cell 0) (by omega) (by have := hB.size; simp; omega) ?_; intro v1 w3 hown1 hgrow)
          have hb9 := (hB.alloc hB.size _).grown hgrow (by have := hB.size; simp; omega) (own_from hown)
          refine ⟨⟨k2, ii + 1, bs2 ++ [s[ii]], by omega, hkk, rfl, by go_num, HTo.out, ?_, hb9⟩, by simp [intOf]; omega⟩
          rw [List.length_append, byteCells_snoc]
          exact hown1
    · have i1 : (s.size : Int) ≤ (ii : Int) := by omega
      have hbs : bs = T := by
        have e : s.data.toList.drop ii = [] := List.drop_of_length_le (by rw [size_data]; omega)
        rw [← hT, e, weave_nil, List.append_nil]
      clear hT
      subst hbs
      have hcv := convert_own hown
      have hC2 : ∀ W, Env W → Calls Tryd.prog 6 #[.string (⟨bs.toArray⟩ ++ ⟨#[10, 32]⟩)] W fun e w' => (∃ A c, e = .returned (.tuple #[.slice A m.length c, .nilIface]) ∧ kTok.Row w' A m) ∧ Below W.heap.size W w' := by
        intro W hW
        have h := cut_any (⟨bs.toArray⟩ ++ ⟨#[10, 32]⟩) W hW
        have e : ((⟨bs.toArray⟩ ++ ⟨#[10, 32]⟩ : ByteArray)).data.toList = bs ++ [10, 32] := by simp [ByteArray.data_append]
        rw [e, H2.out] at h
        exact h
      go_wp2_with fail
      refine (hC2 _ (hw.mono (bt hb1 hB))).mono ?_
      rintro e w2 ⟨⟨B2, c2, rfl, hr2⟩, hb2⟩
      have hB2 := bt hB hb2
      have hBw := bt hb1 hB2
      clear hC2 hcv
      go_wp2_with fail
      refine (bare_c l m B B2 c c2 _ H3.out (hr.mono hB2) hr2 (by omega)).mono ?_
      rintro e w3 ⟨rfl, hb3⟩
      go_wp2_with fail
      refine (alive_c _ (hw.mono (bt hBw hb3))).mono ?_
      rintro e w4 ⟨rfl, hb4⟩
      go_wp2_with fail
      go_ret
      exact ⟨rfl, bt (bt hBw hb3) hb4⟩

set_option maxRecDepth 100000 in
set_option maxHeartbeats 4000000 in
theorem blanks_c (s : ByteArray) (xs : List Int) (A : Option Addr) (mc : Nat) (w : World) (hw : Env w) (hrow : kU8.Row w A xs) (hwf : ∀ x ∈ xs, 0 ≤ x ∧ x < 256) (hm : xs.length ≤ maxLen) :
    Calls Tryd.prog 4 #[.string s, .slice A xs.length mc] w fun e w' => e = .returned (.bool true) ∧ Below w.heap.size w w' := by
  by_cases hs : (s.size : Int) ≤ 2048
  · by_cases hxl : (xs.length : Int) ≤ 200
    · cases hc : Lx.cut s.data.toList with
      | ok l => exact blanks_ok s xs A mc w hw hs hxl hrow hwf l hc
      | error x =>
        obtain ⟨a, c⟩ := x
        have hC : ∀ W, Env W → Calls Tryd.prog 6 #[.string s] W fun e w' => e = .returned (.tuple #[.slice none 0 0, .iface 39 (.agg #[.int .i64 a, .int .i64 c])]) ∧ Below W.heap.size W w' := by
          intro W hW
          have h := cut_any s W hW
          rw [hc] at h
          exact h
        have HC := Lib.hid hC
        clear hC hc
        go_enter Tryd.func4, Tryd.ntmps4
        go_wp2_with fail
        refine (HC.out _ hw).mono ?_
        rintro e w1 ⟨rfl, hb1⟩
        go_wp2_with fail
        refine (alive_c _ (hw.mono hb1)).mono ?_
        rintro e w2 ⟨rfl, hb2⟩
        go_wp2_with fail
        go_ret
        exact ⟨rfl, bt hb1 hb2⟩
    · go_enter Tryd.func4, Tryd.ntmps4
      go_wp2_with fail
      refine (alive_c _ hw).mono ?_
      rintro e w2 ⟨rfl, hb2⟩
      go_wp2_with fail
      go_ret
      exact ⟨rfl, hb2⟩
  · go_enter Tryd.func4, Tryd.ntmps4
    go_wp2_with fail
    refine (alive_c _ hw).mono ?_
    rintro e w2 ⟨rfl, hb2⟩
    go_wp2_with fail
    go_ret
    exact ⟨rfl, hb2⟩
end Go.Proofs.YtkflcmengddijaaDoor
