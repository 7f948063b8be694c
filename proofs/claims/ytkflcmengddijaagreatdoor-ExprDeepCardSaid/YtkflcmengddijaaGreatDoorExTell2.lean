/-
  expr.Tell walked: the teller's expr.
-/
import Derived.Test.YtkflcmengddijaaGreatDoorExTell
import Derived.Deep.RegionLaw
namespace Go.Proofs.YtkflcmengddijaaGreatDoor
open Go.RowKit Lx
set_option linter.unusedVariables false
set_option linter.unusedSimpArgs false

set_option maxRecDepth 100000 in
set_option maxHeartbeats 1000000 in
theorem tell_2 (num : Int) (name : ByteArray) (op : Int) (kids : List Ex) : TellOf (.mk 2 num name op kids) := by
  intro d tb base w0 w ts ns K c hmay hr hsg hT hl
  have ht := tellP_2 num name op kids
  rw [ht] at hl ⊢
  simp only [Ex.k, Ex.num, Ex.name, Ex.op, Ex.kids, List.length_cons, List.length_nil] at *
  have hT1 := hT.more #[.int .u8 2, .int .u64 num, .string name, .int .u8 op, .slice K kids.length c] 40 (by decide)
  clear ht hmay
  go_enter Tryz.func41, Tryz.ntmps41
  go_wp2_with fail
  refine (tName_c _ _ tb base w0 _ ts _ hT1 (by omega)).mono ?_
  rintro e w2 ⟨rfl, hT2⟩
  go_wp2_with fail
  go_end0
  exact ⟨rfl, hT2.tail⟩

set_option maxRecDepth 100000 in
set_option maxHeartbeats 1000000 in
theorem tell_4 (num : Int) (name : ByteArray) (op : Int) (kids : List Ex) : TellOf (.mk 4 num name op kids) := by
  intro d tb base w0 w ts ns K c hmay hr hsg hT hl
  have ht := tellP_4 num name op kids
  rw [ht] at hl ⊢
  simp only [Ex.k, Ex.num, Ex.name, Ex.op, Ex.kids, List.length_cons, List.length_nil] at *
  have hT1 := hT.more #[.int .u8 4, .int .u64 num, .string name, .int .u8 op, .slice K kids.length c] 40 (by decide)
  clear ht hmay
  go_enter Tryz.func41, Tryz.ntmps41
  go_wp2_with fail
  refine (tSign_c _ _ tb base w0 _ ts _ hT1 (by omega)).mono ?_
  rintro e w2 ⟨rfl, hT2⟩
  have K2 := hT2.head.cell
  go_wp2_with fail
  refine (tName_c _ _ tb base w0 _ _ _ hT2 (by simp; omega)).mono ?_
  rintro e w3 ⟨rfl, hT3⟩
  go_wp2_with fail
  go_end0
  refine ⟨rfl, ?_⟩
  rw [List.append_assoc] at hT3
  exact hT3.tail

set_option maxRecDepth 100000 in
set_option maxHeartbeats 1000000 in
theorem tell_1 (num : Int) (name : ByteArray) (op : Int) (kids : List Ex) : TellOf (.mk 1 num name op kids) := by
  intro d tb base w0 w ts ns K c hmay hr hsg hT hl
  have ht := tellP_1 num name op kids
  rw [ht] at hl ⊢
  simp only [Ex.k, Ex.num, Ex.name, Ex.op, Ex.kids, List.length_cons, List.length_nil] at *
  have hT1 := hT.more #[.int .u8 1, .int .u64 num, .string name, .int .u8 op, .slice K kids.length c] 40 (by decide)
  have K1 := hT1.head
  obtain ⟨⟨v, hk, hown⟩, hB, b1, b2, b3, kp⟩ := hT1
  have KP := Lib.hid kp
  have e1 : (w.alloc (.cells #[.int .u8 1, .int .u64 num, .string name, .int .u8 op, .slice K kids.length c] 40)).cell? ⟨w.heap.size, 1, none⟩ = some (.int .u64 num) := K1.cell 1
  have t1 : (w.alloc (.cells #[.int .u8 1, .int .u64 num, .string name, .int .u8 op, .slice K kids.length c] 40)).cell? ⟨tb, 0, none⟩ = some v := by simpa using hk.cell 0
  have hz := hk.lt
  have hz2 : tb < w.heap.size := by have := hT.h; obtain ⟨v, h, _⟩ := this; exact h.lt
  have hz3 : base ≤ w.heap.size := hT.b3
  obtain ⟨i0, hi, iz0, iz1, iz2⟩ := info_parts infoTok
  have ob1 : some tb ≠ v.ownBlock := own_base hown b2
  have ob2 : some w.heap.size ≠ v.ownBlock := own_type hown K1 (by decide)
  clear ht hmay kp
  go_enter Tryz.func41, Tryz.ntmps41
  go_wp2_with fail
  go_region_law
    ((refine step_append_lies _ (by rfl) _ _ _ (by rfl) base 50 i0 _ 4 40 Tryz.underlying23 hi iz0 iz1 iz2 rfl (by omega) v ts.length (cellsOf ts) (by rfl) (((hown.alloc _)).drew)
        ⟨w.heap.size + 1, 0, none⟩ 1 1 [.int .u8 3, .string ⟨#[]⟩, .int .u64 num, .int .i64 0] (by rfl) (by rfl) (World.news_of_block (cs := #[.int .u8 3, .string ⟨#[]⟩, .int .u64 num, .int .i64 0]) (t := 50) (fr := (0, 0)) (Bk.newAt _ _ (by simp))) (by simp [Value.oneCell'])
        (by omega) (by unfold maxLen; omega) (by omega) (by simp; omega) (w.heap.size + 2) (by simp) ?_; intro gg cap w9 hown1 hgrow hat hlt; have hk9 := Bk.grown (hk.alloc (.cells #[.int .u8 3, .string ⟨#[]⟩, .int .u64 num, .int .i64 0] 50)).drew hgrow ob1; have C9 := hk9.cell; have F9 := hk9.free; have D9 := (Bk.grown (K1.alloc (.cells #[.int .u8 3, .string ⟨#[]⟩, .int .u64 num, .int .i64 0] 50)).drew hgrow ob2).cell))
  all_goals
    go_wp2_with fail
    go_end0
    have hg9 : ((w.alloc (.cells #[.int .u8 1, .int .u64 num, .string name, .int .u8 op, .slice K kids.length c] 40)).alloc (.cells #[.int .u8 3, .string ⟨#[]⟩, .int .u64 num, .int .i64 0] 50)).grownBy w9 v.ownBlock := ⟨hgrow.os, hgrow.tape, hgrow.output, hgrow.size, hgrow.block⟩
    have hf := (tl_put (t := ⟨3, [], num, 0⟩) hk hown hB b1 b2 b3 KP.out hg9 hown1).tail
    exact ⟨rfl, hf⟩

set_option maxRecDepth 100000 in
set_option maxHeartbeats 1000000 in
theorem tell_5 (name : ByteArray) (a : Ex) (ha : TellOf a) : TellOf (.mk 5 0 name 0 [a]) := by
  intro d tb base w0 w ts ns K c hmay hr hsg hT hl
  have ht := tellP_5 0 name 0 a
  have hma : mayB a (d + 1) = true := by
    rw [mayB_eq] at hmay
    simp [Ex.kids] at hmay
    exact hmay.2
  rw [ht] at hl ⊢
  simp only [Ex.k, Ex.num, Ex.name, Ex.op, Ex.kids, List.length_cons, List.length_nil, List.length_append] at *
  have hT1 := hT.more #[.int .u8 5, .int .u64 0, .string name, .int .u8 0, .slice K 1 c] 40 (by decide)
  clear ht hmay
  go_enter Tryz.func41, Tryz.ntmps41
  go_wp2_with fail
  refine (tName_c _ _ tb base w0 _ ts _ hT1 (by omega)).mono ?_
  rintro e w2 ⟨rfl, hT2⟩
  have K2 := hT2.head.cell
  go_wp2_with fail
  refine (tSign_c _ _ tb base w0 _ _ _ hT2 (by simp; omega)).mono ?_
  rintro e w3 ⟨rfl, hT3⟩
  have K3 := hT3.head.cell
  obtain ⟨b, o, KK, kc, rfl, gm, gr, g0, g1, g2, g3, g4⟩ := kid_later hr hT3.below 0 (by simp)
  simp only [List.getElem_cons_zero, Nat.zero_mul, Nat.add_zero] at gm gr g0 g1 g2 g3 g4
  go_wp2_with fail
  refine (ha (d + 1) tb base w0 _ _ _ KK kc hma gr hsg hT3 (by simp; omega)).mono ?_
  rintro e w4 ⟨rfl, hT4⟩
  go_wp2_with fail
  refine (tSign_c _ _ tb base w0 _ _ _ hT4 (by simp; omega)).mono ?_
  rintro e w5 ⟨rfl, hT5⟩
  go_wp2_with fail
  go_end0
  refine ⟨rfl, ?_⟩
  have hf := hT5.tail
  simpa [nmT, sgT] using hf

set_option maxRecDepth 100000 in
set_option maxHeartbeats 1000000 in
theorem tell_3 (name : ByteArray) (op : Int) (h1 : 1 ≤ op) (h2 : op ≤ 14) (x y : Ex) (hx : TellOf x) (hy : TellOf y) : TellOf (.mk 3 0 name op [x, y]) := by
  intro d tb base w0 w ts ns K c hmay hr hsg hT hl
  have ht := tellP_3 0 name op x y
  have hma : mayB x (d + 1) = true ∧ mayB y (d + 1) = true := by
    rw [mayB_eq] at hmay
    simp [Ex.kids] at hmay
    exact hmay.2
  obtain ⟨hmx, hmy⟩ := hma
  rw [ht] at hl ⊢
  simp only [Ex.k, Ex.num, Ex.name, Ex.op, Ex.kids, List.length_cons, List.length_nil, List.length_append] at *
  have hT1 := hT.more #[.int .u8 3, .int .u64 0, .string name, .int .u8 op, .slice K 2 c] 40 (by decide)
  clear ht hmay
  go_enter Tryz.func41, Tryz.ntmps41
  go_wp2_with fail
  refine (tSign_c _ _ tb base w0 _ ts _ hT1 (by omega)).mono ?_
  rintro e w2 ⟨rfl, hT2⟩
  have K2 := hT2.head.cell
  obtain ⟨b, o, KK, kc, rfl, gm, gr, g0, g1, g2, g3, g4⟩ := kid_later hr hT2.below 0 (by simp)
  simp only [List.getElem_cons_zero, Nat.zero_mul, Nat.add_zero] at gm gr g0 g1 g2 g3 g4
  go_wp2_with fail
  refine (hx (d + 1) tb base w0 _ _ _ KK kc hmx gr hsg hT2 (by simp; omega)).mono ?_
  rintro e w3 ⟨rfl, hT3⟩
  have K3 := hT3.head.cell
  have sg := (hsg.mono hT3.below).cell op.toNat (by omega)
  clear g0 g1 g2 g3 g4
  go_wp2_with fail
  refine (tSign_c _ _ tb base w0 _ _ _ hT3 (by simp; omega)).mono ?_
  rintro e w4 ⟨rfl, hT4⟩
  have K4 := hT4.head.cell
  obtain ⟨b', o', K5, kc5, e5, gm, gr, g0, g1, g2, g3, g4⟩ := kid_later hr hT4.below 1 (by simp)
  obtain ⟨rfl, rfl⟩ : b = b' ∧ o = o' := by injection e5 with e5; injection e5 with e5 e6; exact ⟨e5, e6⟩
  simp only [List.getElem_cons_succ, List.getElem_cons_zero, Nat.one_mul] at gm gr g0 g1 g2 g3 g4
  clear e5
  go_wp2_with fail
  refine (hy (d + 1) tb base w0 _ _ _ K5 kc5 hmy gr hsg hT4 (by simp; omega)).mono ?_
  rintro e w5 ⟨rfl, hT5⟩
  go_wp2_with fail
  refine (tSign_c _ _ tb base w0 _ _ _ hT5 (by simp; omega)).mono ?_
  rintro e w6 ⟨rfl, hT6⟩
  go_wp2_with fail
  go_end0
  refine ⟨rfl, ?_⟩
  have hf := hT6.tail
  simpa [nmT, sgT, opSign] using hf
end Go.Proofs.YtkflcmengddijaaGreatDoor
