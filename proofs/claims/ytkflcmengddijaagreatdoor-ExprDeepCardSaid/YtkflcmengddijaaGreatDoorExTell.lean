/-
  expr.Tell walked: the teller's small functions.
-/
import Derived.Test.YtkflcmengddijaaGreatDoorExMay3
import Derived.Test.YtkflcmengddijaaGreatDoorLexSame
import Derived.Deep.AppendLies
namespace Go.Proofs.YtkflcmengddijaaGreatDoor
open Go.RowKit Lx
set_option linter.unusedVariables false
set_option linter.unusedSimpArgs false

/-! ### What is told -/
def signsL : List (List UInt8) := [[], [43], [45], [60, 60], [60, 36], [60], [94], [62, 62], [62, 62, 62], [124], [38], [42], [42, 94], [47], [37]]
def opSign (o : Int) : List UInt8 := signsL.getD o.toNat []
def sgT (s : List UInt8) : STok := ⟨4, s, 0, 0⟩
def nmT (s : ByteArray) : STok := ⟨1, s.data.toList, 0, 0⟩
def tellP (x : Ex) : List STok :=
  if x.k = 1 then [⟨3, [], x.num, 0⟩]
  else if x.k = 2 then [nmT x.name]
  else if x.k = 4 then [sgT [35], nmT x.name]
  else match h : x.kids with
    | [a] => [nmT x.name, sgT [91]] ++ tellP a ++ [sgT [93]]
    | [a, b] => [sgT [40]] ++ tellP a ++ [sgT (opSign x.op)] ++ tellP b ++ [sgT [41]]
    | _ => []
termination_by SizeOf.sizeOf x
decreasing_by all_goals (apply Ex.kid_lt; rw [h]; simp)
theorem tellP_1 (num : Int) (name : ByteArray) (op : Int) (kids : List Ex) : tellP (.mk 1 num name op kids) = [⟨3, [], num, 0⟩] := by rw [tellP]; rfl
theorem tellP_2 (num : Int) (name : ByteArray) (op : Int) (kids : List Ex) : tellP (.mk 2 num name op kids) = [nmT name] := by rw [tellP]; rfl
theorem tellP_4 (num : Int) (name : ByteArray) (op : Int) (kids : List Ex) : tellP (.mk 4 num name op kids) = [sgT [35], nmT name] := by rw [tellP]; rfl
theorem tellP_5 (num : Int) (name : ByteArray) (op : Int) (a : Ex) : tellP (.mk 5 num name op [a]) = [nmT name, sgT [91]] ++ tellP a ++ [sgT [93]] := by
  rw [tellP, if_neg (by simp [Ex.k]), if_neg (by simp [Ex.k]), if_neg (by simp [Ex.k])]; rfl
theorem tellP_3 (num : Int) (name : ByteArray) (op : Int) (a b : Ex) : tellP (.mk 3 num name op [a, b]) = [sgT [40]] ++ tellP a ++ [sgT (opSign op)] ++ tellP b ++ [sgT [41]] := by
  rw [tellP, if_neg (by simp [Ex.k]), if_neg (by simp [Ex.k]), if_neg (by simp [Ex.k])]; rfl

/-! ### What the teller has -/
theorem own_type {w : World} {base n m : Nat} {e t : TypeId} {size : Nat} {v : Value} {xs : List Value} {cs : Array Value} (h : w.ownsRow base e size v n xs) (hk : Bk w m cs t) (ht : t ≠ e) : some m ≠ v.ownBlock := by
  intro hv
  rcases h.2 with ⟨rfl, _⟩ | ⟨g, cap, cur, rfl, hb, hg, _⟩
  · simp [Value.ownBlock] at hv
  · obtain rfl : m = g := by simpa [Value.ownBlock] using hv
    have h1 : w.heap[m]? = some (.cells cs t (0, 0)) := hk
    rw [h1] at hg
    injection hg with hg
    injection hg with _ hg
    exact ht hg
/-- Its cell, the tokens, all below B as it was, and some blocks besides. -/
structure Tl (B tb base : Nat) (w0 w : World) (ts : List STok) (ns : List (Nat × Array Value × TypeId)) : Prop where
  h : ∃ v, Bk w tb #[v] 69 ∧ w.ownsRow base 50 4 v ts.length (cellsOf ts)
  below : Below B w0 w
  b1 : B ≤ tb
  b2 : tb < base
  b3 : base ≤ w.heap.size
  keep : ∀ p ∈ ns, Bk w p.1 p.2.1 p.2.2 ∧ p.2.2 ≠ 50 ∧ p.1 ≠ tb
theorem Tl.hb {B tb base : Nat} {w0 w : World} {ts : List STok} {ns} (h : Tl B tb base w0 w ts ns) : B ≤ w.heap.size := Nat.le_trans h.b1 (Nat.le_trans (Nat.le_of_lt h.b2) h.b3)
theorem Tl.tail {B tb base : Nat} {w0 w : World} {ts : List STok} {p} {ns} (h : Tl B tb base w0 w ts (p :: ns)) : Tl B tb base w0 w ts ns := ⟨h.h, h.below, h.b1, h.b2, h.b3, fun q hq => h.keep q (by simp [hq])⟩
theorem Tl.head {B tb base : Nat} {w0 w : World} {ts : List STok} {n cs t} {ns} (h : Tl B tb base w0 w ts ((n, cs, t) :: ns)) : Bk w n cs t := (h.keep (n, cs, t) (by simp)).1
theorem Tl.more {B tb base : Nat} {w0 w : World} {ts : List STok} {ns} (h : Tl B tb base w0 w ts ns) (cs : Array Value) (t : TypeId) (ht : t ≠ 50) : Tl B tb base w0 (w.alloc (.cells cs t)) ts ((w.heap.size, cs, t) :: ns) := by
  obtain ⟨⟨v, hk, hown⟩, hB, b1, b2, b3, kp⟩ := h
  refine ⟨⟨v, hk.alloc _, hown.alloc _⟩, hB.alloc (by omega) _, b1, b2, by rw [World.size_alloc]; omega, fun p hp => ?_⟩
  rcases List.mem_cons.1 hp with rfl | hp
  · exact ⟨Bk.new _ _ _, ht, by have := hk.lt; show w.heap.size ≠ tb; omega⟩
  · obtain ⟨h1, h2, h3⟩ := kp p hp
    exact ⟨h1.alloc _, h2, h3⟩
theorem tl_put {B tb base : Nat} {w0 w w3 : World} {ts : List STok} {ns} {v : Value} {o : Obj} {t : STok} {a9 : Option Addr} {c9 : Nat} (hk : Bk w tb #[v] 69) (hown : w.ownsRow base 50 4 v ts.length (cellsOf ts)) (hB : Below B w0 w) (b1 : B ≤ tb) (b2 : tb < base) (b3 : base ≤ w.heap.size) (kp : ∀ p ∈ ns, Bk w p.1 p.2.1 p.2.2 ∧ p.2.2 ≠ 50 ∧ p.1 ≠ tb)
    (hgrow : (w.alloc o).grownBy w3 v.ownBlock) (hown1 : w3.ownsRow base 50 4 (.slice a9 (ts.length + 1) c9) (ts.length + 1) (cellsOf ts ++ tokCells t)) :
    Tl B tb base w0 (w3.setCell ⟨tb, 0, none⟩ (.slice a9 (ts.length + 1) c9)) (ts ++ [t]) ns := by
  have hk3 := (hk.alloc o).grown hgrow (own_base hown b2)
  have hz := hgrow.size
  rw [World.size_alloc] at hz
  refine ⟨⟨.slice a9 (ts.length + 1) c9, hk3.set 0 _, ?_⟩, ?_, b1, b2, ?_, fun p hp => ?_⟩
  · rw [cellsOf_snoc, List.length_append]
    exact ownsRow_setCell_below hown1 (a := ⟨tb, 0, none⟩) b2 _
  · exact ((hB.alloc (by omega) o).grown hgrow (by rw [World.size_alloc]; omega) (fun q hq => by have := own_from hown q hq; omega)).setCell (p := ⟨tb, 0, none⟩) b1 _
  · show _ ≤ (w3.setCell _ _).heap.size
    rw [World.size_setCell]
    omega
  · obtain ⟨h1, h2, h3⟩ := kp p hp
    exact ⟨((h1.alloc o).grown hgrow (own_type hown h1 h2)).other h3 _, h2, h3⟩

set_option maxRecDepth 100000 in
set_option maxHeartbeats 1000000 in
theorem tSign_c (s : ByteArray) (B tb base : Nat) (w0 w : World) (ts : List STok) (ns) (hT : Tl B tb base w0 w ts ns) (hl : ts.length ≤ 1000000000) :
    Calls Tryz.prog 65 #[.pointer (some ⟨tb, 0, none⟩), .string s] w fun e w' => e = .returned (.tuple #[]) ∧ Tl B tb base w0 w' (ts ++ [⟨4, s.data.toList, 0, 0⟩]) ns := by
  obtain ⟨⟨v, hk, hown⟩, hB, b1, b2, b3, kp⟩ := hT
  have C0 := hk.cell
  have F0 := hk.free
  have hz := hk.lt
  have KP := Lib.hid kp
  clear kp
  go_enter Tryz.func65, Tryz.ntmps65
  go_wp2_with (at_builtin; refine wpList_append_tok rfl _ _ rfl base v ts.length (cellsOf ts) rfl (hown.alloc _) w.heap.size _ _ _ _ ⟨rfl, rfl, rfl, rfl⟩ rfl (Bk.new _ _ _) (by omega) (by simp; omega) ?_; intro v1 w3 hown1 hgrow; obtain ⟨a9, c9, rfl⟩ := own_shape hown1; have hk3 := (hk.alloc (.cells #[.int .u8 4, .string s, .int .u64 0, .int .i64 0] 50)).grown hgrow (own_base hown b2); have C3 := hk3.cell; have F3 := hk3.free)
  go_end0
  exact ⟨rfl, tl_put (t := ⟨4, s.data.toList, 0, 0⟩) hk hown hB b1 b2 b3 KP.out hgrow hown1⟩
set_option maxRecDepth 100000 in
set_option maxHeartbeats 1000000 in
theorem tName_c (s : ByteArray) (B tb base : Nat) (w0 w : World) (ts : List STok) (ns) (hT : Tl B tb base w0 w ts ns) (hl : ts.length ≤ 1000000000) :
    Calls Tryz.prog 64 #[.pointer (some ⟨tb, 0, none⟩), .string s] w fun e w' => e = .returned (.tuple #[]) ∧ Tl B tb base w0 w' (ts ++ [⟨1, s.data.toList, 0, 0⟩]) ns := by
  obtain ⟨⟨v, hk, hown⟩, hB, b1, b2, b3, kp⟩ := hT
  have C0 := hk.cell
  have F0 := hk.free
  have hz := hk.lt
  have KP := Lib.hid kp
  clear kp
  go_enter Tryz.func64, Tryz.ntmps64
  go_wp2_with (at_builtin; refine wpList_append_tok rfl _ _ rfl base v ts.length (cellsOf ts) rfl (hown.alloc _) w.heap.size _ _ _ _ ⟨rfl, rfl, rfl, rfl⟩ rfl (Bk.new _ _ _) (by omega) (by simp; omega) ?_; intro v1 w3 hown1 hgrow; obtain ⟨a9, c9, rfl⟩ := own_shape hown1; have hk3 := (hk.alloc (.cells #[.int .u8 1, .string s, .int .u64 0, .int .i64 0] 50)).grown hgrow (own_base hown b2); have C3 := hk3.cell; have F3 := hk3.free)
  go_end0
  exact ⟨rfl, tl_put (t := ⟨1, s.data.toList, 0, 0⟩) hk hown hB b1 b2 b3 KP.out hgrow hown1⟩

/-- The table of signs, as the listed variable has it. -/
def SgTab (w : World) : Prop := w.var? Tryz.prog "sacristy/expr.signs" = some (signsL.map fun l => Value.string ⟨l.toArray⟩).toArray
theorem gSg : Tryz.prog.globalNamed "sacristy/expr.signs" = some 1 := by kernel_rfl
theorem SgTab.mono {w w' : World} (h : SgTab w) (hb : Below w.heap.size w w') : SgTab w' := var_below gSg h hb
theorem SgTab.cell {w : World} (h : SgTab w) (i : Nat) (hi : i < 15) : w.cell? ⟨1, i, none⟩ = some (.string ⟨(signsL.getD i []).toArray⟩) := by
  have := World.var?_cell gSg h i
  rw [this]
  have hl : signsL.length = 15 := rfl
  simp [List.getD, hl, hi]

/-- What expr tells of an expression. -/
def TellOf (x : Ex) : Prop := ∀ (d tb base : Nat) (w0 w : World) (ts : List STok) (ns) (K : Option Addr) (c : Nat), mayB x d = true → kEx.Row w0 K x.kids → SgTab w0 → Tl w0.heap.size tb base w0 w ts ns → ts.length + (tellP x).length ≤ 1000000000 →
  Calls Tryz.prog 41 #[.pointer (some ⟨tb, 0, none⟩), .agg #[.int .u8 x.k, .int .u64 x.num, .string x.name, .int .u8 x.op, .slice K x.kids.length c]] w fun e w' => e = .returned (.tuple #[]) ∧ Tl w0.heap.size tb base w0 w' (ts ++ tellP x) ns
/-- A kid's cells in a later world, and its own kids as they lay. -/
theorem kid_later {w0 w : World} {A : Option Addr} {xs : List Ex} (h : kEx.Row w0 A xs) (hb : Below w0.heap.size w0 w) (i : Nat) (hi : i < xs.length) : ∃ b o K c, A = some ⟨b, o, none⟩ ∧ xs[i].kids.length ≤ maxLen ∧ kEx.Row w0 K xs[i].kids ∧
    w.cell? ⟨b, o + i * 5, none⟩ = some (.int .u8 xs[i].k) ∧ w.cell? ⟨b, o + i * 5 + 1, none⟩ = some (.int .u64 xs[i].num) ∧ w.cell? ⟨b, o + i * 5 + 2, none⟩ = some (.string xs[i].name) ∧
    w.cell? ⟨b, o + i * 5 + 3, none⟩ = some (.int .u8 xs[i].op) ∧ w.cell? ⟨b, o + i * 5 + 4, none⟩ = some (.slice K xs[i].kids.length c) := by
  obtain ⟨b, o, K, c, e, hm, hr, g0, g1, g2, g3, g4⟩ := kEx_at h i hi
  exact ⟨b, o, K, c, e, hm, hr, cm g0 hb, cm g1 hb, cm g2 hb, cm g3 hb, cm g4 hb⟩
end Go.Proofs.YtkflcmengddijaaGreatDoor
