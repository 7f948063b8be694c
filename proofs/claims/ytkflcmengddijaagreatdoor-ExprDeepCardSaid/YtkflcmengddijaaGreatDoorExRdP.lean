/-
  The reader of expressions, plainly.
-/
import Derived.Test.YtkflcmengddijaaGreatDoorExTell3
namespace Go.Proofs.YtkflcmengddijaaGreatDoor
open Go.RowKit Lx
set_option linter.unusedVariables false
set_option linter.unusedSimpArgs false

/-- What a reader has: the next token's number, and the first fault. -/
structure RS where
  pos : Int
  err : Option (Int × Int)
namespace Rd
def z : STok := ⟨0, [], 0, 0⟩
def look (L : List STok) (p : Int) : STok := if 0 ≤ p then (L[p.toNat]?).getD z else z
def place (L : List STok) (p : Int) : Int := if 0 ≤ p ∧ 0 < L.length then ((L[min p.toNat (L.length - 1)]?).getD z).at' else 0
def bad (L : List STok) (s : RS) (e : Int) : RS := match s.err with | some x => ⟨s.pos, some x⟩ | none => ⟨s.pos, some (place L s.pos, e)⟩
def adv (s : RS) : RS := ⟨s.pos + 1, s.err⟩
def signB (L : List STok) (s : RS) (t : List UInt8) : Bool := s.err.isNone && ((look L s.pos).k == 4 && (look L s.pos).text == t)
def need (L : List STok) (s : RS) (t : List UInt8) : RS := if signB L s t = true then adv s else bad L s 7
def nameB (L : List STok) (s : RS) : Bool := s.err.isNone && ((look L s.pos).k == 1 && isName (look L s.pos).text)
def name (L : List STok) (s : RS) : List UInt8 × RS := if nameB L s = true then ((look L s.pos).text, adv s) else ([], bad L s 7)
def opIdx (t : List UInt8) : Int := match signsL.findIdx? (· == t) with | some i => (i : Nat) | none => -1
def opB (L : List STok) (s : RS) : Bool := s.err.isNone && ((look L s.pos).k == 4 && decide (1 ≤ opIdx (look L s.pos).text))
def op (L : List STok) (s : RS) : Int × RS := if opB L s = true then (opIdx (look L s.pos).text, adv s) else (0, bad L s 7)
def exZ : Ex := .mk 0 0 ⟨#[]⟩ 0 []
def str (l : List UInt8) : ByteArray := ⟨l.toArray⟩
/-- The next expression; so many levels are left. -/
def expr (L : List STok) : Nat → RS → Ex × RS
  | 0, s => (exZ, bad L s 70)
  | n + 1, s =>
    if s.err.isSome = true then (exZ, s)
    else if (look L s.pos).k = 3 then (.mk 1 (look L s.pos).num ⟨#[]⟩ 0 [], adv s)
    else if signB L s [35] = true then (.mk 4 0 (str (name L (adv s)).1) 0 [], (name L (adv s)).2)
    else if signB L s [40] = true then
      let a := expr L n (adv s)
      let o := op L a.2
      let b := expr L n o.2
      (.mk 3 0 ⟨#[]⟩ o.1 [a.1, b.1], need L b.2 [41])
    else
      let r := name L s
      if signB L r.2 [91] = true then
        let k := expr L n (adv r.2)
        (.mk 5 0 (str r.1) 0 [k.1], need L k.2 [93])
      else (.mk 2 0 (str r.1) 0 [], r.2)
theorem look_in {L : List STok} {p : Int} (h : (look L p).k ≠ 0) : 0 ≤ p ∧ p.toNat < L.length := by
  unfold look at h
  split at h
  · rename_i h0
    refine ⟨h0, ?_⟩
    rcases Nat.lt_or_ge p.toNat L.length with h1 | h1
    · exact h1
    · rw [List.getElem?_eq_none h1] at h
      exact absurd rfl h
  · exact absurd rfl h
theorem look_at {L : List STok} {p : Int} (h0 : 0 ≤ p) (h1 : p.toNat < L.length) : look L p = L[p.toNat] := by
  unfold look
  rw [if_pos h0, List.getElem?_eq_getElem h1]
  rfl
theorem look_out {L : List STok} {p : Int} (h : ¬ (0 ≤ p ∧ p.toNat < L.length)) : look L p = z := by
  unfold look
  split
  · rw [List.getElem?_eq_none (by omega)]; rfl
  · rfl
end Rd
def errV : Option (Int × Int) → Value
  | none => .nilIface
  | some (a, c) => .iface 30 (.agg #[.int .i64 a, .int .i64 c])
abbrev rdC (L : List STok) (A : Option Addr) (c : Nat) (s : RS) : Array Value := #[.slice A L.length c, .int .i64 s.pos, errV s.err]
/-- A reader of tokens that lay there before it. -/
structure Rdr (L : List STok) (A : Option Addr) (c rb : Nat) (w0 w : World) (s : RS) : Prop where
  row : kTok.Row w0 A L
  len : L.length ≤ 1000000000000
  below : Below w0.heap.size w0 w
  rb0 : w0.heap.size ≤ rb
  bk : Bk w rb (rdC L A c s) 75
/-- What one of its functions leaves. -/
structure RdPost (L : List STok) (A : Option Addr) (c rb : Nat) (w w' : World) (s : RS) : Prop where
  bk : Bk w' rb (rdC L A c s) 75
  grow : w.grownBy w' (some rb)
theorem Rdr.next {L : List STok} {A : Option Addr} {c rb : Nat} {w0 w w' : World} {s s' : RS} (h : Rdr L A c rb w0 w s) (p : RdPost L A c rb w w' s') : Rdr L A c rb w0 w' s' :=
  ⟨h.row, h.len, h.below.grown p.grow h.below.size (fun q hq => by cases hq; exact h.rb0), h.rb0, p.bk⟩
theorem Rdr.alloc {L : List STok} {A : Option Addr} {c rb : Nat} {w0 w : World} {s : RS} (h : Rdr L A c rb w0 w s) (o : Obj) : Rdr L A c rb w0 (w.alloc o) s :=
  ⟨h.row, h.len, h.below.alloc h.below.size o, h.rb0, h.bk.alloc o⟩
theorem grow_trans {w w1 w2 : World} {r : Option Nat} (h : w.grownBy w1 r) (k : w1.grownBy w2 r) : w.grownBy w2 r :=
  ⟨k.os.trans h.os, k.tape.trans h.tape, k.output.trans h.output, Nat.le_trans h.size k.size, fun n hn hr => (k.block n (Nat.lt_of_lt_of_le hn h.size) hr).trans (h.block n hn hr)⟩
theorem grow_alloc (w : World) (o : Obj) (r : Option Nat) : w.grownBy (w.alloc o) r := ⟨rfl, rfl, rfl, by simp, fun n hn _ => Below.heap_alloc w o n hn⟩
theorem grow_set (w : World) (b i : Nat) (v : Value) : w.grownBy (w.setCell ⟨b, i, none⟩ v) (some b) := ⟨rfl, rfl, rfl, by simp, fun n hn hr => heap_setCell_other w ⟨b, i, none⟩ n v (fun e => hr (by rw [e]))⟩
theorem grow_new {w w1 : World} {r : Option Nat} (h : w.grownBy w1 r) (b i : Nat) (v : Value) (hb : w.heap.size ≤ b) : w.grownBy (w1.setCell ⟨b, i, none⟩ v) r :=
  ⟨h.os, h.tape, h.output, by simpa using h.size, fun n hn hr => (heap_setCell_other w1 ⟨b, i, none⟩ n v (by show n ≠ b; omega)).trans (h.block n hn hr)⟩
end Go.Proofs.YtkflcmengddijaaGreatDoor
