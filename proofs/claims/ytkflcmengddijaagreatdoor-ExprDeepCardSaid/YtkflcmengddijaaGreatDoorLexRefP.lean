/-
  The document's cutting, plainly.
-/
import Derived.Test.YtkflcmengddijaaGreatDoorLexLaw
namespace Go.Proofs.YtkflcmengddijaaGreatDoor.Lx
set_option linter.unusedVariables false
set_option linter.unusedSimpArgs false

/-- The number that digits spell, as the document reckons it, from a number on. -/
def refNum : List UInt8 → Nat → Option Nat
  | [], n => some n
  | c :: r, n => if (18446744073709551615 - (c.toNat - 48)) / 10 < n then none else refNum r (10 * n + (c.toNat - 48))
theorem refNum_eq : ∀ (p : List UInt8) (n : Nat), (∀ c ∈ p, isDigit c = true) → n < 18446744073709551616 → refNum p n = match Lib.parseUintM (2 ^ 64 - 1) n p with | .ok u => some u | _ => none
  | [], n, _, _ => rfl
  | c :: r, n, hd, hn => by
    have hc := hd c (by simp)
    have h48 : 48 ≤ c.toNat ∧ c.toNat ≤ 57 := by simpa [isDigit] using hc
    simp only [refNum, Lib.parseUintM]
    rw [if_pos h48]
    by_cases h1 : 1844674407370955162 ≤ n
    · rw [if_pos h1, if_pos (by omega)]
    · rw [if_neg h1]
      by_cases h2 : 2 ^ 64 - 1 < n * 10 + (c.toNat - 48)
      · rw [if_pos h2, if_pos (by omega)]
      · rw [if_neg h2, if_neg (by omega), refNum_eq r _ (fun c h => hd c (by simp [h])) (by omega), Nat.mul_comm 10 n]
theorem numOf_ref {p : List UInt8} (hp : p ≠ []) (hd : ∀ c ∈ p, isDigit c = true) : numOf p = if p.head? = some 48 ∧ 1 < p.length then none else refNum p 0 := by
  rw [refNum_eq p 0 hd (by decide)]
  unfold numOf Lib.parseUintB
  rw [if_neg hp]
  cases Lib.parseUintM (2 ^ 64 - 1) 0 p with
  | ok u => split <;> simp_all
  | _ => simp

/-- A blank more ahead. -/
theorem scan_blank {F k : Nat} {c : UInt8} {r : List UInt8} (hc : isBlank c = true) : Lx.scan (F + 1) (c :: r) k = Lx.scan (F + 1) r (k + 1) := by
  have e : (c :: r).takeWhile isBlank = c :: r.takeWhile isBlank := by rw [List.takeWhile_cons, hc]; rfl
  simp only [Lx.scan, e, List.length_cons, List.drop_succ_cons]
  have e2 : k + ((r.takeWhile isBlank).length + 1) = k + 1 + (r.takeWhile isBlank).length := by omega
  rw [e2]
/-- A token more ahead, or an error. -/
theorem scan_here {F k : Nat} {c : UInt8} {r : List UInt8} (hc : isBlank c = false) : Lx.scan (F + 1) (c :: r) k = match Lx.next (c :: r) with
    | .error e => .error ((k : Nat), e)
    | .ok (t, n) => (Lx.scan F ((c :: r).drop n) (k + n)).map fun l => { t with at' := (k : Nat) } :: l := by
  have e : (c :: r).takeWhile isBlank = [] := by rw [List.takeWhile_cons, hc]; rfl
  simp only [Lx.scan, e, List.length_nil, List.drop_zero, Nat.add_zero]
  rw [if_neg (by simp)]
  cases Lx.next (c :: r) <;> rfl
theorem scan_done {F k : Nat} : Lx.scan (F + 1) [] k = .ok [⟨5, [], 0, (k : Nat)⟩] := by simp [Lx.scan]
end Go.Proofs.YtkflcmengddijaaGreatDoor.Lx
