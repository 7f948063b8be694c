/-
  What the library's variables hold; lex.sign walked.
-/
import Derived.Test.YtkflcmengddijaaGreatDoorLex2
import Derived.Test.YtkflcmengddijaaGreatDoorShelf
import Derived.Lib.LaidTab
import Derived.Lib.SmallJoins
import Derived.Handy
namespace Go.Proofs.YtkflcmengddijaaGreatDoor
open Go.RowKit Lx
set_option linter.unusedVariables false
set_option linter.unusedSimpArgs false

/-- What the listed variables hold, as far as the walks ask it. -/
structure Env (w : World) : Prop where
  sp : Lib.TabIs Tryz.prog w "strings.asciiSpace" .u8 Lib.asciiSpaceTab
  syn : ∃ tp p, w.var? Tryz.prog "strconv.ErrSyntax" = some #[.iface tp p]
  rng : ∃ tp p, w.var? Tryz.prog "strconv.ErrRange" = some #[.iface tp p]
  ety : w.var? Tryz.prog "errors.errorType" = some #[.iface 119 (.agg #[.pointer (some ⟨11, 25, none⟩)])]
  pow : Lib.TabIs Tryz.prog w "internal/strconv.uint64pow10" .u64 [1, 10, 100, 1000, 10000, 100000, 1000000, 10000000, 100000000, 1000000000, 10000000000, 100000000000, 1000000000000, 10000000000000, 100000000000000, 1000000000000000, 10000000000000000, 100000000000000000, 1000000000000000000, 10000000000000000000]
theorem gSp : Tryz.prog.globalNamed "strings.asciiSpace" = some 2 := by kernel_rfl
theorem gSyn : Tryz.prog.globalNamed "strconv.ErrSyntax" = some 4 := by kernel_rfl
theorem gRng : Tryz.prog.globalNamed "strconv.ErrRange" = some 5 := by kernel_rfl
theorem gEty : Tryz.prog.globalNamed "errors.errorType" = some 0 := by kernel_rfl
theorem gPow : Tryz.prog.globalNamed "internal/strconv.uint64pow10" = some 3 := by kernel_rfl
theorem var_below {w w' : World} {n : String} {g : Nat} {v : Array Value} (hg : Tryz.prog.globalNamed n = some g) (h : w.var? Tryz.prog n = some v) (hb : Below w.heap.size w w') : w'.var? Tryz.prog n = some v := by
  unfold World.var? at h ⊢
  rw [hg] at h ⊢
  simp only [Option.bind_some] at h ⊢
  have hlt : g < w.heap.size := by
    rcases Nat.lt_or_ge g w.heap.size with h' | h'
    · exact h'
    · rw [Array.getElem?_eq_none h'] at h; cases h
  rw [hb.block g hlt]
  exact h
theorem Env.mono {w w' : World} (h : Env w) (hb : Below w.heap.size w w') : Env w' :=
  ⟨var_below gSp h.sp hb, let ⟨a, b, c⟩ := h.syn; ⟨a, b, var_below gSyn c hb⟩, let ⟨a, b, c⟩ := h.rng; ⟨a, b, var_below gRng c hb⟩, var_below gEty h.ety hb, var_below gPow h.pow hb⟩

theorem mkList (l : List UInt8) : (⟨l.toArray⟩ : ByteArray).data.toList = l := rfl
theorem pieceS_data (p : UInt8 → Bool) (s : ByteArray) : (pieceS p s).data.toList = s.data.toList.takeWhile p := by
  unfold pieceS
  have e : (s.extract 0 (s.data.toList.takeWhile p).length).data.toList = s.data.toList.take (s.data.toList.takeWhile p).length := by simp
  rw [e]
  generalize s.data.toList = l
  induction l with
  | nil => rfl
  | cons c r ih =>
    rw [List.takeWhile_cons]
    split
    · simp [ih]
    · rfl
theorem pieceS_size (p : UInt8 → Bool) (s : ByteArray) : (pieceS p s).size = (s.data.toList.takeWhile p).length := by rw [← size_data, pieceS_data]
theorem pieceS_le (p : UInt8 → Bool) (s : ByteArray) : (pieceS p s).size ≤ s.size := by
  rw [pieceS_size, ← size_data]
  exact (List.takeWhile_prefix p).length_le

def signText : ByteArray := ⟨#[62, 62, 62, 32, 46, 46, 32, 42, 94, 32, 60, 60, 32, 62, 62, 32, 60, 36, 32, 40, 32, 41, 32, 123, 32, 125, 32, 91, 32, 93, 32, 44, 32, 59, 32, 61, 32, 35, 32, 43, 32, 45, 32, 42, 32, 47, 32, 37, 32, 38, 32, 124, 32, 94, 32, 60]⟩
theorem fields_signs : Lib.fields signText.data.toList = signs := by decide +kernel
theorem ascii_signs : ∀ (j : Nat) (b : UInt8), signText.data.toList[j]? = some b → b.toNat < 128 := by
  intro j b h
  have hm : b ∈ signText.data.toList := List.mem_of_getElem? h
  have : ∀ b ∈ signText.data.toList, b.toNat < 128 := by decide +kernel
  exact this b hm

def signCells : Array Value := (signs.map fun l => Value.string ⟨l.toArray⟩).toArray
theorem fields_c (w : World) (hw : Env w) : Calls Tryz.prog 79 #[.string signText] w fun e w' => e = .returned (.slice (some ⟨w.heap.size, 0, none⟩) 25 25) ∧ w' = w.alloc (.cells signCells 9) := by
  have h := Tryz.strings_Fields_laid signText w (by decide) ascii_signs hw.sp
  rw [fields_signs] at h
  exact h

theorem signOf_at (s : List UInt8) (k : Nat) (hk : k < signs.length) (h1 : ∀ j (h : j < signs.length), j < k → (signs[j]).isPrefixOf s = false) (h2 : (signs[k]).isPrefixOf s = true) : signOf s = signs[k] := by
  have : signs.find? (fun x => x.isPrefixOf s) = some signs[k] := by
    rw [List.find?_eq_some_iff_getElem]
    exact ⟨h2, k, hk, rfl, fun j hj => by simp [h1 j (by omega) hj]⟩
  rw [signOf, this]; rfl
theorem signOf_none (s : List UInt8) (h1 : ∀ j (h : j < signs.length), (signs[j]).isPrefixOf s = false) : signOf s = [] := by
  have : signs.find? (fun x => x.isPrefixOf s) = none := by
    rw [List.find?_eq_none]
    intro x hx
    obtain ⟨i, hi, rfl⟩ := List.getElem_of_mem hx
    simp [h1 i hi]
  rw [signOf, this]; rfl

set_option maxRecDepth 100000 in
set_option maxHeartbeats 2000000 in
theorem sign_c (s : ByteArray) (w : World) (hw : Env w) : Calls Tryz.prog 51 #[.string s] w fun e w' => e = .returned (.string ⟨(signOf s.data.toList).toArray⟩) ∧ Below w.heap.size w w' := by
  have hlen : signs.length = 25 := rfl
  have HL := Lib.hid hlen; clear hlen
  have hbW : Below w.heap.size w (w.alloc (.cells signCells 9)) := (Below.refl _ _).alloc (Nat.le_refl _) _
  have B0 : Bk (w.alloc (.cells signCells 9)) w.heap.size signCells 9 := Bk.new ..
  go_enter Tryz.func51, Tryz.ntmps51
  go_wp2_with (go_at_call 79; refine (fields_c _ hw).mono ?_; rintro e w' ⟨rfl, rfl⟩)
  go_loop [4, 7] (fun x n => ∃ k : Nat, k ≤ 25 ∧ n = .int .i64 k ∧ ∀ j (h : j < signs.length), j < k → (signs[j]).isPrefixOf s.data.toList = false) (fun _ n => 25 - (intOf n).toNat)
  case atStart => exact ⟨0, by omega, rfl, fun j _ h => absurd h (by omega)⟩
  case round =>
    obtain ⟨k, hk, rfl, hall⟩ := hrel
    have HA := Lib.hid hall; clear hall
    by_cases hlt : k < 25
    · have hc : (w.alloc (.cells signCells 9)).cell? ⟨w.heap.size, k, none⟩ = some (.string ⟨(signs[k]'(by rw [HL.out]; exact hlt)).toArray⟩) := by
        rw [B0.cell k]
        simp [signCells, HL.out, hlt]
      cases hp : (signs[k]'(by rw [HL.out]; exact hlt)).isPrefixOf s.data.toList with
      | true =>
        have HP := Lib.hid hp; clear hp
        go_wp2_with (go_at_call 80; refine (Tryz.strings_HasPrefix _ _ _).mono ?_; rintro e w' ⟨rfl, rfl⟩; rw [show Lib.hasPrefix s.data.toList (⟨(signs[k]'(by rw [HL.out]; exact hlt)).toArray⟩ : ByteArray).data.toList = true from HP.out])
        go_ret
        refine ⟨ret_str ?_, hbW⟩
        rw [signOf_at _ k (by rw [HL.out]; exact hlt) HA.out HP.out]
      | false =>
        have HP := Lib.hid hp; clear hp
        go_wp2_with (go_at_call 80; refine (Tryz.strings_HasPrefix _ _ _).mono ?_; rintro e w' ⟨rfl, rfl⟩; rw [show Lib.hasPrefix s.data.toList (⟨(signs[k]'(by rw [HL.out]; exact hlt)).toArray⟩ : ByteArray).data.toList = false from HP.out])
        go_round
        case rel =>
          refine ⟨k + 1, by omega, by go_num, fun j h hj => ?_⟩
          by_cases e : j = k
          · subst e; exact HP.out
          · exact HA.out j h (by omega)
        case measure => simp [intOf]; omega
    · go_wp2
      go_ret
      refine ⟨ret_str ?_, hbW⟩
      rw [signOf_none _ (fun j h => HA.out j h (by rw [HL.out] at h; omega))]
end Go.Proofs.YtkflcmengddijaaGreatDoor
