/-
  sacristylaw07.alive walked.
-/
import Derived.Test.YtkflcmengddijaaGreatDoorExRead
import Derived.Test.YtkflcmengddijaaGreatDoorLexAlive
import Derived.Test.YtkflcmengddijaaGreatDoorExSame
import Derived.Test.YtkflcmengddijaaGreatDoorExTell3
namespace Go.Proofs.YtkflcmengddijaaGreatDoor
open Go.RowKit Lx
set_option linter.unusedVariables false
set_option linter.unusedSimpArgs false

def txt1 : ByteArray := ⟨#[40, 97, 32, 43, 32, 98, 91, 50, 93, 41]⟩
def txt2 : ByteArray := ⟨#[40, 97, 32, 43, 32, 41]⟩
def tk1 : List STok := [⟨4, [40], 0, 0⟩, ⟨1, [97], 0, 1⟩, ⟨4, [43], 0, 3⟩, ⟨1, [98], 0, 5⟩, ⟨4, [91], 0, 6⟩, ⟨3, [], 2, 7⟩, ⟨4, [93], 0, 8⟩, ⟨4, [41], 0, 9⟩, ⟨5, [], 0, 10⟩]
def tk2 : List STok := [⟨4, [40], 0, 0⟩, ⟨1, [97], 0, 1⟩, ⟨4, [43], 0, 3⟩, ⟨4, [41], 0, 5⟩, ⟨5, [], 0, 6⟩]
def exV (s : ByteArray) : Ex := .mk 2 0 s 0 []
def exA : Ex := .mk 3 0 ⟨#[]⟩ 1 [.mk 2 0 ⟨#[97]⟩ 0 [], .mk 5 0 ⟨#[98]⟩ 0 [.mk 1 2 ⟨#[]⟩ 0 []]]
theorem cut1 : Lx.cut txt1.data.toList = .ok tk1 := by rfl
theorem cut2 : Lx.cut txt2.data.toList = .ok tk2 := by rfl
theorem rd1 : Rd.expr tk1 40 ⟨0, none⟩ = (exA, ⟨8, none⟩) := by kernel_rfl
theorem rd2 : (Rd.expr tk2 40 ⟨0, none⟩).2.err = some (5, 7) := by kernel_rfl
theorem mayA : mayB exA 1 = true := by
  have h1 : mayB (.mk 1 2 ⟨#[]⟩ 0 []) 3 = true := by rw [mayB_eq]; rfl
  have h2 : mayB (.mk 5 0 ⟨#[98]⟩ 0 [.mk 1 2 ⟨#[]⟩ 0 []]) 2 = true := by
    rw [mayB_eq]
    show (_ && ([Ex.mk 1 2 ⟨#[]⟩ 0 []].all fun y => mayB y 3)) = true
    rw [List.all_cons, h1]
    rfl
  have h3 : mayB (.mk 2 0 ⟨#[97]⟩ 0 []) 2 = true := by rw [mayB_eq]; rfl
  unfold exA
  rw [mayB_eq]
  show (_ && ([Ex.mk 2 0 ⟨#[97]⟩ 0 [], Ex.mk 5 0 ⟨#[98]⟩ 0 [.mk 1 2 ⟨#[]⟩ 0 []]].all fun y => mayB y 2)) = true
  rw [List.all_cons, List.all_cons, h3, h2]
  rfl
theorem tellA : (tellP exA).length = 8 := by
  unfold exA
  rw [tellP_3, tellP_2, tellP_5, tellP_1]
  rfl
theorem cut1_c (w : World) (hw : Env w) : Calls Tryz.prog 8 #[.string ⟨#[40, 97, 32, 43, 32, 98, 91, 50, 93, 41]⟩] w fun e w' => (∃ A c, e = .returned (.tuple #[.slice A 9 c, .nilIface]) ∧ kTok.Row w' A tk1) ∧ Below w.heap.size w w' := by
  have h := cut_any txt1 w hw
  rw [cut1] at h
  exact h
theorem cut2_c (w : World) (hw : Env w) : Calls Tryz.prog 8 #[.string ⟨#[40, 97, 32, 43, 32, 41]⟩] w fun e w' => (∃ A c, e = .returned (.tuple #[.slice A 5 c, .nilIface]) ∧ kTok.Row w' A tk2) ∧ Below w.heap.size w w' := by
  have h := cut_any txt2 w hw
  rw [cut2] at h
  exact h
theorem read1_c (A : Option Addr) (c : Nat) (w : World) (hr : kTok.Row w A tk1) (hsg : SgTab w) : Calls Tryz.prog 23 #[.slice A 9 c, .int .i64 0] w fun e w' => (∃ K k, e = .returned (.tuple #[.agg #[.int .u8 3, .int .u64 0, .string ⟨#[]⟩, .int .u8 1, .slice K 2 k], .int .i64 8, .nilIface]) ∧ kEx.Foot (fun m => w.heap.size ≤ m) w' exA (exL exA K k)) ∧ Below w.heap.size w w' := by
  have h := read_c tk1 A c 0 w hr (by decide) hsg
  rw [rd1] at h
  exact h
theorem read2_c (A : Option Addr) (c : Nat) (w : World) (hr : kTok.Row w A tk2) (hsg : SgTab w) : Calls Tryz.prog 23 #[.slice A 5 c, .int .i64 0] w fun e w' => e = .returned (.tuple #[.agg #[.int .u8 0, .int .u64 0, .string ⟨#[]⟩, .int .u8 0, .slice none 0 0], .int .i64 0, .iface 30 (.agg #[.int .i64 5, .int .i64 7])]) ∧ Below w.heap.size w w' := by
  have h := read_c tk2 A c 0 w hr (by decide) hsg
  unfold ReadR at h
  rw [rd2] at h
  exact h
end Go.Proofs.YtkflcmengddijaaGreatDoor
