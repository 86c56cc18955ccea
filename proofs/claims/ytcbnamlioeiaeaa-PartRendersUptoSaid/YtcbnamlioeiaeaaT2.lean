/- structs that may be compared: written by a program -/
import Derived.Test.YtcbnamlioeiaeaaX2
import Derived.Test.YtcbnamlioeiaeaaT
namespace Go.Proofs.Ytcbnamlioeiaeaa.FW
open Go Go.Proofs Go.RowKit
set_option linter.unusedSimpArgs false
instance eqa26 : EqA Try.prog 26 (Int × Int × Int) (fun x => [.int .i64 x.1, .int .i64 x.2.1, .int .i64 x.2.2]) := ⟨by kernel_rfl, fun w x y => by
  obtain ⟨a0, a1, a2⟩ := x
  obtain ⟨b0, b1, b2⟩ := y
  simp [go_sem, toList_inj]
  by_cases h0 : a0 = b0 <;> by_cases h1 : a1 = b1 <;> by_cases h2 : a2 = b2 <;> simp_all⟩
instance eqa27 : EqA Try.prog 27 (Int × Int × Int) (fun x => [.int .i64 x.1, .int .i64 x.2.1, .int .i64 x.2.2]) := ⟨by kernel_rfl, fun w x y => by
  obtain ⟨a0, a1, a2⟩ := x
  obtain ⟨b0, b1, b2⟩ := y
  simp [go_sem, toList_inj]
  by_cases h0 : a0 = b0 <;> by_cases h1 : a1 = b1 <;> by_cases h2 : a2 = b2 <;> simp_all⟩
instance eqa40 : EqA Try.prog 40 (Bool × ByteArray) (fun x => [.bool x.1, .string x.2]) := ⟨by kernel_rfl, fun w x y => by
  obtain ⟨a0, a1⟩ := x
  obtain ⟨b0, b1⟩ := y
  simp [go_sem, toList_inj]
  by_cases h0 : a0 = b0 <;> by_cases h1 : a1 = b1 <;> simp_all⟩
instance eqa41 : EqA Try.prog 41 (Bool × ByteArray) (fun x => [.bool x.1, .string x.2]) := ⟨by kernel_rfl, fun w x y => by
  obtain ⟨a0, a1⟩ := x
  obtain ⟨b0, b1⟩ := y
  simp [go_sem, toList_inj]
  by_cases h0 : a0 = b0 <;> by_cases h1 : a1 = b1 <;> simp_all⟩
instance eqa42 : EqA Try.prog 42 (Int × ByteArray) (fun x => [.int .i64 x.1, .string x.2]) := ⟨by kernel_rfl, fun w x y => by
  obtain ⟨a0, a1⟩ := x
  obtain ⟨b0, b1⟩ := y
  simp [go_sem, toList_inj]
  by_cases h0 : a0 = b0 <;> by_cases h1 : a1 = b1 <;> simp_all⟩
instance eqa43 : EqA Try.prog 43 (Int × ByteArray) (fun x => [.int .i64 x.1, .string x.2]) := ⟨by kernel_rfl, fun w x y => by
  obtain ⟨a0, a1⟩ := x
  obtain ⟨b0, b1⟩ := y
  simp [go_sem, toList_inj]
  by_cases h0 : a0 = b0 <;> by_cases h1 : a1 = b1 <;> simp_all⟩
end Go.Proofs.Ytcbnamlioeiaeaa.FW
