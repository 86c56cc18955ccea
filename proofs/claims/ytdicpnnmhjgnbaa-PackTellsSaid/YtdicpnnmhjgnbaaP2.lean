/- Plain Lean for strings, bytes and numbers of no sign. -/
import Derived.Test.YtdicpnnmhjgnbaaP0
namespace Go.Proofs.Ytdicpnnmhjgnbaa.FW
/-- A string's byte. -/
def bat? (b : ByteArray) (i : Int) : Option UInt8 := if 0 ≤ i ∧ i < (b.size : Int) then some (b.data.toList.getD i.toNat 0) else none
theorem bat?_ok {b : ByteArray} {i : Int} {x : UInt8} (h : bat? b i = some x) : 0 ≤ i ∧ i < (b.size : Int) ∧ x = b.data.toList.getD i.toNat 0 := by
  unfold bat? at h
  split at h
  · rename_i hh; exact ⟨hh.1, hh.2, by simpa using h.symm⟩
  · cases h
/-- A string's part. -/
def subS? (b : ByteArray) (i j : Int) : Option ByteArray := if 0 ≤ i ∧ i ≤ j ∧ j ≤ (b.size : Int) then some (b.extract i.toNat j.toNat) else none
theorem subS?_ok {b c : ByteArray} {i j : Int} (h : subS? b i j = some c) : 0 ≤ i ∧ i ≤ j ∧ j ≤ (b.size : Int) ∧ c = b.extract i.toNat j.toNat := by
  unfold subS? at h
  split at h
  · rename_i hh; exact ⟨hh.1, hh.2.1, hh.2.2, by simpa using h.symm⟩
  · cases h
/-- Bytes as a string. -/
def strOf (l : List UInt8) : ByteArray := ⟨l.toArray⟩
/-- What is divided, what is left. -/
def quo? (i j : Int) : Option Int := if j = 0 then none else some (w64 (i.tdiv j))
def rem? (i j : Int) : Option Int := if j = 0 then none else some (i.tmod j)
/-- How far is shifted: never below nothing. -/
def amt? (j : Int) : Option Nat := if 0 ≤ j then some j.toNat else none
theorem amt?_ok {j : Int} {m : Nat} (h : amt? j = some m) : j = (m : Int) := by
  unfold amt? at h
  split at h
  · rename_i hh; have : j.toNat = m := by simpa using h
    omega
  · cases h
def iand (i j : Int) : Int := (BitVec.ofInt 64 i &&& BitVec.ofInt 64 j).toInt
def ior (i j : Int) : Int := (BitVec.ofInt 64 i ||| BitVec.ofInt 64 j).toInt
def ixor (i j : Int) : Int := (BitVec.ofInt 64 i ^^^ BitVec.ofInt 64 j).toInt
def ishl (i : Int) (m : Nat) : Int := w64 (i * 2 ^ (min m 64))
def ishr (i : Int) (m : Nat) : Int := i.fdiv (2 ^ (min m 64))
/-- A new slice. -/
def mk? {α : Type} (k : Nat) (n : Int) (z : α) : Option (List α) := if 0 ≤ n ∧ n * k ≤ 140737488355328 then some (List.replicate n.toNat z) else none
theorem mk?_ok {α : Type} {k : Nat} {n : Int} {z : α} {l : List α} (h : mk? k n z = some l) : 0 ≤ n ∧ n * k ≤ 140737488355328 ∧ l = List.replicate n.toNat z := by
  unfold mk? at h
  split at h
  · rename_i hh; exact ⟨hh.1, hh.2, by simpa using h.symm⟩
  · cases h
/-- A number of any sign as one of none. -/
def ofI8 (i : Int) : UInt8 := UInt8.ofNat (i % 256).toNat
def shl8 (a : UInt8) (m : Nat) : UInt8 := UInt8.ofNat (a.toNat * 2 ^ (min m 8) % 256)
def shr8 (a : UInt8) (m : Nat) : UInt8 := UInt8.ofNat (a.toNat / 2 ^ (min m 8))
/-- A number of any sign as one of none. -/
def ofI32 (i : Int) : UInt32 := UInt32.ofNat (i % 4294967296).toNat
def shl32 (a : UInt32) (m : Nat) : UInt32 := UInt32.ofNat (a.toNat * 2 ^ (min m 32) % 4294967296)
def shr32 (a : UInt32) (m : Nat) : UInt32 := UInt32.ofNat (a.toNat / 2 ^ (min m 32))
/-- A number of any sign as one of none. -/
def ofI64 (i : Int) : UInt64 := UInt64.ofNat (i % 18446744073709551616).toNat
def shl64 (a : UInt64) (m : Nat) : UInt64 := UInt64.ofNat (a.toNat * 2 ^ (min m 64) % 18446744073709551616)
def shr64 (a : UInt64) (m : Nat) : UInt64 := UInt64.ofNat (a.toNat / 2 ^ (min m 64))
end Go.Proofs.Ytdicpnnmhjgnbaa.FW
