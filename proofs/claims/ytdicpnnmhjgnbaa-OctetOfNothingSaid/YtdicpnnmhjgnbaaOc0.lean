/- Numbers as bytes, in plain lists. -/
import Derived.Test.YtdicpnnmhjgnbaaF6
namespace Go.Proofs.Ytdicpnnmhjgnbaa.FW
open Go Go.RowKit
set_option linter.unusedVariables false
/-- A number as bytes. -/
def enc (u : Nat) : List UInt8 := if h : u < 128 then [UInt8.ofNat u] else UInt8.ofNat (u % 128 + 128) :: enc (u / 128)
termination_by u
decreasing_by omega
theorem enc_small {u : Nat} (h : u < 128) : enc u = [UInt8.ofNat u] := by rw [enc, dif_pos h]
theorem enc_big {u : Nat} (h : ¬ u < 128) : enc u = UInt8.ofNat (u % 128 + 128) :: enc (u / 128) := by rw [enc, dif_neg h]
def clamp (x : Int) : Nat := (max 0 (min x 4611686018427387904)).toNat
def encs (xs : List Int) : List UInt8 := xs.flatMap fun x => enc (clamp x)
def icells (l : List Int) : List Value := l.map fun x => .int .i64 x
theorem enc_length (u : Nat) : ∀ k, u < 128 ^ (k + 1) → (enc u).length ≤ k + 1 := by
  induction u using Nat.strongRecOn with
  | _ u ih =>
    intro k hk
    by_cases h : u < 128
    · rw [enc_small h]; simp
    · rw [enc_big h]
      cases k with
      | zero => simp at hk; omega
      | succ k =>
        have := ih (u / 128) (by omega) k (by rw [Nat.pow_succ] at hk; omega)
        simp only [List.length_cons]; omega
theorem clamp_le (x : Int) : clamp x ≤ 4611686018427387904 := by unfold clamp; omega
theorem enc_clamp_length (x : Int) : (enc (clamp x)).length ≤ 9 :=
  enc_length _ 8 (Nat.lt_of_le_of_lt (clamp_le x) (by decide))
theorem byte_plain (u : Nat) : IntKind.u8.wrap (u : Int) = ((UInt8.ofNat u).toNat : Int) := by
  rw [IntKind.wrap_u8]
  simp
theorem or_aux : ∀ y : Fin 256, (BitVec.ofNat 8 y.val ||| BitVec.ofNat 8 128).toNat = y.val % 128 + 128 := by decide +kernel
theorem byte_more (u : Nat) : IntKind.u8.wrap ((BitVec.ofInt IntKind.u8.bits (IntKind.u8.wrap (u : Int)) ||| BitVec.ofInt IntKind.u8.bits 128).toNat : Int) = ((UInt8.ofNat (u % 128 + 128)).toNat : Int) := by
  show IntKind.u8.wrap ((BitVec.ofInt 8 (IntKind.u8.wrap (u : Int)) ||| BitVec.ofInt 8 128).toNat : Int) = _
  have h1 : (BitVec.ofNat 8 (u % 256) ||| BitVec.ofNat 8 128).toNat = (u % 256) % 128 + 128 := or_aux ⟨u % 256, by omega⟩
  have h2 : BitVec.ofInt 8 (IntKind.u8.wrap (u : Int)) = BitVec.ofNat 8 (u % 256) := by
    rw [IntKind.wrap_u8]
    have : ((u : Int) % 256) = ((u % 256 : Nat) : Int) := by omega
    rw [this]
    rfl
  have h3 : BitVec.ofInt 8 128 = BitVec.ofNat 8 128 := rfl
  rw [h2, h3, h1, IntKind.wrap_u8]
  simp only [UInt8.toNat_ofNat']
  omega
theorem bcells_small {u : Nat} (h : u < 256) : bcells [UInt8.ofNat u] = [.int .u8 (u : Int)] := by
  simp only [bcells, List.map_cons, List.map_nil, UInt8.toNat_ofNat']
  rw [Nat.mod_eq_of_lt (by omega)]
theorem bcells_append (a b : List UInt8) : bcells (a ++ b) = bcells a ++ bcells b := by simp [bcells]
theorem bcells_length (a : List UInt8) : (bcells a).length = a.length := by simp [bcells]
theorem icells_length (a : List Int) : (icells a).length = a.length := by simp [icells]
theorem icells_get {a : List Int} {i : Nat} (h : i < a.length) : (icells a)[i]? = some (.int .i64 (a.getD i 0)) := by
  simp [icells, h, List.getD_eq_getElem?_getD]
theorem bcells_get {a : List UInt8} {i : Nat} (h : i < a.length) : (bcells a)[i]? = some (.int .u8 ((a.getD i 0).toNat : Int)) := by
  simp [bcells, h, List.getD_eq_getElem?_getD]
theorem clamp_eq (x : Int) : (if (if 4611686018427387904 < x then 4611686018427387904 else x) > 0 then if 4611686018427387904 < x then 4611686018427387904 else x else 0) = ((clamp x : Nat) : Int) := by
  unfold clamp; split <;> split at * <;> omega
theorem flatten_take_succ {α : Type} (rows : List (List α)) {i : Nat} (h : i < rows.length) : (rows.take (i + 1)).flatten = (rows.take i).flatten ++ rows.getD i [] := by
  rw [List.take_succ_eq_append_getElem h]
  have h2 : rows.getD i [] = rows[i] := by simp [List.getD_eq_getElem?_getD, h]
  rw [h2, List.flatten_append, List.flatten_cons, List.flatten_nil, List.append_nil]
theorem encs_take_succ {xs : List Int} {i : Nat} (h : i < xs.length) : encs (xs.take (i + 1)) = encs (xs.take i) ++ enc (clamp (xs.getD i 0)) := by
  rw [List.take_succ_eq_append_getElem h]
  have h2 : xs.getD i 0 = xs[i] := by simp [List.getD_eq_getElem?_getD, h]
  rw [h2]
  simp only [encs, List.flatMap_append, List.flatMap_cons, List.flatMap_nil, List.append_nil]
theorem encs_length (xs : List Int) : (encs xs).length ≤ 9 * xs.length := by
  induction xs with
  | nil => simp [encs]
  | cons x r ih =>
    have := enc_clamp_length x
    simp only [encs, List.flatMap_cons, List.length_append, List.length_cons] at ih ⊢
    omega
end Go.Proofs.Ytdicpnnmhjgnbaa.FW
