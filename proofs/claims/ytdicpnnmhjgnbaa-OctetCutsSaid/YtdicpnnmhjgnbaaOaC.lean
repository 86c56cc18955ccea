/- octet: rows that are cut short. -/
import Derived.Test.YtdicpnnmhjgnbaaOaB
import Derived.Test.YtdicpnnmhjgnbaaOcK1
namespace Go.Proofs.Ytdicpnnmhjgnbaa.FW
set_option linter.unusedVariables false
set_option linter.unusedSimpArgs false
theorem dec_cut (n : Nat) : ∀ (k i a : Nat), k < (enc n).length → decGo i a ((enc n).take k) = none := by
  induction n using Nat.strongRecOn with
  | _ n ih =>
    intro k i a hk
    cases k with
    | zero => rw [List.take_zero, decGo]
    | succ k =>
      by_cases h : n < 128
      · rw [enc_small h] at hk; simp at hk
      · rw [enc_big h] at hk ⊢
        have hc : (UInt8.ofNat (n % 128 + 128)).toNat = n % 128 + 128 := by simp only [UInt8.toNat_ofNat']; omega
        rw [List.take_succ_cons, decGo, hc]
        split
        · rfl
        · rw [if_neg (by omega)]
          exact ih (n / 128) (by omega) k _ _ (by simpa using hk)
theorem bytes_whole (r rest : List UInt8) (b : Bool) (h : r.length ≤ 4611686018427387904) : bytesB (encRow r ++ rest, b) = ((rest, b), r) := by
  unfold bytesB numB
  simp only [dec_row r rest h]
  unfold rawB
  simp only
  rw [if_pos (by rw [List.length_append]; omega), Int.toNat_natCast, List.drop_left, List.take_left]
theorem bytes_bad : bytesB ([], true) = (([], true), []) := rfl
theorem bytes_cut (r : List UInt8) (k : Nat) (b : Bool) (h : r.length ≤ 4611686018427387904) (hk : k < (encRow r).length) : bytesB ((encRow r).take k, b) = (([], true), []) := by
  by_cases hq : k < (enc r.length).length
  · have : (encRow r).take k = (enc r.length).take k := by unfold encRow; rw [List.take_append_of_le_length (by omega)]
    unfold bytesB numB dec
    simp only [this, dec_cut _ k 0 0 hq]
    rfl
  · have : (encRow r).take k = enc r.length ++ r.take (k - (enc r.length).length) := by
      unfold encRow; rw [List.take_append, List.take_of_length_le (by omega)]
    have hlen : (encRow r).length = (enc r.length).length + r.length := by simp [encRow]
    unfold bytesB numB
    simp only [this, dec_enc _ _ h]
    unfold rawB
    simp only
    rw [if_neg (by rw [List.length_take]; omega)]
/-- Where a row begins. -/
def begOf (l : List (List UInt8)) (i : Nat) : Nat := ((l.take i).flatMap encRow).length
theorem begOf_succ (l : List (List UInt8)) (i : Nat) (h : i < l.length) : begOf l (i + 1) = begOf l i + (encRow l[i]).length := by
  unfold begOf
  rw [List.take_succ_eq_append_getElem h, List.flatMap_append, List.length_append]; simp only [List.flatMap_cons, List.flatMap_nil, List.append_nil]
theorem drop_beg (l : List (List UInt8)) (i : Nat) : (l.flatMap encRow).drop (begOf l i) = (l.drop i).flatMap encRow := by
  conv => lhs; rw [← List.take_append_drop i l, List.flatMap_append]
  unfold begOf
  rw [List.take_append_drop, List.drop_left]
/-- The reader ahead of a row. -/
def stAt (l : List (List UInt8)) (cut i : Nat) : Rd := if begOf l i ≤ cut then (((l.flatMap encRow).take cut).drop (begOf l i), false) else ([], true)
theorem st_next (l : List (List UInt8)) (cut i : Nat) (hi : i < l.length) (hl : l[i].length ≤ 4611686018427387904) :
    bytesB (stAt l cut i) = (stAt l cut (i + 1), if begOf l (i + 1) ≤ cut then l[i] else []) := by
  have hs := begOf_succ l i hi
  have hd : (l.flatMap encRow).drop (begOf l i) = encRow l[i] ++ (l.drop (i + 1)).flatMap encRow := by
    rw [drop_beg, List.drop_eq_getElem_cons hi, List.flatMap_cons]
  unfold stAt
  by_cases h1 : begOf l i ≤ cut
  · rw [if_pos h1, List.drop_take, hd]
    by_cases h2 : begOf l (i + 1) ≤ cut
    · rw [if_pos h2, if_pos h2, List.take_append, List.take_of_length_le (by omega), bytes_whole _ _ _ hl, List.drop_take, drop_beg]
      congr 3; omega
    · rw [if_neg h2, if_neg h2, List.take_append_of_le_length (by omega), bytes_cut _ _ _ hl (by omega)]
  · rw [if_neg h1, if_neg (by omega), if_neg (by omega), bytes_bad]
def endsOf (l : List (List UInt8)) (n : Nat) : List Int := (List.range n).map fun k => ((begOf l (k + 1) : Nat) : Int)
theorem endsOf_succ (l : List (List UInt8)) (n : Nat) : endsOf l (n + 1) = endsOf l n ++ [((begOf l (n + 1) : Nat) : Int)] := by
  unfold endsOf; rw [List.range_succ, List.map_append]; rfl
theorem cuts_l0 (l : List (List UInt8)) (h : (l.flatMap encRow).length ≤ 1000000) : ∀ (d i : Nat), i + d = l.length →
    loopM (fun (a, e, k) => winnowerlaw1_OctetCuts_l0 l a e k) ((l.take i).flatMap encRow, endsOf l i, (i : Int)) = some (l.flatMap encRow, endsOf l l.length)
  | 0, i, hi => by
    obtain rfl : i = l.length := by omega
    rw [List.take_length]
    refine loopM_inr ?_
    simp only
    unfold winnowerlaw1_OctetCuts_l0
    rw [if_neg (by omega)]
  | d + 1, i, hi => by
    have h1 : i < l.length := by omega
    have h2 := flat_take_le encRow l (i + 1)
    have h4 : (l.take (i + 1)).flatMap encRow = (l.take i).flatMap encRow ++ encRow l[i] := by
      rw [List.take_succ_eq_append_getElem h1, List.flatMap_append]; simp only [List.flatMap_cons, List.flatMap_nil, List.append_nil]
    rw [h4, List.length_append] at h2
    have h5 : (encRow l[i]).length = (enc l[i].length).length + l[i].length := by simp [encRow]
    have h6 := rows_len l
    rw [← cuts_l0 l h d (i + 1) (by omega)]
    refine loopM_inl ?_
    simp only
    unfold winnowerlaw1_OctetCuts_l0
    rw [if_pos (by omega), at?_lt h1, Option.bind_some, rBytes_eq _ (by omega), Option.bind_some, app_sm (by decide) (by omega), Option.bind_some, app_sm (by decide) (by simp [endsOf]; omega), Option.bind_some, cast_succ _ (by omega), h4, endsOf_succ]
    unfold begOf
    rw [h4]
theorem cuts_l1 (l : List (List UInt8)) (cut : Nat) (hw : weight l ≤ 4000) (h : (l.flatMap encRow).length ≤ 1000000) : ∀ (d i : Nat), i + d = l.length →
    loopM (fun (k, f, f1) => winnowerlaw1_OctetCuts_l1 l (endsOf l l.length) (cut : Int) k f f1) ((i : Int), (stAt l cut i).1, (stAt l cut i).2) = some (.inr (stAt l cut l.length))
  | 0, i, hi => by
    obtain rfl : i = l.length := by omega
    refine loopM_inr ?_
    simp only
    unfold winnowerlaw1_OctetCuts_l1
    rw [if_neg (by omega)]
  | d + 1, i, hi => by
    have h1 : i < l.length := by omega
    have h6 := rows_len l
    have hl := weight_row (rows := l) h1
    have hl2 : l.getD i [] = l[i] := by simp [List.getD_eq_getElem?_getD, h1]
    rw [hl2] at hl
    have hlen : (stAt l cut i).1.length < 1000000000 := by
      unfold stAt
      split
      · simp only [List.length_drop, List.length_take]; omega
      · simp
    rw [← cuts_l1 l cut hw h d (i + 1) (by omega)]
    refine loopM_inl ?_
    simp only
    unfold winnowerlaw1_OctetCuts_l1
    have e1 : octet_Reader_Bytes ((stAt l cut i).1, (stAt l cut i).2) = some (bytesB (stAt l cut i)) := bytes_eq _ hlen
    have hat : at? (endsOf l l.length) (i : Int) = some ((begOf l (i + 1) : Nat) : Int) := by
      refine at?_some ?_
      simp [endsOf, h1]
    rw [if_pos (by omega), e1, Option.bind_some, hat, Option.bind_some, st_next l cut i h1 (by omega), at?_lt h1]
    simp only [Option.bind_some]
    have e2 : ∀ r : Rd, octet_Reader_Good (r.1, r.2) = some (r, !r.2) := fun r => rfl
    have e3 : ∀ r : Rd, octet_Reader_Left (r.1, r.2) = some (r, ((r.1.length : Nat) : Int)) := fun r => rfl
    by_cases h2 : begOf l (i + 1) ≤ cut
    · rw [if_pos h2, if_pos (by omega), same_eq _ _ (by omega), Option.bind_some, decide_eq_true rfl, if_pos rfl, e2, Option.bind_some]
      have hg : (stAt l cut (i + 1)).2 = false := by unfold stAt; rw [if_pos h2]
      simp only [hg]
      rw [if_pos (by decide), cast_succ _ (by omega)]
    · rw [if_neg h2, if_neg (by omega), if_neg (by simp), e2, Option.bind_some]
      have hg : stAt l cut (i + 1) = ([], true) := by unfold stAt; rw [if_neg h2]
      simp only [hg]
      rw [if_neg (by decide), e3 ([], true), Option.bind_some, if_neg (by simp), cast_succ _ (by omega)]
theorem iand_mask (x : Int) : ∃ k : Nat, iand x 1073741823 = (k : Int) ∧ k < 1073741824 := by
  unfold iand
  have h1 : (BitVec.ofInt 64 x &&& BitVec.ofInt 64 1073741823).toNat = (BitVec.ofInt 64 x).toNat % 1073741824 := by
    rw [BitVec.toNat_and]
    exact Nat.and_two_pow_sub_one_eq_mod _ 30
  have h2 : (BitVec.ofInt 64 x).toNat % 1073741824 < 1073741824 := Nat.mod_lt _ (by decide)
  refine ⟨(BitVec.ofInt 64 x).toNat % 1073741824, ?_, h2⟩
  rw [BitVec.toInt_eq_toNat_of_lt (by rw [h1]; omega), h1]
theorem rem_nat (k n : Nat) (h : 0 < n) : rem? (k : Int) (n : Int) = some ((k % n : Nat) : Int) := by
  unfold rem?
  rw [if_neg (by omega)]
  exact congrArg some (by rw [Int.tmod_eq_emod_of_nonneg (by omega)]; rfl)
theorem winnowerlaw1_OctetCuts_true (l : List (List UInt8)) (at_ : Int) (h0 : Rng.ok l) (h1 : Rng.ok at_) : winnowerlaw1_OctetCuts l at_ = some true := by
  unfold winnowerlaw1_OctetCuts
  rcases heavy_or l h0 with e0 | ⟨e0, hw⟩
  · rw [e0]; rfl
  rw [e0, Option.bind_some, if_neg (by simp)]
  by_cases hz : l.length = 0
  · rw [if_pos (by omega)]
  have hf := flat_weight l hw
  have hn := rows_len l
  rw [if_neg (by omega)]
  have s0 := cuts_l0 l (by omega) l.length 0 (by omega)
  rw [List.take_zero, List.flatMap_nil, show endsOf l 0 = [] from rfl] at s0
  rw [show (([] : List UInt8), ([] : List Int), (0 : Int)) = ([], [], ((0 : Nat) : Int)) from rfl, s0, Option.bind_some]
  simp only
  obtain ⟨k, hk, hk2⟩ := iand_mask at_
  rw [hk, rem_nat k _ (by omega), Option.bind_some]
  generalize hcut : k % (l.flatMap encRow).length = cut
  have hlt : cut < (l.flatMap encRow).length := by rw [← hcut]; exact Nat.mod_lt _ (by omega)
  rw [sub_eq (by omega), Option.bind_some, Int.toNat_natCast, newReader_eq _ (by simp only [List.length_drop, List.length_take]; omega), Option.bind_some]
  have s1 := cuts_l1 l cut hw (by omega) l.length 0 (by omega)
  have hst0 : stAt l cut 0 = ((l.flatMap encRow).take cut, false) := by
    unfold stAt
    have : begOf l 0 = 0 := rfl
    rw [this, if_pos (by omega), List.drop_zero]
  rw [hst0] at s1
  simp only [Int.toNat_zero, List.drop_zero]
  rw [show ((0 : Int), (l.flatMap encRow).take cut, false) = (((0 : Nat) : Int), (l.flatMap encRow).take cut, false) from rfl, s1, Option.bind_some, Sum.elim_inr]
  have hend : stAt l cut l.length = ([], true) := by
    unfold stAt
    have : begOf l l.length = (l.flatMap encRow).length := by unfold begOf; rw [List.take_length]
    rw [if_neg (by omega)]
  rw [hend]
  have e1 : octet_Reader_Whole (([] : List UInt8), true) = some (([], true), false) := rfl
  have e2 : octet_Reader_Num (([] : List UInt8), true) = some (([], true), 0) := num_eq _ (by decide)
  simp only [e1, Option.bind_some]
  rw [if_neg (by decide), e2, Option.bind_some, if_pos rfl, known1_eq]; rfl
end Go.Proofs.Ytdicpnnmhjgnbaa.FW
