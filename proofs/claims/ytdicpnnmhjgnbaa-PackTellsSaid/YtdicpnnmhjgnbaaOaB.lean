/- octet: rows, sums, what is known, heavy rows. -/
import Derived.Test.YtdicpnnmhjgnbaaOaA
namespace Go.Proofs.Ytdicpnnmhjgnbaa.FW
set_option linter.unusedVariables false
set_option linter.unusedSimpArgs false
theorem rows_len : ∀ p : List (List UInt8), p.length ≤ (p.flatMap encRow).length
  | [] => by simp
  | x :: p => by
    have h1 := rows_len p
    have h2 := enc_pos x.length
    simp only [List.flatMap_cons, List.length_append, List.length_cons, encRow]; omega
theorem wBytes_loop (w : List UInt8) (p : List (List UInt8)) (h : w.length + (p.flatMap encRow).length ≤ 100000000) : ∀ (d i : Nat), i + d = p.length →
    loopM (fun (k, f) => octet_Writer_Bytes_l0 p k f) ((i : Int), w ++ (p.take i).flatMap encRow) = some (w ++ p.flatMap encRow)
  | 0, i, hi => by
    obtain rfl : i = p.length := by omega
    rw [List.take_length]
    refine loopM_inr ?_
    simp only
    unfold octet_Writer_Bytes_l0
    rw [if_neg (by omega)]
  | d + 1, i, hi => by
    have h1 : i < p.length := by omega
    have h2 := flat_take_le encRow p (i + 1)
    have h4 : (p.take (i + 1)).flatMap encRow = (p.take i).flatMap encRow ++ encRow p[i] := by
      rw [List.take_succ_eq_append_getElem h1, List.flatMap_append]; simp only [List.flatMap_cons, List.flatMap_nil, List.append_nil]
    have h5 : (encRow p[i]).length = (enc p[i].length).length + p[i].length := by simp [encRow]
    rw [h4, List.length_append] at h2
    have h6 := enc_pos p[i].length
    have h7 := rows_len p
    rw [← wBytes_loop w p h d (i + 1) (by omega)]
    refine loopM_inl ?_
    simp only
    unfold octet_Writer_Bytes_l0
    have e1 : encs [((p[i].length : Nat) : Int)] = enc p[i].length := by
      simp only [encs, List.flatMap_cons, List.flatMap_nil, List.append_nil]; rw [clamp_nat _ (by omega)]
    rw [if_pos (by omega), at?_lt h1, Option.bind_some, wNums_eq _ _ (by simp only [List.length_append, List.length_cons, List.length_nil]; omega), Option.bind_some, e1,
      wRaw_eq _ _ (by simp only [List.length_append]; omega), Option.bind_some, cast_succ _ (by omega), h4]
    simp [encRow]
theorem wBytes_eq (w : List UInt8) (p : List (List UInt8)) (h : w.length + (p.flatMap encRow).length ≤ 100000000) : octet_Writer_Bytes w p = some (w ++ p.flatMap encRow) := by
  unfold octet_Writer_Bytes
  have := wBytes_loop w p h p.length 0 (by omega)
  rw [List.take_zero, List.flatMap_nil, List.append_nil] at this
  rw [show ((0 : Int), w) = (((0 : Nat) : Int), w) from rfl, this]; rfl
/-! ### Sums -/
def crc1 (v : UInt32) : UInt32 := (FW.shr32 v 1) ^^^ ((3988292384 : UInt32) &&& (0 - (v &&& (1 : UInt32))))
def crcN : Nat → UInt32 → UInt32
  | 0, v => v
  | n + 1, v => crcN n (crc1 v)
def crcB (v : UInt32) (b : UInt8) : UInt32 := crcN 8 (v ^^^ (ofI32 ((b.toNat : Nat) : Int)))
def crcL (v : UInt32) (l : List UInt8) : UInt32 := l.foldl crcB v
theorem crcN_loop : ∀ (d i : Nat) (v : UInt32), i + d = 8 → loopM (fun (v, k) => octet_Sum_l0 v k) (v, (i : Int)) = some (crcN d v)
  | 0, i, v, hi => by
    refine loopM_inr ?_
    simp only
    unfold octet_Sum_l0
    rw [if_neg (by omega)]; rfl
  | d + 1, i, v, hi => by
    have h1 : octet_Sum_l0 v (i : Int) = some (.inl (crc1 v, ((i + 1 : Nat) : Int))) := by
      unfold octet_Sum_l0
      rw [if_pos (by omega), cast_succ _ (by omega)]; rfl
    rw [loopM_inl (step := fun (v, k) => octet_Sum_l0 v k) (s := (v, (i : Int))) h1, crcN_loop d (i + 1) _ (by omega)]; rfl
theorem crcL_loop (x : List UInt8) (hx : x.length < 100000000000) : ∀ (d i : Nat) (v : UInt32), i + d = x.length → loopM (fun (v, k) => octet_Sum_l1 x v k) (v, (i : Int)) = some (crcL v (x.drop i))
  | 0, i, v, hi => by
    refine loopM_inr ?_
    simp only
    unfold octet_Sum_l1
    rw [if_neg (by omega), List.drop_eq_nil_of_le (by omega)]; rfl
  | d + 1, i, v, hi => by
    have h0 : i < x.length := by omega
    have h1 : octet_Sum_l1 x v (i : Int) = some (.inl (crcB v x[i], ((i + 1 : Nat) : Int))) := by
      unfold octet_Sum_l1
      have := crcN_loop 8 0 (v ^^^ (ofI32 ((x[i].toNat : Nat) : Int))) rfl
      rw [if_pos (by omega), at?_lt h0, Option.bind_some, show ((v ^^^ (ofI32 ((x[i].toNat : Nat) : Int))), (0 : Int)) = ((v ^^^ (ofI32 ((x[i].toNat : Nat) : Int))), ((0 : Nat) : Int)) from rfl, this, Option.bind_some, cast_succ _ (by omega)]; rfl
    rw [loopM_inl (step := fun (v, k) => octet_Sum_l1 x v k) (s := (v, (i : Int))) h1, crcL_loop x hx d (i + 1) _ (by omega), List.drop_eq_getElem_cons h0]; rfl
theorem crcP_loop (p : List (List UInt8)) (hp : p.length < 100000000000) (hx : ∀ x ∈ p, x.length < 100000000000) : ∀ (d i : Nat) (v : UInt32), i + d = p.length → loopM (fun (v, k) => octet_Sum_l2 p v k) (v, (i : Int)) = some (crcL v (p.drop i).flatten)
  | 0, i, v, hi => by
    refine loopM_inr ?_
    simp only
    unfold octet_Sum_l2
    rw [if_neg (by omega), List.drop_eq_nil_of_le (by omega)]; rfl
  | d + 1, i, v, hi => by
    have h0 : i < p.length := by omega
    have h1 : octet_Sum_l2 p v (i : Int) = some (.inl (crcL v p[i], ((i + 1 : Nat) : Int))) := by
      unfold octet_Sum_l2
      have := crcL_loop p[i] (hx _ (List.getElem_mem h0)) p[i].length 0 v (by omega)
      rw [if_pos (by omega), at?_lt h0, Option.bind_some, show (v, (0 : Int)) = (v, ((0 : Nat) : Int)) from rfl, this, Option.bind_some, cast_succ _ (by omega)]; rfl
    rw [loopM_inl (step := fun (v, k) => octet_Sum_l2 p v k) (s := (v, (i : Int))) h1, crcP_loop p hp hx d (i + 1) _ (by omega), List.drop_eq_getElem_cons h0, List.flatten_cons]
    simp [crcL]
theorem sum_eq (p : List (List UInt8)) (hp : p.length < 100000000000) (hx : ∀ x ∈ p, x.length < 100000000000) : octet_Sum p = some (~~~ (crcL 4294967295 p.flatten)) := by
  unfold octet_Sum
  rw [show ((4294967295 : UInt32), (0 : Int)) = ((4294967295 : UInt32), ((0 : Nat) : Int)) from rfl, crcP_loop p hp hx p.length 0 _ (by omega)]; rfl
theorem known_sum : ~~~ (crcL 4294967295 [49, 50, 51, 52, 53, 54, 55, 56, 57]) = (3421780262 : UInt32) := by decide +kernel
theorem known1_eq : winnowerlaw1_known = some true := by
  unfold winnowerlaw1_known
  have e1 : encs [1, 300] = [1, 172, 2] := by
    simp only [encs, List.flatMap_cons, List.flatMap_nil]
    rw [show clamp 1 = 1 from rfl, show clamp 300 = 300 from rfl, enc_small (by decide), enc_big (by decide), enc_small (by decide)]; rfl
  have e2 : ([[(97 : UInt8)]] : List (List UInt8)).flatMap encRow = [1, 97] := by
    simp only [List.flatMap_cons, List.flatMap_nil, encRow]
    rw [show [(97 : UInt8)].length = 1 from rfl, enc_small (by decide)]; rfl
  rw [wNums_eq _ _ (by decide), Option.bind_some, e1, List.nil_append, wBytes_eq _ _ (by rw [e2]; decide), Option.bind_some, e2, wOut_eq _ (by decide), Option.bind_some, same_eq _ _ (by decide), Option.bind_some]
  rw [if_pos (by decide), sum_eq _ (by decide) (by intro x hx; simp at hx; rcases hx with rfl | rfl <;> decide), Option.bind_some]
  have key : ∀ z : UInt32, z = 3421780262 → some (decide (((z.toNat : Nat) : Int) = (((3421780262 : UInt32).toNat : Nat) : Int))) = some true := by
    rintro _ rfl
    simp only [decide_true]
  refine key _ ?_
  simp only [List.flatten_cons, List.flatten_nil, List.cons_append, List.nil_append]
  exact known_sum
/-! ### Heavy rows -/
theorem heavy_loop (l : List (List UInt8)) (hr : ∀ x ∈ l, x.length ≤ 140737488351232) : ∀ (d i : Nat), i + d = l.length → weight (l.take i) ≤ 4000 →
    loopM (fun (n, i) => winnowerlaw1_heavyRows_l0 l n i) (((weight (l.take i) : Nat) : Int), (i : Int)) = some (.inl true) ∨
    (loopM (fun (n, i) => winnowerlaw1_heavyRows_l0 l n i) (((weight (l.take i) : Nat) : Int), (i : Int)) = some (.inr ()) ∧ weight l ≤ 4000)
  | 0, i, hi, hs => by
    obtain rfl : i = l.length := by omega
    rw [List.take_length] at *
    refine .inr ⟨loopM_inr ?_, hs⟩
    simp only
    unfold winnowerlaw1_heavyRows_l0
    rw [if_neg (by omega)]
  | d + 1, i, hi, hs => by
    have h1 : i < l.length := by omega
    have h2 := hr _ (List.getElem_mem h1)
    have h3 : weight (l.take (i + 1)) = weight (l.take i) + (3 + l[i].length) := by
      rw [weight_take_succ l h1]; simp [List.getD_eq_getElem?_getD, h1]
    have h4 := weight_count (l.take i)
    rw [List.length_take] at h4
    by_cases hb : ((l[i].length : Nat) : Int) > 4000
    · refine .inl (loopM_inr ?_)
      simp only
      unfold winnowerlaw1_heavyRows_l0
      rw [if_pos (by omega), at?_lt h1, Option.bind_some, if_pos hb]
    have hw : w64 (w64 (((weight (l.take i) : Nat) : Int) + 3) + ((l[i].length : Nat) : Int)) = ((weight (l.take (i + 1)) : Nat) : Int) := by
      rw [w64_id (n := ((weight (l.take i) : Nat) : Int) + 3) (by omega), w64_id (by omega), h3]; omega
    have step : winnowerlaw1_heavyRows_l0 l ((weight (l.take i) : Nat) : Int) (i : Int) = if ((weight (l.take (i + 1)) : Nat) : Int) > 4000 then some (.inr (.inl true)) else some (.inl (((weight (l.take (i + 1)) : Nat) : Int), ((i + 1 : Nat) : Int))) := by
      unfold winnowerlaw1_heavyRows_l0
      rw [if_pos (by omega), at?_lt h1, Option.bind_some, if_neg hb, hw, cast_succ _ (by omega)]
    by_cases hc : ((weight (l.take (i + 1)) : Nat) : Int) > 4000
    · rw [if_pos hc] at step
      exact .inl (loopM_inr step)
    · rw [if_neg hc] at step
      rw [loopM_inl (step := fun (n, i) => winnowerlaw1_heavyRows_l0 l n i) (s := (((weight (l.take i) : Nat) : Int), (i : Int))) (s' := (((weight (l.take (i + 1)) : Nat) : Int), ((i + 1 : Nat) : Int))) step]
      exact heavy_loop l hr d (i + 1) (by omega) (by omega)
theorem heavy_or (l : List (List UInt8)) (h : Rng.ok l) : winnowerlaw1_heavyRows l = some true ∨ (winnowerlaw1_heavyRows l = some false ∧ weight l ≤ 4000) := by
  have := heavy_loop l (fun x hx => (h.2 x hx).1) l.length 0 (by omega) (by simp [weight])
  rw [List.take_zero] at this
  unfold winnowerlaw1_heavyRows
  rw [show ((0 : Int), (0 : Int)) = (((weight ([] : List (List UInt8)) : Nat) : Int), ((0 : Nat) : Int)) from rfl]
  rcases this with h | ⟨h, h2⟩
  · rw [h]; exact .inl rfl
  · rw [h]; exact .inr ⟨rfl, h2⟩
end Go.Proofs.Ytdicpnnmhjgnbaa.FW
