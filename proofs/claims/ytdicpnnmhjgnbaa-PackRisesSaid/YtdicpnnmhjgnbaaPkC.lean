/- pack's laws, as plain Lean: each answers true. -/
import Derived.Test.YtdicpnnmhjgnbaaPkB
import Derived.Test.YtdicpnnmhjgnbaaPkK1
namespace Go.Proofs.Ytdicpnnmhjgnbaa.FW
set_option linter.unusedVariables false
set_option linter.unusedSimpArgs false
theorem winnowerlaw16_PackBack_true (l : List Int) (h0 : Rng.ok l) : winnowerlaw16_PackBack l = some true := by
  unfold winnowerlaw16_PackBack
  by_cases hl : ((l.length : Nat) : Int) > 400
  · rw [if_pos hl]
  rw [if_neg hl]
  let p : Nat → Bool := fun i => okNum (l[i]?.getD 0)
  rw [loop_all0 (n := l.length) (step := fun i => winnowerlaw16_PackBack_l0 l i) p (.inr ()) (.inl true) (fun i hi => by
    unfold winnowerlaw16_PackBack_l0
    simp only [p, List.getElem?_eq_getElem hi, Option.getD_some]
    rw [if_pos (by omega), at?_lt hi, Option.bind_some, cast_succ _ (by omega), known16_eq]
    by_cases h1 : l[i] < 0
    · rw [if_pos h1]; simp [okNum, show ¬ 0 ≤ l[i] by omega]
    · rw [if_neg h1]
      by_cases h2 : l[i] > 1099511627776
      · rw [if_pos h2]; simp [okNum, show ¬ l[i] ≤ 1099511627776 by omega]
      · rw [if_neg h2]; simp [okNum, show 0 ≤ l[i] by omega, show l[i] ≤ 1099511627776 by omega]) (by
    unfold winnowerlaw16_PackBack_l0
    rw [if_neg (by omega)])]
  cases hp : allF p 0 l.length with
  | false => rfl
  | true =>
    have hm : mayB l = true := by
      rw [mayB_iff]
      refine ⟨by omega, fun i hi => ?_⟩
      have := allF_iff.1 hp i (by omega) (by omega)
      simp only [p, List.getElem?_eq_getElem hi, Option.getD_some] at this
      exact of_decide_eq_true this
    rw [if_pos rfl, Option.bind_some, Sum.elim_inr]
    obtain ⟨b0, t0, d0⟩ := decode_ok 0 l hm (.inl rfl)
    obtain ⟨b1, t1, d1⟩ := decode_ok 1 l hm (.inr (.inl rfl))
    obtain ⟨b2, t2, d2⟩ := decode_ok 2 l hm (.inr (.inr rfl))
    obtain ⟨b3, t3, d3, hmin⟩ := best_is l hm
    have m0 := hmin 0 b0 (.inl rfl) t0
    have m1 := hmin 1 b1 (.inr (.inl rfl)) t1
    have m2 := hmin 2 b2 (.inr (.inr rfl)) t2
    have e0 : pack_Plain l = some (b0, 0) := by unfold pack_Plain; rw [t0]; rfl
    have e1 : pack_Delta l = some (b1, 0) := by unfold pack_Delta; rw [t1]; rfl
    have e2 : pack_Runs l = some (b2, 0) := by unfold pack_Runs; rw [t2]; rfl
    rw [e0, Option.bind_some, e1, Option.bind_some, e2, Option.bind_some, t3, Option.bind_some]
    rw [loop_end (n := 4) (step := fun i1 => winnowerlaw16_PackBack_l1 l (b0, 0) (b1, 0) (b2, 0) (b3, 0) i1) (.inr ()) (fun i hi => by
      unfold winnowerlaw16_PackBack_l1
      have hk : ∃ b, ([b0, b1, b2, b3] : List (List UInt8))[i]? = some b ∧ pack_Decode b = some (l, 0) ∧ b3.length ≤ b.length := by
        match i, hi with
        | 0, _ => exact ⟨b0, rfl, d0, m0⟩
        | 1, _ => exact ⟨b1, rfl, d1, m1⟩
        | 2, _ => exact ⟨b2, rfl, d2, m2⟩
        | 3, _ => exact ⟨b3, rfl, d3, Nat.le_refl _⟩
      obtain ⟨b, k1, k2, k3⟩ := hk
      rw [if_pos (by omega), at?_some k1, Option.bind_some, k2, Option.bind_some]
      simp only
      rw [if_neg (by simp), numbers_eq l (by omega), Option.bind_some, if_pos rfl, if_neg (by omega), cast_succ _ (by omega)]) (by
      unfold winnowerlaw16_PackBack_l1
      rw [if_neg (by decide)])]
    rw [Option.bind_some, Sum.elim_inr]
    simp only
    rw [if_pos trivial, known16_eq]; rfl
theorem runs_fill (n : Nat) (v : Int) (hn : n ≤ 40000) : ∀ (d i : Nat), i + d = n →
    loopM (fun (i, l) => winnowerlaw16_PackRuns_l0 (n : Int) v i l) ((i : Int), List.replicate i v ++ List.replicate (n - i) 0) = some (List.replicate n v)
  | 0, i, hi => by
    obtain rfl : i = n := by omega
    rw [Nat.sub_self, List.replicate_zero, List.append_nil]
    refine loopM_inr ?_
    simp only
    unfold winnowerlaw16_PackRuns_l0
    rw [if_neg (by omega)]
  | d + 1, i, hi => by
    rw [← runs_fill n v hn d (i + 1) (by omega)]
    refine loopM_inl ?_
    simp only
    unfold winnowerlaw16_PackRuns_l0
    have e : n - i = (n - (i + 1)) + 1 := by omega
    have h1 : i < (List.replicate i v ++ List.replicate (n - i) (0 : Int)).length := by simp; omega
    rw [if_pos (by omega), at?_lt h1, Option.bind_some]
    unfold set?
    rw [if_pos (by omega), Option.bind_some, cast_succ _ (by omega), Int.toNat_natCast, List.set_append_right _ _ (by simp), List.length_replicate, Nat.sub_self, e, List.replicate_succ, List.set_cons_zero, List.replicate_succ', List.append_assoc]
    rfl
theorem winnowerlaw16_PackRuns_true (n v : Int) (h0 : Rng.ok n) (h1 : Rng.ok v) : winnowerlaw16_PackRuns n v = some true := by
  unfold winnowerlaw16_PackRuns
  by_cases c1 : n < 0
  · rw [if_pos c1]
  rw [if_neg c1]
  by_cases c2 : n > 40000
  · rw [if_pos c2]
  rw [if_neg c2]
  by_cases c3 : v < 0
  · rw [if_pos c3]
  rw [if_neg c3]
  by_cases c4 : v > 1099511627776
  · rw [if_pos c4]
  rw [if_neg c4]
  obtain ⟨k, rfl⟩ : ∃ k : Nat, n = (k : Int) := ⟨n.toNat, by omega⟩
  have hmk : mk? 8 (k : Int) (0 : Int) = some (List.replicate k 0) := by
    unfold mk?
    rw [if_pos (by omega), Int.toNat_natCast]
  have s := runs_fill k v (by omega) k 0 (by omega)
  rw [List.replicate_zero, List.nil_append, Nat.sub_zero] at s
  rw [hmk, Option.bind_some, show ((0 : Int), List.replicate k (0 : Int)) = (((0 : Nat) : Int), List.replicate k 0) from rfl, s, Option.bind_some]
  by_cases c5 : k > 32768
  · have hm : mayB (List.replicate k v) = false := by
      unfold mayB
      rw [List.length_replicate, decide_eq_false (by omega)]; rfl
    rw [best_no _ hm, Option.bind_some, if_pos (by omega)]
    simp only
    rw [if_pos (show ((([] : List UInt8).length : Nat) : Int) = 0 from rfl), if_pos trivial, known16_eq]; rfl
  · have hm : mayB (List.replicate k v) = true := by
      rw [mayB_iff]
      refine ⟨by rw [List.length_replicate]; omega, fun i hi => ?_⟩
      rw [List.getElem_replicate]; omega
    obtain ⟨b, t, d, hmin⟩ := best_is _ hm
    have m := hmin 2 _ (.inr (.inr rfl)) (told_alike k v (by omega) hm)
    have hlen : b.length ≤ 12 := by
      refine Nat.le_trans m ?_
      split
      · have := encs_length [2, 0]
        simp only [encs, List.flatMap_cons, List.flatMap_nil]
        rw [enc_small_int 2 (by decide), enc_small_int 0 (by decide)]; decide
      · simp only [encs, List.flatMap_cons, List.flatMap_nil]
        rw [enc_small_int 2 (by decide), enc_small_int 1 (by decide)]
        have k1 := enc_length (clamp (k : Int)) 2 (by unfold clamp; omega)
        have k2 := enc_length (clamp v) 5 (by unfold clamp; omega)
        simp only [List.length_append, List.length_cons, List.length_nil]
        omega
    rw [t, Option.bind_some, if_neg (by omega)]
    simp only
    rw [d, Option.bind_some, if_pos rfl]
    simp only
    rw [if_pos trivial, numbers_eq _ (by rw [List.length_replicate]; omega), Option.bind_some, if_pos rfl, if_pos (by omega), known16_eq]; rfl
theorem iand31 (x : Int) : 0 ≤ iand x 31 ∧ iand x 31 ≤ 31 := by
  unfold iand
  have h1 : (BitVec.ofInt 64 x &&& BitVec.ofInt 64 31).toNat = (BitVec.ofInt 64 x).toNat % 32 := by
    rw [BitVec.toNat_and]
    exact Nat.and_two_pow_sub_one_eq_mod _ 5
  have h2 : (BitVec.ofInt 64 x).toNat % 32 < 32 := Nat.mod_lt _ (by decide)
  rw [BitVec.toInt_eq_toNat_of_lt (by rw [h1]; omega), h1]
  omega
/-- The numbers that rise. -/
def Rising (from_ : Int) (l : List Int) (n : Nat) : Prop := l.length = n + 1 ∧ l[0]? = some from_ ∧ (∀ (i : Nat) (x : Int), l[i]? = some x → from_ ≤ x ∧ x ≤ from_ + 31 * (i : Int)) ∧ ∀ (i : Nat) (x y : Int), l[i]? = some x → l[i + 1]? = some y → 0 ≤ y - x ∧ y - x ≤ 31
theorem rises_loop (from_ : Int) (hf : 0 ≤ from_ ∧ from_ ≤ 549755813888) (steps : List Int) (hs : steps.length ≤ 300) : ∀ (d i : Nat) (l : List Int), i + d = steps.length → Rising from_ l i →
    ∃ l', loopM (fun (l, i) => winnowerlaw16_PackRises_l0 steps l i) (l, (i : Int)) = some l' ∧ Rising from_ l' steps.length
  | 0, i, l, hi, hl => by
    obtain rfl : i = steps.length := by omega
    refine ⟨l, loopM_inr ?_, hl⟩
    simp only
    unfold winnowerlaw16_PackRises_l0
    rw [if_neg (by omega)]
  | d + 1, i, l, hi, hl => by
    have h1 : i < steps.length := by omega
    obtain ⟨r1, r2, r3, r4⟩ := hl
    have h2 : i < l.length := by omega
    have h3 := r3 i l[i] (by simp [h2])
    have h4 := iand31 steps[i]
    have step : winnowerlaw16_PackRises_l0 steps l (i : Int) = some (.inl (l ++ [l[i] + iand steps[i] 31], ((i + 1 : Nat) : Int))) := by
      unfold winnowerlaw16_PackRises_l0
      rw [if_pos (by omega), at?_lt h1, Option.bind_some, at?_lt h2, Option.bind_some, w64_id (by omega), app_sm (by decide) (by simp only [List.length_cons, List.length_nil]; omega), Option.bind_some, cast_succ _ (by omega)]
    have hnext : Rising from_ (l ++ [l[i] + iand steps[i] 31]) (i + 1) := by
      refine ⟨by simp [r1], ?_, fun j x hx => ?_, fun j x y hx hy => ?_⟩
      · rw [List.getElem?_append_left (by omega)]; exact r2
      · rcases Nat.lt_or_ge j l.length with h | h
        · rw [List.getElem?_append_left h] at hx
          exact r3 j x hx
        · have hj : j = i + 1 := by
            have := (List.getElem?_eq_some_iff.1 hx).1
            simp at this; omega
          subst hj
          rw [List.getElem?_append_right (by omega), r1, Nat.sub_self] at hx
          simp only [List.getElem?_cons_zero, Option.some.injEq] at hx
          omega
      · rcases Nat.lt_or_ge (j + 1) l.length with h | h
        · rw [List.getElem?_append_left (by omega)] at hx
          rw [List.getElem?_append_left h] at hy
          exact r4 j x y hx hy
        · have hj : j = i := by
            have := (List.getElem?_eq_some_iff.1 hy).1
            simp at this; omega
          subst hj
          rw [List.getElem?_append_right (by omega), r1, Nat.sub_self] at hy
          rw [List.getElem?_append_left h2, List.getElem?_eq_getElem h2] at hx
          simp only [List.getElem?_cons_zero, Option.some.injEq] at hx hy
          omega
    obtain ⟨l', e1, e2⟩ := rises_loop from_ hf steps hs d (i + 1) _ (by omega) hnext
    exact ⟨l', by rw [loopM_inl (step := fun (l, i) => winnowerlaw16_PackRises_l0 steps l i) (s := (l, (i : Int))) step, e1], e2⟩
theorem rises_len (from_ : Int) (hf : 0 ≤ from_ ∧ from_ ≤ 549755813888) (l : List Int) (n : Nat) (h : Rising from_ l n) : ∀ k, k ≤ l.length → (encs (dlN l k)).length ≤ k + 5
  | 0, _ => by show 0 ≤ 5; decide
  | k + 1, hk => by
    obtain ⟨r1, r2, r3, r4⟩ := h
    rw [dlN_succ, encs_app, List.length_append]
    have e1 : encs [dlAt l k] = enc (clamp (dlAt l k)) := by simp [encs]
    rw [e1]
    cases k with
    | zero =>
      have hd : dlAt l 0 = 2 * from_ := by
        unfold dlAt
        rw [r2, Option.getD_some, show prev l 0 = 0 from rfl]
        unfold tB
        rw [if_neg (by omega)]; omega
      have := enc_length (clamp (dlAt l 0)) 5 (by rw [hd]; unfold clamp; omega)
      have h0 : (encs (dlN l 0)).length = 0 := rfl
      omega
    | succ k =>
      have ih := rises_len from_ hf l n ⟨r1, r2, r3, r4⟩ (k + 1) (by omega)
      have h1 : k < l.length := by omega
      have h2 : k + 1 < l.length := by omega
      have h3 := r4 k l[k] l[k + 1] (by simp [h1]) (by simp [h2])
      have hd : dlAt l (k + 1) = 2 * (l[k + 1] - l[k]) := by
        unfold dlAt
        rw [show prev l (k + 1) = l[k]?.getD 0 from rfl, List.getElem?_eq_getElem h1, List.getElem?_eq_getElem h2, Option.getD_some, Option.getD_some]
        unfold tB
        rw [if_neg (by omega)]
      have := enc_length (clamp (dlAt l (k + 1))) 0 (by rw [hd]; unfold clamp; omega)
      omega
theorem winnowerlaw16_PackRises_true (from_ : Int) (steps : List Int) (h0 : Rng.ok from_) (h1 : Rng.ok steps) : winnowerlaw16_PackRises from_ steps = some true := by
  unfold winnowerlaw16_PackRises
  by_cases c1 : from_ < 0
  · rw [if_pos c1]
  rw [if_neg c1]
  by_cases c2 : from_ > 549755813888
  · rw [if_pos c2]
  rw [if_neg c2]
  by_cases c3 : ((steps.length : Nat) : Int) > 300
  · rw [if_pos c3]
  rw [if_neg c3]
  obtain ⟨l, e, hr⟩ := rises_loop from_ (by omega) steps (by omega) steps.length 0 [from_] (by omega) ⟨rfl, rfl, fun i x hx => by
    have := (List.getElem?_eq_some_iff.1 hx).1
    simp at this
    subst this
    simp at hx
    omega, fun i x y hx hy => by
    have := (List.getElem?_eq_some_iff.1 hy).1
    simp at this⟩
  have hr0 := hr
  obtain ⟨r1, r2, r3, r4⟩ := hr0
  rw [show (([from_] : List Int), (0 : Int)) = ([from_], ((0 : Nat) : Int)) from rfl, e, Option.bind_some]
  have hm : mayB l = true := by
    rw [mayB_iff]
    refine ⟨by omega, fun i hi => ?_⟩
    have := r3 i l[i] (by simp [hi])
    omega
  obtain ⟨b, t, d, hmin⟩ := best_is _ hm
  have m := hmin 1 _ (.inr (.inl rfl)) (told1 l hm)
  have hlen : b.length ≤ 10 + l.length := by
    refine Nat.le_trans m ?_
    have k1 := rises_len from_ (by omega) l steps.length hr l.length (Nat.le_refl _)
    have k2 := enc_length (clamp (l.length : Int)) 1 (by unfold clamp; omega)
    have e1 : encs (1 :: (l.length : Int) :: dlN l l.length) = enc (clamp 1) ++ (enc (clamp (l.length : Int)) ++ encs (dlN l l.length)) := by simp [encs]
    rw [e1, enc_small_int 1 (by decide)]
    simp only [List.length_append, List.length_cons, List.length_nil]
    omega
  rw [t, Option.bind_some]
  simp only
  rw [d, Option.bind_some, if_pos rfl]
  simp only
  rw [if_pos trivial, numbers_eq _ (by omega), Option.bind_some, if_pos rfl, w64_id (by omega), if_pos (by omega), known16_eq]; rfl
end Go.Proofs.Ytdicpnnmhjgnbaa.FW
