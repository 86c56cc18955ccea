/- pack: what may, told, Best and Decode come to, as plain Lean. -/
import Derived.Test.YtdicpnnmhjgnbaaPkQ
import Derived.Test.YtdicpnnmhjgnbaaOaB
namespace Go.Proofs.Ytdicpnnmhjgnbaa.FW
set_option linter.unusedVariables false
set_option linter.unusedSimpArgs false
def okNum (x : Int) : Bool := decide (0 ≤ x ∧ x ≤ 1099511627776)
def mayB (l : List Int) : Bool := decide (l.length ≤ 32768) && l.all okNum
theorem mayB_iff {l : List Int} : mayB l = true ↔ l.length ≤ 32768 ∧ ∀ i (h : i < l.length), 0 ≤ l[i] ∧ l[i] ≤ 1099511627776 := by
  unfold mayB
  rw [Bool.and_eq_true, decide_eq_true_eq, List.all_eq_true]
  refine and_congr_right fun _ => ⟨fun h i hi => of_decide_eq_true (h _ (List.getElem_mem hi)), fun h x hx => ?_⟩
  obtain ⟨i, hi, rfl⟩ := List.getElem_of_mem hx
  exact decide_eq_true (h i hi)
theorem may_eq (l : List Int) : pack_may l = some (mayB l) := by
  unfold pack_may
  by_cases h : ((l.length : Nat) : Int) > 32768
  · rw [if_pos h]
    unfold mayB
    rw [decide_eq_false (by omega)]; rfl
  · rw [if_neg h]
    let p : Nat → Bool := fun i => okNum (l[i]?.getD 0)
    rw [loop_all0 (n := l.length) (step := fun i => pack_may_l0 l i) p (.inr ()) (.inl false) (fun i hi => by
      unfold pack_may_l0
      simp only [p, List.getElem?_eq_getElem hi, Option.getD_some]
      rw [if_pos (by omega), at?_lt hi, Option.bind_some, cast_succ _ (by omega)]
      by_cases h1 : l[i] < 0
      · rw [if_pos h1]; simp [okNum, show ¬ 0 ≤ l[i] by omega]
      · rw [if_neg h1]
        by_cases h2 : l[i] > 1099511627776
        · rw [if_pos h2]; simp [okNum, show ¬ l[i] ≤ 1099511627776 by omega]
        · rw [if_neg h2]; simp [okNum, show 0 ≤ l[i] by omega, show l[i] ≤ 1099511627776 by omega]) (by
      unfold pack_may_l0
      rw [if_neg (by omega)])]
    have : allF p 0 l.length = mayB l := by
      rw [Bool.eq_iff_iff, allF_iff, mayB_iff]
      constructor
      · intro hh
        refine ⟨by omega, fun i hi => ?_⟩
        have := hh i (by omega) (by omega)
        simp only [p, List.getElem?_eq_getElem hi, Option.getD_some] at this
        exact of_decide_eq_true this
      · rintro ⟨_, hh⟩ i _ hi
        simp only [p, List.getElem?_eq_getElem (show i < l.length by omega), Option.getD_some]
        exact decide_eq_true (hh i (by omega))
    rw [this]
    cases mayB l <;> rfl
/-- A number of either sign as one of none. -/
def tB (n : Int) : Int := if n < 0 then -2 * n - 1 else 2 * n
theorem turned_eq (n : Int) (h : -2199023255552 ≤ n ∧ n ≤ 2199023255552) : pack_turned n = some (tB n) := by
  unfold pack_turned tB
  by_cases h1 : n < 0
  · rw [if_pos h1, if_pos h1, w64_id (n := -2 * n) (by omega), w64_id (by omega)]
  · rw [if_neg h1, if_neg h1, w64_id (by omega)]
theorem iand1 (n : Nat) (h : n < 9223372036854775808) : iand (n : Int) 1 = ((n % 2 : Nat) : Int) := by
  unfold iand
  have h1 : (BitVec.ofInt 64 (n : Int) &&& BitVec.ofInt 64 1).toNat = n % 2 := by
    rw [BitVec.toNat_and]
    have : (BitVec.ofInt 64 (n : Int)).toNat = n := by simp; omega
    rw [this]
    exact Nat.and_two_pow_sub_one_eq_mod _ 1
  rw [BitVec.toInt_eq_toNat_of_lt (by rw [h1]; omega), h1]
theorem back_eq (d : Int) (h : -2199023255552 ≤ d ∧ d ≤ 2199023255552) : pack_back (tB d) = some d := by
  unfold pack_back tB
  by_cases h1 : d < 0
  · rw [if_pos h1]
    obtain ⟨k, hk⟩ : ∃ k : Nat, -2 * d - 1 = (k : Int) := ⟨(-2 * d - 1).toNat, by omega⟩
    rw [hk, iand1 _ (by omega), if_pos (by omega), w64_id (n := (k : Int) + 1) (by omega), w64_id (by omega)]
    unfold quo?
    rw [if_neg (by decide), show 0 - ((k : Int) + 1) = 2 * d by omega, Int.mul_tdiv_cancel_left _ (by decide), w64_id (by omega)]; rfl
  · rw [if_neg h1]
    obtain ⟨k, hk⟩ : ∃ k : Nat, 2 * d = (k : Int) := ⟨(2 * d).toNat, by omega⟩
    rw [hk, iand1 _ (by omega), if_neg (by omega), ← hk]
    unfold quo?
    rw [if_neg (by decide), Int.mul_tdiv_cancel_left _ (by decide), w64_id (by omega)]; rfl
/-- The number ahead of a place. -/
def prev (l : List Int) : Nat → Int
  | 0 => 0
  | i + 1 => l[i]?.getD 0
def dlAt (l : List Int) (i : Nat) : Int := tB (l[i]?.getD 0 - prev l i)
def dlN (l : List Int) (n : Nat) : List Int := (List.range n).map (dlAt l)
theorem dlN_succ (l : List Int) (n : Nat) : dlN l (n + 1) = dlN l n ++ [dlAt l n] := by
  unfold dlN; rw [List.range_succ, List.map_append]; rfl
theorem dlN_len (l : List Int) (n : Nat) : (dlN l n).length = n := by simp [dlN]
theorem dlN_get (l : List Int) (n i : Nat) (h : i < n) : (dlN l n)[i]'(by rw [dlN_len]; exact h) = dlAt l i := by simp [dlN]
theorem prev_ok {l : List Int} (hm : mayB l = true) (i : Nat) (hi : i ≤ l.length) : 0 ≤ prev l i ∧ prev l i ≤ 1099511627776 := by
  cases i with
  | zero => exact ⟨by show (0 : Int) ≤ 0; decide, by show (0 : Int) ≤ 1099511627776; decide⟩
  | succ i => have := (mayB_iff.1 hm).2 i (by omega); simp [prev, show i < l.length by omega]; exact this
theorem told_l0 (l : List Int) (hm : mayB l = true) : ∀ (d i : Nat), i + d = l.length →
    loopM (fun (rest, last, v) => pack_told_l0 l rest last v) (dlN l i, prev l i, (i : Int)) = some (dlN l l.length)
  | 0, i, hi => by
    obtain rfl : i = l.length := by omega
    refine loopM_inr ?_
    simp only
    unfold pack_told_l0
    rw [if_neg (by omega)]
  | d + 1, i, hi => by
    have h1 : i < l.length := by omega
    have hb := (mayB_iff.1 hm).1
    have h2 := (mayB_iff.1 hm).2 i h1
    have h3 := prev_ok hm i (by omega)
    have h4 := dlN_len l i
    rw [← told_l0 l hm d (i + 1) (by omega)]
    refine loopM_inl ?_
    simp only
    unfold pack_told_l0
    rw [if_pos (by omega), at?_lt h1, Option.bind_some, w64_id (by omega), turned_eq _ (by omega), Option.bind_some, app_sm (by decide) (by simp only [List.length_cons, List.length_nil]; omega), Option.bind_some, cast_succ _ (by omega), dlN_succ]
    simp [dlAt, prev, h1]
/-! ### Runs -/
def flatP (ps : List (Nat × Int)) : List Int := ps.flatMap fun p => [(p.1 : Int), p.2]
def expP (ps : List (Nat × Int)) : List Int := ps.flatMap fun p => List.replicate p.1 p.2
theorem flatP_app (a b : List (Nat × Int)) : flatP (a ++ b) = flatP a ++ flatP b := by simp [flatP]
theorem expP_app (a b : List (Nat × Int)) : expP (a ++ b) = expP a ++ expP b := by simp [expP]
theorem flatP_len (ps : List (Nat × Int)) : (flatP ps).length = 2 * ps.length := by
  induction ps with
  | nil => rfl
  | cons p ps ih => simp only [flatP, List.flatMap_cons, List.length_append, List.length_cons, List.length_nil] at *; omega
theorem expP_len {ps : List (Nat × Int)} (h : ∀ p ∈ ps, 1 ≤ p.1) : ps.length ≤ (expP ps).length := by
  induction ps with
  | nil => simp
  | cons p ps ih =>
    have h1 := h p (by simp)
    have h2 := ih fun q hq => h q (by simp [hq])
    simp only [expP, List.flatMap_cons, List.length_append, List.length_cons, List.length_replicate] at *; omega
theorem inc_at (a : List Int) (c v : Int) (h : a.length ≤ 1000000) : at? (a ++ [c, v]) (w64 ((((a ++ [c, v]).length : Nat) : Int) - 2)) = some c := by
  have e : w64 ((((a ++ [c, v]).length : Nat) : Int) - 2) = (a.length : Int) := by
    rw [List.length_append, w64_id (by simp only [List.length_cons, List.length_nil]; omega)]; simp only [List.length_cons, List.length_nil]; omega
  rw [e]
  exact at?_some (by simp)
theorem inc_set (a : List Int) (c v c' : Int) (h : a.length ≤ 1000000) : set? (a ++ [c, v]) (w64 ((((a ++ [c, v]).length : Nat) : Int) - 2)) c' = some (a ++ [c', v]) := by
  have e : w64 ((((a ++ [c, v]).length : Nat) : Int) - 2) = (a.length : Int) := by
    rw [List.length_append, w64_id (by simp only [List.length_cons, List.length_nil]; omega)]; simp only [List.length_cons, List.length_nil]; omega
  unfold set?
  rw [e, if_pos (by simp; omega), Int.toNat_natCast, List.set_append_right _ _ (Nat.le_refl _)]
  simp
def InvP (l : List Int) (i : Nat) (ps : List (Nat × Int)) : Prop := expP ps = l.take i ∧ (∀ p ∈ ps, 1 ≤ p.1) ∧ (i = 0 → ps = []) ∧ ∀ j, i = j + 1 → ∃ q c, ps = q ++ [(c, l[j]?.getD 0)]
theorem told_l1 (l : List Int) (hm : mayB l = true) : ∀ (d i : Nat) (ps : List (Nat × Int)), i + d = l.length → InvP l i ps →
    ∃ ps', loopM (fun (rest, v) => pack_told_l1 l rest v) (flatP ps, (i : Int)) = some (flatP ps') ∧ InvP l l.length ps'
  | 0, i, ps, hi, hI => by
    obtain rfl : i = l.length := by omega
    refine ⟨ps, loopM_inr ?_, hI⟩
    simp only
    unfold pack_told_l1
    rw [if_neg (by omega)]
  | d + 1, i, ps, hi, hI => by
    have h1 : i < l.length := by omega
    have hb := (mayB_iff.1 hm).1
    obtain ⟨i1, i2, i3, i4⟩ := hI
    have hpl := expP_len i2
    rw [i1, List.length_take] at hpl
    have hfl := flatP_len ps
    have htk : l.take (i + 1) = l.take i ++ [l[i]] := List.take_succ_eq_append_getElem h1
    -- a new run
    have hnew : InvP l (i + 1) (ps ++ [(1, l[i])]) := by
      refine ⟨by rw [expP_app, i1, htk]; rfl, fun p hp => ?_, fun h => by omega, fun j hj => ⟨ps, 1, ?_⟩⟩
      · rcases List.mem_append.1 hp with h | h
        · exact i2 p h
        · rw [List.mem_singleton.1 h]; exact Nat.le_refl _
      · obtain rfl : j = i := by omega
        simp [h1]
    have hstep : ∀ ps2, InvP l (i + 1) ps2 → pack_told_l1 l (flatP ps) (i : Int) = some (.inl (flatP ps2, ((i + 1 : Nat) : Int))) →
        ∃ ps', loopM (fun (rest, v) => pack_told_l1 l rest v) (flatP ps, (i : Int)) = some (flatP ps') ∧ InvP l l.length ps' := fun ps2 h2 hs => by
      obtain ⟨ps', e1, e2⟩ := told_l1 l hm d (i + 1) ps2 (by omega) h2
      exact ⟨ps', by rw [loopM_inl (step := fun (rest, v) => pack_told_l1 l rest v) (s := (flatP ps, (i : Int))) hs, e1], e2⟩
    have happ : app? 8 (flatP ps) ([0, l[i]] : List Int) = some (flatP ps ++ [0, l[i]]) := app_sm (by decide) (by simp only [List.length_cons, List.length_nil]; omega)
    have hone : flatP ps ++ [w64 (0 + 1), l[i]] = flatP (ps ++ [(1, l[i])]) := by rw [flatP_app]; rfl
    by_cases hz : i = 0
    · refine hstep _ hnew ?_
      unfold pack_told_l1
      rw [if_pos (by omega), at?_lt h1, Option.bind_some, if_pos (by omega), happ, Option.bind_some, inc_at _ _ _ (by omega), Option.bind_some, inc_set _ _ _ _ (by omega), Option.bind_some, hone, cast_succ _ (by omega)]
    obtain ⟨j, rfl⟩ : ∃ j, i = j + 1 := ⟨i - 1, by omega⟩
    have hj : w64 (((j + 1 : Nat) : Int) - 1) = (j : Int) := by rw [w64_id (by omega)]; omega
    have hj2 : j < l.length := Nat.lt_of_succ_lt h1
    by_cases hx : l[j + 1] = l[j]'hj2
    · obtain ⟨q, c, hps⟩ := i4 j rfl
      have hlj : l[j]?.getD 0 = l[j]'hj2 := by simp [hj2]
      rw [hlj] at hps
      subst hps
      have hcl : c ≤ l.length := by
        have := congrArg List.length i1
        rw [expP_app, List.length_append, List.length_take] at this
        simp [expP] at this; omega
      have hql : (flatP q).length ≤ 1000000 := by rw [flatP_app, List.length_append] at hfl; omega
      refine hstep (q ++ [(c + 1, l[j]'hj2)]) ⟨?_, fun p hp => ?_, fun h => by omega, fun j' hj' => ⟨q, c + 1, ?_⟩⟩ ?_
      · rw [htk, ← i1, expP_app, expP_app, List.append_assoc, hx]
        congr 1
        simp [expP, List.replicate_succ']
      · rcases List.mem_append.1 hp with h | h
        · exact i2 p (List.mem_append_left _ h)
        · rw [List.mem_singleton.1 h]; simp
      · obtain rfl : j' = j + 1 := by omega
        simp [h1, hx]
      · unfold pack_told_l1
        have hf : flatP (q ++ [(c, l[j]'hj2)]) = flatP q ++ [(c : Int), l[j]'hj2] := by rw [flatP_app]; rfl
        rw [if_pos (by omega), at?_lt h1, Option.bind_some, if_neg (by omega), hj, at?_lt hj2, Option.bind_some, if_neg (by simpa using hx), hf, inc_at _ _ _ hql, Option.bind_some, inc_set _ _ _ _ hql, Option.bind_some, cast_succ _ (by omega), cast_succ _ (by omega), flatP_app]
        rfl
    · refine hstep _ hnew ?_
      unfold pack_told_l1
      rw [if_pos (by omega), at?_lt h1, Option.bind_some, if_neg (by omega), hj, at?_lt hj2, Option.bind_some, if_pos hx, happ, Option.bind_some, inc_at _ _ _ (by omega), Option.bind_some, inc_set _ _ _ _ (by omega), Option.bind_some, hone, cast_succ _ (by omega)]
theorem encs_app (a b : List Int) : encs (a ++ b) = encs a ++ encs b := by simp [encs]
/-- What is told in each way. -/
theorem told0 (l : List Int) (hm : mayB l = true) : pack_told 0 l = some (encs (0 :: (l.length : Int) :: l), 0) := by
  have hb := (mayB_iff.1 hm).1
  have h1 := encs_length [0]
  have h2 := encs_length [(l.length : Int)]
  have h3 := encs_length l
  simp only [List.length_cons, List.length_nil] at h1 h2
  unfold pack_told
  rw [may_eq, Option.bind_some, hm, if_pos rfl, wNums_eq _ _ (by simp), Option.bind_some, if_pos rfl, wNums_eq _ _ (by simp only [List.length_append, List.length_cons, List.length_nil]; omega), Option.bind_some, wNums_eq _ _ (by simp only [List.length_append, List.length_nil]; omega), Option.bind_some, wOut_eq _ (by simp only [List.length_append, List.length_nil]; omega), Option.bind_some,
    List.nil_append, ← encs_app, ← encs_app]; rfl
theorem told1 (l : List Int) (hm : mayB l = true) : pack_told 1 l = some (encs (1 :: (l.length : Int) :: dlN l l.length), 0) := by
  have hb := (mayB_iff.1 hm).1
  have h1 := encs_length [1]
  have h2 := encs_length [(l.length : Int)]
  have h3 := encs_length (dlN l l.length)
  rw [dlN_len] at h3
  simp only [List.length_cons, List.length_nil] at h1 h2
  have hl := told_l0 l hm l.length 0 (by omega)
  rw [show dlN l 0 = [] from rfl, show prev l 0 = 0 from rfl] at hl
  have hn := dlN_len l l.length
  unfold pack_told
  rw [may_eq, Option.bind_some, hm, if_pos rfl, wNums_eq _ _ (by simp), Option.bind_some, if_neg (by decide), if_pos rfl, wNums_eq _ _ (by simp only [List.length_append, List.length_cons, List.length_nil]; omega), Option.bind_some,
    show (([] : List Int), (0 : Int), (0 : Int)) = ([], 0, ((0 : Nat) : Int)) from rfl, hl, Option.bind_some, wNums_eq _ _ (by simp only [List.length_append, List.length_nil]; omega), Option.bind_some, wOut_eq _ (by simp only [List.length_append, List.length_nil]; omega), Option.bind_some,
    List.nil_append, ← encs_app, ← encs_app]; rfl
theorem told2 (l : List Int) (hm : mayB l = true) : ∃ ps, loopM (fun (rest, v) => pack_told_l1 l rest v) (([] : List Int), 0) = some (flatP ps) ∧ expP ps = l ∧ (∀ p ∈ ps, 1 ≤ p.1) ∧ pack_told 2 l = some (encs (2 :: (ps.length : Int) :: flatP ps), 0) := by
  have hb := (mayB_iff.1 hm).1
  obtain ⟨ps, e1, e2, e3, _, _⟩ := told_l1 l hm l.length 0 [] (by omega) ⟨by simp [expP], by simp, fun _ => rfl, fun j hj => by omega⟩
  rw [List.take_length] at e2
  have hpl := expP_len e3
  rw [e2] at hpl
  have h1 := encs_length [2]
  have h2 := encs_length [(ps.length : Int)]
  have h3 := encs_length (flatP ps)
  have hfl := flatP_len ps
  simp only [List.length_cons, List.length_nil] at h1 h2
  refine ⟨ps, e1, e2, e3, ?_⟩
  have hq : quo? (((flatP ps).length : Nat) : Int) 2 = some (ps.length : Int) := by
    unfold quo?
    rw [if_neg (by decide), hfl, show (((2 * ps.length : Nat) : Nat) : Int) = 2 * (ps.length : Int) by omega, Int.mul_tdiv_cancel_left _ (by decide), w64_id (by omega)]
  unfold pack_told
  rw [may_eq, Option.bind_some, hm, if_pos rfl, wNums_eq _ _ (by simp), Option.bind_some, if_neg (by decide), if_neg (by decide), if_pos rfl,
    show (([] : List Int), (0 : Int)) = (flatP [], ((0 : Nat) : Int)) from rfl, e1, Option.bind_some, hq, Option.bind_some, wNums_eq _ _ (by simp only [List.length_append, List.length_cons, List.length_nil]; omega), Option.bind_some, wNums_eq _ _ (by simp only [List.length_append, List.length_nil]; omega), Option.bind_some, wOut_eq _ (by simp only [List.length_append, List.length_nil]; omega), Option.bind_some,
    List.nil_append, ← encs_app, ← encs_app]; rfl
theorem toldNo (way : Int) (l : List Int) (hm : mayB l = false) : pack_told way l = some ([], 1) := by
  unfold pack_told
  rw [may_eq, Option.bind_some, hm]; rfl
end Go.Proofs.Ytdicpnnmhjgnbaa.FW
