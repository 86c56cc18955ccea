/- pack: the document's answer, and the law PackTells, as plain Lean. -/
import Derived.Test.YtdicpnnmhjgnbaaPkQ
import Derived.Test.YtdicpnnmhjgnbaaPkB
import Derived.Test.YtdicpnnmhjgnbaaPkK1
namespace Go.Proofs.Ytdicpnnmhjgnbaa.FW
set_option linter.unusedVariables false
set_option linter.unusedSimpArgs false
theorem refMay_eq (l : List Int) (hl : l.length < 1000000) : winnowerref16_may l = some (mayB l) := by
  unfold winnowerref16_may
  let p : Nat → Bool := fun i => okNum (l[i]?.getD 0)
  rw [loop_all0 (n := l.length) (step := fun i => winnowerref16_may_l0 l i) p (.inr ()) (.inl false) (fun i hi => by
    unfold winnowerref16_may_l0
    simp only [p, List.getElem?_eq_getElem hi, Option.getD_some]
    rw [if_pos (by omega), at?_lt hi, Option.bind_some, cast_succ _ (by omega)]
    by_cases h1 : l[i] < 0
    · rw [if_pos h1]; simp [okNum, show ¬ 0 ≤ l[i] by omega]
    · rw [if_neg h1]
      by_cases h2 : l[i] > 1099511627776
      · rw [if_pos h2]; simp [okNum, show ¬ l[i] ≤ 1099511627776 by omega]
      · rw [if_neg h2]; simp [okNum, show 0 ≤ l[i] by omega, show l[i] ≤ 1099511627776 by omega]) (by
    unfold winnowerref16_may_l0
    rw [if_neg (by omega)])]
  have h1 : ∀ hp : allF p 0 l.length = true, mayB l = decide (((l.length : Nat) : Int) ≤ 32768) := by
    intro hp
    rw [Bool.eq_iff_iff, mayB_iff, decide_eq_true_eq]
    refine ⟨fun h => by omega, fun h => ⟨by omega, fun i hi => ?_⟩⟩
    have := allF_iff.1 hp i (by omega) (by omega)
    simp only [p, List.getElem?_eq_getElem hi, Option.getD_some] at this
    exact of_decide_eq_true this
  cases hp : allF p 0 l.length with
  | true => rw [h1 hp]; rfl
  | false =>
    have : mayB l = false := by
      cases hm : mayB l with
      | false => rfl
      | true =>
        have : allF p 0 l.length = true := by
          rw [allF_iff]
          intro i _ hi
          simp only [p, List.getElem?_eq_getElem (show i < l.length by omega), Option.getD_some]
          exact decide_eq_true ((mayB_iff.1 hm).2 i (by omega))
        rw [hp] at this; cases this
    rw [this]; rfl
theorem in_range {l : List Int} (hm : mayB l = true) : ∀ x ∈ l, -9223372036854775808 ≤ x ∧ x ≤ 9223372036854775807 := by
  intro x hx
  obtain ⟨i, hi, rfl⟩ := List.getElem_of_mem hx
  have := (mayB_iff.1 hm).2 i hi
  omega
theorem two_range {a b : Int} (ha : 0 ≤ a ∧ a ≤ 1000000000000000) (hb : 0 ≤ b ∧ b ≤ 1000000000000000) : ∀ x ∈ [a, b], -9223372036854775808 ≤ x ∧ x ≤ 9223372036854775807 := by
  intro x hx
  simp at hx
  rcases hx with rfl | rfl <;> omega
theorem refPlain_eq (l : List Int) (hl : l.length < 1000000) : winnowerref16_Plain l = if mayB l then some (encs (0 :: (l.length : Int) :: l), 0) else some ([], 1) := by
  unfold winnowerref16_Plain
  rw [refMay_eq l hl, Option.bind_some]
  cases hm : mayB l with
  | false => rfl
  | true =>
    have hb := (mayB_iff.1 hm).1
    have h1 := encs_length [0, (l.length : Int)]
    have h2 := encs_length l
    simp only [List.length_cons, List.length_nil] at h1
    rw [if_pos rfl, if_pos rfl, rNums_eq _ (two_range (by omega) (by omega)) (by simp), Option.bind_some, rNums_eq l (in_range hm) (by omega), Option.bind_some, app_sm (by decide) (by omega), Option.bind_some, ← encs_app]; rfl
theorem refDelta_l0 (l : List Int) (hm : mayB l = true) (b0 : List Int) (hb0 : b0.length = 2) : ∀ (d i : Nat), i + d = l.length →
    loopM (fun (b, last, i) => winnowerref16_Delta_l0 l b last i) (encs (b0 ++ dlN l i), prev l i, (i : Int)) = some (encs (b0 ++ dlN l l.length))
  | 0, i, hi => by
    obtain rfl : i = l.length := by omega
    refine loopM_inr ?_
    simp only
    unfold winnowerref16_Delta_l0
    rw [if_neg (by omega)]
  | d + 1, i, hi => by
    have h1 : i < l.length := by omega
    have hb := (mayB_iff.1 hm).1
    have h2 := (mayB_iff.1 hm).2 i h1
    have h3 := prev_ok hm i (by omega)
    have h4 := dlN_len l i
    have h5 := encs_length (b0 ++ dlN l i)
    rw [List.length_append] at h5
    have h6 : dlAt l i = tB (l[i] - prev l i) := by simp [dlAt, h1]
    have h7 := enc_clamp_length (dlAt l i)
    have e1 : encs (b0 ++ dlN l (i + 1)) = encs (b0 ++ dlN l i) ++ enc (clamp (dlAt l i)) := by
      rw [dlN_succ, ← List.append_assoc, encs_app]; simp [encs]
    have e2 : prev l (i + 1) = l[i] := by simp [prev, h1]
    rw [← refDelta_l0 l hm b0 hb0 d (i + 1) (by omega)]
    refine loopM_inl ?_
    simp only
    unfold winnowerref16_Delta_l0
    rw [if_pos (by omega), at?_lt h1, Option.bind_some, w64_id (n := l[i] - prev l i) (by omega), cast_succ _ (by omega), e1, e2, h6]
    unfold tB at h6 h7 ⊢
    rw [h6] at h7
    by_cases hd : l[i] - prev l i < 0
    · rw [if_neg (by omega), if_pos hd, w64_id (n := -2 * (l[i] - prev l i)) (by omega), w64_id (by omega), rNum_eq _ (by omega), Option.bind_some]
      rw [if_pos hd] at h7
      rw [app_sm (by decide) (by omega), Option.bind_some]
    · rw [if_pos (by omega), if_neg hd, w64_id (n := 2 * (l[i] - prev l i)) (by omega), rNum_eq _ (by omega), Option.bind_some]
      rw [if_neg hd] at h7
      rw [app_sm (by decide) (by omega), Option.bind_some]
theorem refDelta_eq (l : List Int) (hl : l.length < 1000000) : winnowerref16_Delta l = if mayB l then some (encs (1 :: (l.length : Int) :: dlN l l.length), 0) else some ([], 1) := by
  unfold winnowerref16_Delta
  rw [refMay_eq l hl, Option.bind_some]
  cases hm : mayB l with
  | false => rfl
  | true =>
    have hb := (mayB_iff.1 hm).1
    have s := refDelta_l0 l hm [1, (l.length : Int)] rfl l.length 0 (by omega)
    rw [show dlN l 0 = [] from rfl, show prev l 0 = 0 from rfl, List.append_nil] at s
    rw [if_pos rfl, if_pos rfl, rNums_eq _ (two_range (by omega) (by omega)) (by simp), Option.bind_some, show (encs [1, (l.length : Int)], (0 : Int), (0 : Int)) = (encs [1, (l.length : Int)], 0, ((0 : Nat) : Int)) from rfl, s]; rfl
/-- The runs as pairs of numbers. -/
def rowsP (ps : List (Nat × Int)) : List (Int × Int) := ps.map fun p => ((p.1 : Int), p.2)
theorem rowsP_app (a b : List (Nat × Int)) : rowsP (a ++ b) = rowsP a ++ rowsP b := by simp [rowsP]
theorem rowsP_len (ps : List (Nat × Int)) : (rowsP ps).length = ps.length := by simp [rowsP]
theorem flatP_inj : ∀ {a b : List (Nat × Int)}, flatP a = flatP b → a = b
  | [], [], _ => rfl
  | [], p :: b, h => by simp [flatP] at h
  | p :: a, [], h => by simp [flatP] at h
  | p :: a, q :: b, h => by
    have h' : (p.1 : Int) :: p.2 :: flatP a = (q.1 : Int) :: q.2 :: flatP b := h
    simp only [List.cons.injEq] at h'
    obtain ⟨h1, h2, h3⟩ := h'
    rw [flatP_inj h3, show p = q from Prod.ext (by omega) h2]
theorem last_at (a : List (Int × Int)) (x : Int × Int) (h : a.length ≤ 1000000) : at? (a ++ [x]) (w64 ((((a ++ [x]).length : Nat) : Int) - 1)) = some x := by
  have e : w64 ((((a ++ [x]).length : Nat) : Int) - 1) = (a.length : Int) := by
    rw [List.length_append, w64_id (by simp only [List.length_cons, List.length_nil]; omega)]; simp only [List.length_cons, List.length_nil]; omega
  rw [e]; exact at?_some (by simp)
theorem last_set (a : List (Int × Int)) (x y : Int × Int) (h : a.length ≤ 1000000) : set? (a ++ [x]) (w64 ((((a ++ [x]).length : Nat) : Int) - 1)) y = some (a ++ [y]) := by
  have e : w64 ((((a ++ [x]).length : Nat) : Int) - 1) = (a.length : Int) := by
    rw [List.length_append, w64_id (by simp only [List.length_cons, List.length_nil]; omega)]; simp only [List.length_cons, List.length_nil]; omega
  unfold set?
  rw [e, if_pos (by simp; omega), Int.toNat_natCast, List.set_append_right _ _ (Nat.le_refl _)]
  simp
/-- One more number, as both take it. -/
theorem runs_step (l : List Int) (hm : mayB l = true) (i : Nat) (h1 : i < l.length) (ps : List (Nat × Int)) (hI : InvP l i ps) : ∃ ps2, InvP l (i + 1) ps2 ∧
    pack_told_l1 l (flatP ps) (i : Int) = some (.inl (flatP ps2, ((i + 1 : Nat) : Int))) ∧ winnowerref16_Runs_l0 l (rowsP ps) (i : Int) = some (.inl (rowsP ps2, ((i + 1 : Nat) : Int))) := by
  have hb := (mayB_iff.1 hm).1
  obtain ⟨i1, i2, i3, i4⟩ := hI
  have hpl := expP_len i2
  rw [i1, List.length_take] at hpl
  have hfl := flatP_len ps
  have hrl := rowsP_len ps
  have htk : l.take (i + 1) = l.take i ++ [l[i]] := List.take_succ_eq_append_getElem h1
  have hnew : InvP l (i + 1) (ps ++ [(1, l[i])]) := by
    refine ⟨by rw [expP_app, i1, htk]; rfl, fun p hp => ?_, fun h => by omega, fun j hj => ⟨ps, 1, ?_⟩⟩
    · rcases List.mem_append.1 hp with h | h
      · exact i2 p h
      · rw [List.mem_singleton.1 h]; exact Nat.le_refl _
    · obtain rfl : j = i := by omega
      simp [h1]
  have happ : app? 8 (flatP ps) ([0, l[i]] : List Int) = some (flatP ps ++ [0, l[i]]) := app_sm (by decide) (by simp only [List.length_cons, List.length_nil]; omega)
  have hone : flatP ps ++ [w64 (0 + 1), l[i]] = flatP (ps ++ [(1, l[i])]) := by rw [flatP_app]; rfl
  have hrapp : app? 16 (rowsP ps) ([(1, l[i])] : List (Int × Int)) = some (rowsP (ps ++ [(1, l[i])])) := by
    rw [app_sm (by decide) (by simp only [List.length_cons, List.length_nil]; omega), rowsP_app]; rfl
  by_cases hz : i = 0
  · refine ⟨_, hnew, ?_, ?_⟩
    · unfold pack_told_l1
      rw [if_pos (by omega), at?_lt h1, Option.bind_some, if_pos (by omega), happ, Option.bind_some, inc_at _ _ _ (by omega), Option.bind_some, inc_set _ _ _ _ (by omega), Option.bind_some, hone, cast_succ _ (by omega)]
    · unfold winnowerref16_Runs_l0
      rw [if_pos (by omega), if_neg (by omega), at?_lt h1, Option.bind_some, hrapp, Option.bind_some, cast_succ _ (by omega)]
  obtain ⟨j, rfl⟩ : ∃ j, i = j + 1 := ⟨i - 1, by omega⟩
  have hj : w64 (((j + 1 : Nat) : Int) - 1) = (j : Int) := by rw [w64_id (by omega)]; omega
  have hj2 : j < l.length := Nat.lt_of_succ_lt h1
  by_cases hx : l[j + 1] = l[j]'hj2
  · obtain ⟨q, c, hps⟩ := i4 j rfl
    have hlj : l[j]?.getD 0 = l[j]'hj2 := by simp [hj2]
    rw [hlj] at hps
    subst hps
    have hcl : c ≤ l.length := by
      have := congrArg List.length i1
      rw [expP_app, List.length_append, List.length_take] at this
      simp [expP] at this; omega
    have hql : (flatP q).length ≤ 1000000 := by rw [flatP_app, List.length_append] at hfl; omega
    have hrq : (rowsP q).length ≤ 1000000 := by rw [rowsP_app, List.length_append] at hrl; omega
    have hf : flatP (q ++ [(c, l[j]'hj2)]) = flatP q ++ [(c : Int), l[j]'hj2] := by rw [flatP_app]; rfl
    have hr : rowsP (q ++ [(c, l[j]'hj2)]) = rowsP q ++ [((c : Int), l[j]'hj2)] := by rw [rowsP_app]; rfl
    refine ⟨q ++ [(c + 1, l[j]'hj2)], ⟨?_, fun p hp => ?_, fun h => by omega, fun j' hj' => ⟨q, c + 1, ?_⟩⟩, ?_, ?_⟩
    · rw [htk, ← i1, expP_app, expP_app, List.append_assoc, hx]
      congr 1
      simp [expP, List.replicate_succ']
    · rcases List.mem_append.1 hp with h | h
      · exact i2 p (List.mem_append_left _ h)
      · rw [List.mem_singleton.1 h]; simp
    · obtain rfl : j' = j + 1 := by omega
      simp [h1, hx]
    · unfold pack_told_l1
      rw [if_pos (by omega), at?_lt h1, Option.bind_some, if_neg (by omega), hj, at?_lt hj2, Option.bind_some, if_neg (by simpa using hx), hf, inc_at _ _ _ hql, Option.bind_some, inc_set _ _ _ _ hql, Option.bind_some, cast_succ _ (by omega), cast_succ _ (by omega), flatP_app]
      rfl
    · unfold winnowerref16_Runs_l0
      rw [if_pos (by omega), if_pos (by omega), at?_lt h1, Option.bind_some, hj, at?_lt hj2, Option.bind_some, if_pos hx, hr, last_at _ _ hrq, Option.bind_some]
      simp only
      rw [last_set _ _ _ hrq, Option.bind_some, cast_succ _ (by omega), cast_succ _ (by omega), rowsP_app]
      rfl
  · refine ⟨_, hnew, ?_, ?_⟩
    · unfold pack_told_l1
      rw [if_pos (by omega), at?_lt h1, Option.bind_some, if_neg (by omega), hj, at?_lt hj2, Option.bind_some, if_pos hx, happ, Option.bind_some, inc_at _ _ _ (by omega), Option.bind_some, inc_set _ _ _ _ (by omega), Option.bind_some, hone, cast_succ _ (by omega)]
    · unfold winnowerref16_Runs_l0
      rw [if_pos (by omega), if_pos (by omega), at?_lt h1, Option.bind_some, hj, at?_lt hj2, Option.bind_some, if_neg hx, hrapp, Option.bind_some, cast_succ _ (by omega)]
theorem runs_both (l : List Int) (hm : mayB l = true) : ∀ (d i : Nat) (ps : List (Nat × Int)), i + d = l.length → InvP l i ps →
    ∃ ps', loopM (fun (rest, v) => pack_told_l1 l rest v) (flatP ps, (i : Int)) = some (flatP ps') ∧ loopM (fun (rows, i) => winnowerref16_Runs_l0 l rows i) (rowsP ps, (i : Int)) = some (rowsP ps') ∧ InvP l l.length ps'
  | 0, i, ps, hi, hI => by
    obtain rfl : i = l.length := by omega
    refine ⟨ps, loopM_inr ?_, loopM_inr ?_, hI⟩
    · simp only
      unfold pack_told_l1
      rw [if_neg (by omega)]
    · simp only
      unfold winnowerref16_Runs_l0
      rw [if_neg (by omega)]
  | d + 1, i, ps, hi, hI => by
    obtain ⟨ps2, h2, e1, e2⟩ := runs_step l hm i (by omega) ps hI
    obtain ⟨ps', e3, e4, e5⟩ := runs_both l hm d (i + 1) ps2 (by omega) h2
    exact ⟨ps', by rw [loopM_inl (step := fun (rest, v) => pack_told_l1 l rest v) (s := (flatP ps, (i : Int))) e1, e3], by rw [loopM_inl (step := fun (rows, i) => winnowerref16_Runs_l0 l rows i) (s := (rowsP ps, (i : Int))) e2, e4], e5⟩
theorem refRuns_l1 (ps : List (Nat × Int)) (hps : ps.length ≤ 40000) (hr : ∀ p ∈ ps, p.1 ≤ 1000000 ∧ 0 ≤ p.2 ∧ p.2 ≤ 1099511627776) (b0 : List Int) (hb0 : b0.length = 2) : ∀ (d j : Nat), j + d = ps.length →
    loopM (fun (b, i) => winnowerref16_Runs_l1 (rowsP ps) b i) (encs (b0 ++ flatP (ps.take j)), (j : Int)) = some (encs (b0 ++ flatP ps))
  | 0, j, hj => by
    obtain rfl : j = ps.length := by omega
    rw [List.take_length]
    refine loopM_inr ?_
    simp only
    unfold winnowerref16_Runs_l1
    rw [if_neg (by rw [rowsP_len]; omega)]
  | d + 1, j, hj => by
    have h1 : j < ps.length := by omega
    have h2 : j < (rowsP ps).length := by rw [rowsP_len]; exact h1
    have h3 : (rowsP ps)[j] = ((ps[j].1 : Int), ps[j].2) := by simp [rowsP]
    have h4 := hr _ (List.getElem_mem h1)
    have h5 := encs_length (b0 ++ flatP (ps.take j))
    have h6 := encs_length [(ps[j].1 : Int), ps[j].2]
    have h7 := flatP_len (ps.take j)
    rw [List.length_take] at h7
    rw [List.length_append] at h5
    simp only [List.length_cons, List.length_nil] at h6
    have e1 : encs (b0 ++ flatP (ps.take (j + 1))) = encs (b0 ++ flatP (ps.take j)) ++ encs [(ps[j].1 : Int), ps[j].2] := by
      rw [List.take_succ_eq_append_getElem h1, flatP_app, ← List.append_assoc, encs_app]; rfl
    rw [← refRuns_l1 ps hps hr b0 hb0 d (j + 1) (by omega), e1]
    refine loopM_inl ?_
    simp only
    unfold winnowerref16_Runs_l1
    rw [if_pos (by omega), at?_lt h2, Option.bind_some, h3]
    simp only
    rw [rNums_eq _ (two_range (by omega) (by omega)) (by simp), Option.bind_some, app_sm (by decide) (by omega), Option.bind_some, cast_succ _ (by omega)]
theorem refRuns_eq (l : List Int) (hl : l.length < 1000000) : winnowerref16_Runs l = (pack_told 2 l) := by
  unfold winnowerref16_Runs
  rw [refMay_eq l hl, Option.bind_some]
  cases hm : mayB l with
  | false => rw [toldNo 2 l hm]; rfl
  | true =>
    have hb := (mayB_iff.1 hm).1
    obtain ⟨ps, t1, t2, t3, t4⟩ := told2 l hm
    obtain ⟨ps', e1, e2, e3⟩ := runs_both l hm l.length 0 [] (by omega) ⟨by simp [expP], by simp, fun _ => rfl, fun j hj => by omega⟩
    have hinj : ps' = ps := by
      rw [show (([] : List Int), (0 : Int)) = (flatP [], ((0 : Nat) : Int)) from rfl, e1] at t1
      exact flatP_inj (Option.some.inj t1)
    subst hinj
    have hpl := expP_len t3
    rw [t2] at hpl
    have hr : ∀ p ∈ ps', p.1 ≤ 1000000 ∧ 0 ≤ p.2 ∧ p.2 ≤ 1099511627776 := by
      intro p hp
      have h1 := t3 p hp
      have hmem : p.2 ∈ l := by
        rw [← t2]
        refine List.mem_flatMap.2 ⟨p, hp, ?_⟩
        rw [List.mem_replicate]
        exact ⟨by omega, rfl⟩
      have hlen : p.1 ≤ l.length := by
        have h2 : ∀ (a : List (Nat × Int)), p ∈ a → p.1 ≤ (expP a).length := by
          intro a
          induction a with
          | nil => intro h; simp at h
          | cons q a ih =>
            intro h
            simp only [expP, List.flatMap_cons, List.length_append, List.length_replicate]
            rcases List.mem_cons.1 h with rfl | h
            · omega
            · have := ih h; unfold expP at this; omega
        have := h2 ps' hp
        rw [t2] at this; exact this
      obtain ⟨i, hi, hie⟩ := List.getElem_of_mem hmem
      have := (mayB_iff.1 hm).2 i hi
      rw [hie] at this
      omega
    have s := refRuns_l1 ps' (by omega) hr [2, (ps'.length : Int)] rfl ps'.length 0 (by omega)
    rw [List.take_zero, show flatP [] = [] from rfl, List.append_nil] at s
    rw [t4, if_pos rfl, show (([] : List (Int × Int)), (0 : Int)) = (rowsP [], ((0 : Nat) : Int)) from rfl, e2, Option.bind_some, rowsP_len, rNums_eq _ (two_range (by omega) (by omega)) (by simp), Option.bind_some,
      show (encs [2, (ps'.length : Int)], (0 : Int)) = (encs [2, (ps'.length : Int)], ((0 : Nat) : Int)) from rfl, s]; rfl
theorem winnowerlaw16_PackTells_true (l : List Int) (h0 : Rng.ok l) : winnowerlaw16_PackTells l = some true := by
  unfold winnowerlaw16_PackTells
  by_cases hl : ((l.length : Nat) : Int) > 400
  · rw [if_pos hl]
  rw [if_neg hl]
  have p0 : pack_Plain l = pack_told 0 l := by unfold pack_Plain; cases pack_told 0 l <;> rfl
  have p1 : pack_Delta l = pack_told 1 l := by unfold pack_Delta; cases pack_told 1 l <;> rfl
  have p2 : pack_Runs l = pack_told 2 l := by unfold pack_Runs; cases pack_told 2 l <;> rfl
  have q0 : winnowerref16_Plain l = pack_told 0 l := by
    rw [refPlain_eq l (by omega)]
    cases hm : mayB l with
    | false => rw [toldNo 0 l hm]; rfl
    | true => rw [told0 l hm]; rfl
  have q1 : winnowerref16_Delta l = pack_told 1 l := by
    rw [refDelta_eq l (by omega)]
    cases hm : mayB l with
    | false => rw [toldNo 1 l hm]; rfl
    | true => rw [told1 l hm]; rfl
  have q2 := refRuns_eq l (by omega)
  have hbest : ∃ r, pack_Best l = some r ∧ winnowerref16_Best l = some r := by
    unfold winnowerref16_Best
    rw [q0, q1, q2]
    cases hm : mayB l with
    | false => exact ⟨_, best_no l hm, by rw [toldNo 0 l hm]; rfl⟩
    | true =>
      obtain ⟨b0, h0, _⟩ := decode_ok 0 l hm (.inl rfl)
      obtain ⟨b1, h1, _⟩ := decode_ok 1 l hm (.inr (.inl rfl))
      obtain ⟨b2, h2, _⟩ := decode_ok 2 l hm (.inr (.inr rfl))
      refine ⟨_, best_ok l hm b0 b1 b2 h0 h1 h2, ?_⟩
      rw [h0, h1, h2]
      simp only [Option.bind_some]
      rw [if_neg (by simp)]
      by_cases k1 : b1.length < b0.length
      · rw [if_pos (by omega)]
        simp only [k1, if_true]
        by_cases k2 : b2.length < b1.length
        · rw [if_pos (by omega), if_pos k2]
        · rw [if_neg (by omega), if_neg k2]
      · rw [if_neg (by omega)]
        simp only [k1, if_false]
        by_cases k2 : b2.length < b0.length
        · rw [if_pos (by omega), if_pos k2]
        · rw [if_neg (by omega), if_neg k2]
  have hsome : ∀ way, (way = 0 ∨ way = 1 ∨ way = 2) → ∃ r, pack_told way l = some r := by
    intro way hw
    cases hm : mayB l with
    | false => exact ⟨_, toldNo way l hm⟩
    | true => obtain ⟨b, h, _⟩ := decode_ok way l hm hw; exact ⟨_, h⟩
  obtain ⟨r0, t0⟩ := hsome 0 (.inl rfl)
  obtain ⟨r1, t1⟩ := hsome 1 (.inr (.inl rfl))
  obtain ⟨r2, t2⟩ := hsome 2 (.inr (.inr rfl))
  obtain ⟨r3, t3, t4⟩ := hbest
  rw [p0, q0, p1, q1, p2, q2, t0, t1, t2, t3, t4]
  simp only [Option.bind_some, if_true, known16_eq]
end Go.Proofs.Ytdicpnnmhjgnbaa.FW
