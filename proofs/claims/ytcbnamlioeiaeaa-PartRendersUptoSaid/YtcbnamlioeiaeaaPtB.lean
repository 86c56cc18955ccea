/- part's laws, as plain Lean: each answers true. -/
import Derived.Test.YtcbnamlioeiaeaaPtA
import Derived.Test.YtcbnamlioeiaeaaPtK1
namespace Go.Proofs.Ytcbnamlioeiaeaa.FW
set_option linter.unusedVariables false
set_option linter.unusedSimpArgs false
theorem put_wild (l : List Tok) (i : Nat) (x : Part) (h : x.1 = true) : put l i x = (true, ByteArray.empty) := by simp [put, h]
theorem put_fst (l : List Tok) (i : Nat) (x : Part) (h : x.1 = true) : (put l i x).1 = true := by simp [put, h]
theorem put_swap (a b : List Tok) (i : Nat) (x : Part) : put b i (put a i x) = put a i (put b i x) := by
  obtain ⟨x1, x2⟩ := x
  cases x1 with
  | true => simp [put]
  | false => cases ha : a[i]? with
    | none => cases hb : b[i]? with
      | none => simp [put, ha, hb]
      | some z => by_cases e2 : x2 = z.2 <;> simp [put, ha, hb, e2]
    | some y => cases hb : b[i]? with
      | none => by_cases e1 : x2 = y.2 <;> simp [put, ha, hb, e1]
      | some z => by_cases e1 : x2 = y.2 <;> by_cases e2 : x2 = z.2 <;> simp [put, ha, hb, e1, e2] <;> simp_all
theorem put_put (a : List Tok) (i : Nat) (x : Part) : put a i (put a i x) = put a i x := by
  obtain ⟨x1, x2⟩ := x
  cases x1 with
  | true => simp [put]
  | false => cases ha : a[i]? with
    | none => simp [put, ha]
    | some y => by_cases e1 : x2 = y.2 <;> simp [put, ha, e1]
theorem mrg_mrg (t : List Part) (a b : List Tok) : mrg (mrg t a) b = t.mapIdx fun i x => put b i (put a i x) := by
  unfold mrg; rw [List.mapIdx_mapIdx]; rfl
theorem mrg_swap (t : List Part) (a b : List Tok) : mrg (mrg t a) b = mrg (mrg t b) a := by
  rw [mrg_mrg, mrg_mrg]; congr; funext i x; exact put_swap a b i x
theorem mrg_again (t : List Part) (a : List Tok) : mrg (mrg t a) a = mrg t a := by
  rw [mrg_mrg]; unfold mrg; congr; funext i x; exact put_put a i x
theorem wild_le {t : List Part} {a : List Tok} : wildB t ≤ wildB (mrg t a) := by
  unfold wildB
  rw [mrg_len]
  have := cnt_mono (p := wildAt t) (q := wildAt (mrg t a)) (n := t.length) fun i hi h => by
    unfold wildAt at *
    rw [List.getElem?_eq_getElem hi] at h
    rw [List.getElem?_eq_getElem (by rw [mrg_len]; exact hi), mrg_at t a hi]
    exact put_fst a i _ h
  omega
theorem winnowerlaw14_PartWilder_true (t : List Part) (a b : List Tok) (h0 : Rng.ok t) (h1 : Rng.ok a) (h2 : Rng.ok b) : winnowerlaw14_PartWilder t a b = some true := by
  unfold winnowerlaw14_PartWilder
  rcases wide_or t h0 with e0 | ⟨e0, s0⟩
  · rw [e0]; rfl
  rcases long_or a h1 with e1 | ⟨e1, s1⟩
  · rw [e0, e1]; rfl
  rcases long_or b h2 with e2 | ⟨e2, s2⟩
  · rw [e0, e1, e2]; rfl
  have k0 := sz_len t
  rw [e0, e1, e2]
  simp only [Option.bind_some, Bool.false_eq_true, if_false]
  by_cases c1 : a.length = t.length
  · rw [if_neg (by omega)]
    by_cases c2 : b.length = t.length
    · rw [if_neg (by omega), merge_eq t a (by omega), Option.bind_some, merge_eq _ b (by rw [mrg_len]; omega), Option.bind_some, merge_eq t b (by omega), Option.bind_some, merge_eq _ a (by rw [mrg_len]; omega), Option.bind_some,
        wild_eq (mrg (mrg t a) b) (by rw [mrg_len, mrg_len]; omega), Option.bind_some, Option.bind_some, wild_eq (mrg t a) (by rw [mrg_len]; omega), Option.bind_some, if_pos wild_le, Option.bind_some, wild_eq (mrg t a) (by rw [mrg_len]; omega), Option.bind_some, wild_eq t (by omega), Option.bind_some, if_pos wild_le,
        refSame_eq _ _ (by rw [mrg_len, mrg_len]; omega), mrg_swap, known14]
      simp
    · rw [if_pos (by omega)]
  · rw [if_pos (by omega)]
theorem winnowerlaw14_PartMerges_true (t : List Part) (l m : List Tok) (h0 : Rng.ok t) (h1 : Rng.ok l) (h2 : Rng.ok m) : winnowerlaw14_PartMerges t l m = some true := by
  unfold winnowerlaw14_PartMerges
  rcases wide_or t h0 with e0 | ⟨e0, s0⟩
  · rw [e0]; rfl
  rcases long_or l h1 with e1 | ⟨e1, s1⟩
  · rw [e0, e1]; rfl
  rcases long_or m h2 with e2 | ⟨e2, s2⟩
  · rw [e0, e1, e2]; rfl
  have k0 := sz_len t
  rw [e0, e1, e2]
  simp only [Option.bind_some, Bool.false_eq_true, if_false]
  rcases Decidable.em (t.length = l.length) with c1 | c1
  case inr => rw [if_pos (by omega)]
  have hf : fits (mrg t l) l = true := by
    rw [fits_iff, mrg_len]
    refine ⟨c1, fun i hi => ?_⟩
    unfold fitAt
    rw [List.getElem?_eq_getElem (by rw [mrg_len]; exact hi), List.getElem?_eq_getElem (show i < l.length by omega), mrg_at t l hi]
    simp only [put, List.getElem?_eq_getElem (show i < l.length by omega)]
    split
    · rfl
    · split <;> simp [*]
  have hloop : loopM (fun i => winnowerlaw14_PartMerges_l0 t l (mrg t l) i) 0 = some (.inr ()) := loop_end (n := t.length) (step := fun i => winnowerlaw14_PartMerges_l0 t l (mrg t l) i) (.inr ()) (fun i hi => by
      have h2 : i < l.length := by omega
      unfold winnowerlaw14_PartMerges_l0
      rw [if_pos (by omega), at?_lt (show i < (mrg t l).length by rw [mrg_len]; exact hi), Option.bind_some, at?_lt hi, Option.bind_some, cast_succ _ (by omega), mrg_at t l hi, at?_lt h2, Option.bind_some]
      simp only [put, List.getElem?_eq_getElem h2]
      cases hx : t[i].1 with
      | true => simp; rfl
      | false => by_cases he : t[i].2 = l[i].2
                 · simp [he, hx]
                 · simp [he, hx]; rfl) (by
      unfold winnowerlaw14_PartMerges_l0
      rw [if_neg (by omega)])
  have hm : fits t m = true → fits (mrg t l) m = true := by
    intro h
    rw [fits_iff] at h ⊢
    rw [mrg_len]
    refine ⟨h.1, fun i hi => ?_⟩
    have h3 := h.2 i hi
    unfold fitAt at h3 ⊢
    rw [List.getElem?_eq_getElem hi, List.getElem?_eq_getElem (show i < m.length by omega)] at h3
    rw [List.getElem?_eq_getElem (by rw [mrg_len]; exact hi), List.getElem?_eq_getElem (show i < m.length by omega), mrg_at t l hi]
    simp only [put, List.getElem?_eq_getElem (show i < l.length by omega)]
    split
    · rfl
    · split
      · exact h3
      · rfl
  have hlen : ¬ (((mrg t l).length : Nat) : Int) ≠ ((t.length : Nat) : Int) := by rw [mrg_len]; simp
  have hfin : ((part_Merge (mrg t l) l).bind fun y7 => (winnowerref14_Same y7 (mrg t l)).bind fun y8 => if y8 = true then (winnowerlaw14_known).bind fun y9 => some y9 else some false) = some true := by
    rw [merge_eq _ _ (by rw [mrg_len]; omega), Option.bind_some, mrg_again, refSame_eq _ _ (by rw [mrg_len]; omega), known14]; simp
  rw [if_neg (by omega), merge_eq t l (by omega), Option.bind_some, fits_eq _ _ (by rw [mrg_len]; omega), Option.bind_some, hf, if_pos rfl, fits_eq _ _ (by omega), Option.bind_some]
  cases hc : fits t m with
  | true =>
    rw [if_pos rfl, fits_eq _ _ (by rw [mrg_len]; omega), Option.bind_some, hm hc, if_pos rfl, if_neg hlen, hloop, Option.bind_some, Sum.elim_inr]; exact hfin
  | false =>
    rw [if_neg (by simp), if_neg hlen, hloop, Option.bind_some, Sum.elim_inr]; exact hfin
theorem winnowerlaw14_PartTells_true (t : List Part) (l : List Tok) (b : List Part) (h0 : Rng.ok t) (h1 : Rng.ok l) (h2 : Rng.ok b) : winnowerlaw14_PartTells t l b = some true := by
  unfold winnowerlaw14_PartTells
  rcases wide_or t h0 with e0 | ⟨e0, s0⟩
  · rw [e0]; rfl
  rcases wide_or b h2 with e2 | ⟨e2, s2⟩
  · rw [e0, e2]; rfl
  rcases long_or l h1 with e1 | ⟨e1, s1⟩
  · rw [e0, e2, e1]; rfl
  have k0 := sz_len t
  have k1 := sz_len l
  have hv := vars_len t l t.length
  rw [e0, e2, e1]
  simp only [Option.bind_some, Bool.false_eq_true, if_false]
  rw [refAlike_eq _ _ (by omega), Option.bind_some, of_eq _ (by omega), Option.bind_some, refOf_eq _ (by omega), Option.bind_some, refSame_eq _ _ (by simp [ofB]; omega), Option.bind_some, decide_eq_true rfl, if_pos rfl,
    partAlike_eq _ _ (by omega), Option.bind_some, if_pos rfl, fits_eq _ _ (by omega), Option.bind_some]
  have hfin : ((part_Merge t l).bind fun y9 => (winnowerref14_Merge t l).bind fun y10 => (winnowerref14_Same y9 y10).bind fun y11 => if y11 = true then (part_Vars t l).bind fun y12 => (winnowerref14_Vars t l).bind fun y13 => (winnowerlaw14_texts y12 y13).bind fun y14 => if y14 = true then (part_Wild t).bind fun y15 => (winnowerref14_Wild t).bind fun y16 => if y15 = y16 then (part_Same t b).bind fun y17 => (winnowerref14_Same t b).bind fun y18 => if (y17 == y18) = true then (part_Same t t).bind fun y19 => if y19 = true then (winnowerlaw14_known).bind fun y20 => some y20 else some false else some false else some false else some false else some false) = some true := by
    rw [merge_eq _ _ (by omega), Option.bind_some, refMerge_eq _ _ (by omega), Option.bind_some, refSame_eq _ _ (by rw [mrg_len]; omega), Option.bind_some, decide_eq_true rfl, if_pos rfl, vars_eq _ _ (by omega), Option.bind_some, refVars_eq _ _ (by omega), Option.bind_some, texts_eq _ (by omega), Option.bind_some, if_pos rfl,
      wild_eq _ (by omega), Option.bind_some, refWild_eq _ (by omega), Option.bind_some, if_pos rfl, partSame_eq _ _ (by omega), Option.bind_some, refSame_eq _ _ (by omega), Option.bind_some, if_pos (by simp), partSame_eq _ _ (by omega), Option.bind_some, decide_eq_true rfl, if_pos rfl, known14]; rfl
  by_cases hc : alikeB t l = ((t.length : Nat) : Int)
  · rw [if_pos hc, if_pos (by simp [fits, hc])]; exact hfin
  · rw [if_neg hc, if_pos (by simp [fits, hc])]; exact hfin
end Go.Proofs.Ytcbnamlioeiaeaa.FW
