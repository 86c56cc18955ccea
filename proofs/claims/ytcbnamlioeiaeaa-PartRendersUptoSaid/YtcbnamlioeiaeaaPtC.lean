/- part: Render, Join, and the law PartBack, as plain Lean. -/
import Derived.Test.YtcbnamlioeiaeaaPtB
namespace Go.Proofs.Ytcbnamlioeiaeaa.FW
set_option linter.unusedVariables false
set_option linter.unusedSimpArgs false
def by' (s : ByteArray) : List UInt8 := s.data.toList
theorem by'_len (s : ByteArray) : (by' s).length = s.size := Array.length_toList
theorem strOf_by' (s : ByteArray) : strOf (by' s) = s := by
  obtain ⟨d⟩ := s
  simp [strOf, by']
theorem by'_strOf (l : List UInt8) : by' (strOf l) = l := by simp [strOf, by']
theorem by'_app (a b : ByteArray) : by' (a ++ b) = by' a ++ by' b := by
  simp [by']
/-- What a template and its variables are. -/
def rnd : List Part → List ByteArray → List UInt8
  | [], _ => []
  | x :: t, vs => if x.1 = true then (match vs with
    | [] => rnd t []
    | v :: vs' => by' v ++ rnd t vs') else by' x.2 ++ rnd t vs
def wildN (t : List Part) : Nat := (t.filter (·.1)).length
theorem wildN_cons (x : Part) (t : List Part) : wildN (x :: t) = (if x.1 = true then 1 else 0) + wildN t := by
  unfold wildN
  cases h : x.1 <;> simp [h]; omega
theorem cnt_wild (t : List Part) : ∀ n, n ≤ t.length → cnt (wildAt t) n = wildN (t.take n)
  | 0, _ => rfl
  | n + 1, h => by
    have h1 : n < t.length := by omega
    rw [List.take_succ_eq_append_getElem h1]
    simp only [cnt, wildAt, List.getElem?_eq_getElem h1]
    rw [cnt_wild t n (by omega)]
    unfold wildN
    rw [List.filter_append, List.length_append]
    cases hx : t[n].1 <;> simp [hx]
theorem wildB_eq (t : List Part) : wildB t = ((wildN t : Nat) : Int) := by
  unfold wildB
  rw [cnt_wild t _ (Nat.le_refl _), List.take_length]
theorem write_eq (f : List UInt8) (s : ByteArray) (h : f.length + s.size ≤ 100000000000) : strings_Builder_WriteString f s = some (f ++ by' s, ((s.size : Nat) : Int)) := by
  unfold strings_Builder_WriteString strings_Builder_copyCheck
  have := by'_len s
  unfold by' at this
  rw [Option.bind_some, app_sm (by decide) (by omega)]; rfl
theorem render_loop (t : List Part) (hb : t.length < 100000000) : ∀ (d i : Nat) (vs : List ByteArray) (f : List UInt8), i + d = t.length → wildN (t.drop i) = vs.length → vs.length < 100000000 → f.length + (rnd (t.drop i) vs).length ≤ 100000000000 →
    loopM (fun (vs, v, f) => part_Render_l0 t vs v f) (vs, (i : Int), f) = some (f ++ rnd (t.drop i) vs)
  | 0, i, vs, f, hi, hw, hv, hf => by
    rw [List.drop_eq_nil_of_le (by omega)]
    refine loopM_inr ?_
    simp only
    unfold part_Render_l0
    rw [if_neg (by omega)]; simp [rnd]
  | d + 1, i, vs, f, hi, hw, hv, hf => by
    have h1 : i < t.length := by omega
    have hd := List.drop_eq_getElem_cons h1
    rw [hd] at hw hf ⊢
    rw [wildN_cons] at hw
    by_cases hx : t[i].1 = true
    · rw [if_pos hx] at hw
      cases vs with
      | nil => simp at hw
      | cons v vs =>
        simp only [rnd, if_pos hx, List.length_append, List.length_cons] at hf hw hv ⊢
        rw [by'_len] at hf
        rw [← List.append_assoc, ← render_loop t hb d (i + 1) vs (f ++ by' v) (by omega) (by omega) (by omega) (by rw [List.length_append, by'_len]; omega)]
        refine loopM_inl ?_
        simp only
        unfold part_Render_l0
        rw [if_pos (by omega), at?_lt h1, Option.bind_some, if_pos hx, show at? (v :: vs) 0 = some v from rfl, Option.bind_some, write_eq _ _ (by omega), Option.bind_some]
        unfold sub?
        rw [if_pos (by simp only [List.length_cons]; omega), Option.bind_some, cast_succ _ (by omega)]
        simp
    · rw [if_neg hx] at hw
      simp only [rnd, if_neg hx, List.length_append] at hf ⊢
      rw [by'_len] at hf
      rw [← List.append_assoc, ← render_loop t hb d (i + 1) vs (f ++ by' t[i].2) (by omega) (by omega) hv (by rw [List.length_append, by'_len]; omega)]
      refine loopM_inl ?_
      simp only
      unfold part_Render_l0
      rw [if_pos (by omega), at?_lt h1, Option.bind_some, if_neg hx, write_eq _ _ (by omega), Option.bind_some, cast_succ _ (by omega)]
def renderB (t : List Part) (vs : List ByteArray) : ByteArray × Int := if wildN t = vs.length then (strOf (rnd t vs), 0) else ((⟨#[]⟩ : ByteArray), 1)
theorem render_eq (t : List Part) (vs : List ByteArray) (hb : t.length < 100000000) (hf : wildN t = vs.length → (rnd t vs).length ≤ 100000000000) : part_Render t vs = some (renderB t vs) := by
  unfold part_Render renderB
  rw [wild_eq t hb, Option.bind_some, wildB_eq]
  by_cases h : wildN t = vs.length
  · have hv : wildN t ≤ t.length := List.length_filter_le _ _
    rw [if_neg (by omega), if_pos h]
    have := render_loop t hb t.length 0 vs [] (by omega) (by rw [List.drop_zero]; exact h) (by omega) (by rw [List.drop_zero]; simp; exact hf h)
    rw [List.drop_zero, List.nil_append] at this
    rw [show (vs, (0 : Int), ([] : List UInt8)) = (vs, ((0 : Nat) : Int), []) from rfl, this]; rfl
  · rw [if_pos (by omega), if_neg h]
theorem cat_sm (a b : ByteArray) (h : a.size + b.size ≤ 100000000000) : cat? a b = some (a ++ b) := if_pos (by omega)
theorem refRender_loop (t : List Part) (vars : List ByteArray) (hb : t.length < 100000000) : ∀ (d i k : Nat) (s : ByteArray), i + d = t.length → wildN (t.drop i) + k = vars.length → vars.length < 100000000 → s.size + (rnd (t.drop i) (vars.drop k)).length ≤ 100000000000 →
    ∃ r, loopM (fun (s, k, i) => winnowerref14_Render_l0 t vars s k i) (s, (k : Int), (i : Int)) = some r ∧ by' r = by' s ++ rnd (t.drop i) (vars.drop k)
  | 0, i, k, s, hi, hw, hv, hf => by
    rw [List.drop_eq_nil_of_le (show t.length ≤ i by omega)]
    refine ⟨s, loopM_inr ?_, by simp [rnd]⟩
    simp only
    unfold winnowerref14_Render_l0
    rw [if_neg (by omega)]
  | d + 1, i, k, s, hi, hw, hv, hf => by
    have h1 : i < t.length := by omega
    have hd := List.drop_eq_getElem_cons h1
    rw [hd] at hw hf ⊢
    rw [wildN_cons] at hw
    by_cases hx : t[i].1 = true
    · rw [if_pos hx] at hw
      have hk : k < vars.length := by omega
      have hdk := List.drop_eq_getElem_cons hk
      rw [hdk] at hf ⊢
      simp only [rnd, if_pos hx, List.length_append] at hf ⊢
      rw [by'_len] at hf
      have hs : (s ++ vars[k]).size = s.size + vars[k].size := by simp
      obtain ⟨r, e1, e2⟩ := refRender_loop t vars hb d (i + 1) (k + 1) (s ++ vars[k]) (by omega) (by omega) hv (by rw [hs]; omega)
      refine ⟨r, ?_, by rw [e2, by'_app, List.append_assoc]⟩
      rw [← e1]
      refine loopM_inl ?_
      simp only
      unfold winnowerref14_Render_l0
      rw [if_pos (by omega), at?_lt h1, Option.bind_some, if_pos hx, at?_lt hk, Option.bind_some, cat_sm _ _ (by omega), Option.bind_some, cast_succ _ (by omega), cast_succ _ (by omega)]
    · rw [if_neg hx] at hw
      simp only [rnd, if_neg hx, List.length_append] at hf ⊢
      rw [by'_len] at hf
      have hs : (s ++ t[i].2).size = s.size + t[i].2.size := by simp
      obtain ⟨r, e1, e2⟩ := refRender_loop t vars hb d (i + 1) k (s ++ t[i].2) (by omega) (by omega) hv (by rw [hs]; omega)
      refine ⟨r, ?_, by rw [e2, by'_app, List.append_assoc]⟩
      rw [← e1]
      refine loopM_inl ?_
      simp only
      unfold winnowerref14_Render_l0
      rw [if_pos (by omega), at?_lt h1, Option.bind_some, if_neg hx, cat_sm _ _ (by omega), Option.bind_some, cast_succ _ (by omega)]
theorem refRender_eq (t : List Part) (vs : List ByteArray) (hb : t.length < 100000000) (hf : wildN t = vs.length → (rnd t vs).length ≤ 100000000000) : winnowerref14_Render t vs = some (renderB t vs) := by
  unfold winnowerref14_Render renderB
  rw [refWild_eq t hb, Option.bind_some, wildB_eq]
  by_cases h : wildN t = vs.length
  · have hv : wildN t ≤ t.length := List.length_filter_le _ _
    rw [if_neg (by omega), if_pos h]
    obtain ⟨r, e1, e2⟩ := refRender_loop t vs hb t.length 0 0 (⟨#[]⟩ : ByteArray) (by omega) (by rw [List.drop_zero]; omega) (by omega) (by rw [List.drop_zero, List.drop_zero]; have := hf h; show 0 + _ ≤ _; omega)
    rw [List.drop_zero, List.drop_zero] at e2
    have e3 : r = strOf (rnd t vs) := by rw [← strOf_by' r, e2]; rfl
    rw [show ((⟨#[]⟩ : ByteArray), (0 : Int), (0 : Int)) = ((⟨#[]⟩ : ByteArray), ((0 : Nat) : Int), ((0 : Nat) : Int)) from rfl, e1, e3]; rfl
  · rw [if_pos (by omega), if_neg h]
/-- The texts of a row of tokens. -/
def txt (l : List Tok) : List UInt8 := l.flatMap fun y => by' y.2
theorem txt_len (l : List Tok) : (txt l).length ≤ sz l := by
  induction l with
  | nil => simp [txt]
  | cons y l ih =>
    simp only [txt, sz, List.flatMap_cons, List.length_append, List.map_cons, List.sum_cons, by'_len] at *; omega
theorem join_loop (l : List Tok) (hs : sz l ≤ 1500) : ∀ (d i : Nat) (s : ByteArray), i + d = l.length → by' s = txt (l.take i) →
    ∃ r, loopM (fun (s, i) => winnowerref13_Join_l0 l s i) (s, (i : Int)) = some r ∧ by' r = txt l
  | 0, i, s, hi, h => by
    obtain rfl : i = l.length := by omega
    rw [List.take_length] at h
    refine ⟨s, loopM_inr ?_, h⟩
    simp only
    unfold winnowerref13_Join_l0
    rw [if_neg (by omega)]
  | d + 1, i, s, hi, h => by
    have h1 : i < l.length := by omega
    have h2 := txt_len (l.take i)
    have h3 := sz_take l i h1
    have h4 : sz (l.take (i + 1)) ≤ sz l := by
      unfold sz
      conv => rhs; rw [← List.take_append_drop (i + 1) l, List.map_append, List.sum_append]
      omega
    have h5 := by'_len s
    rw [h] at h5
    have h6 := sz_len l
    obtain ⟨r, e1, e2⟩ := join_loop l hs d (i + 1) (s ++ l[i].2) (by omega) (by unfold txt at h ⊢; rw [by'_app, h, List.take_succ_eq_append_getElem h1, List.flatMap_append]; simp only [List.flatMap_cons, List.flatMap_nil, List.append_nil])
    refine ⟨r, ?_, e2⟩
    rw [← e1]
    refine loopM_inl ?_
    simp only
    unfold winnowerref13_Join_l0
    rw [if_pos (by omega), at?_lt h1, Option.bind_some, cat_sm _ _ (by omega), Option.bind_some, cast_succ _ (by omega)]
theorem join_eq (l : List Tok) (hs : sz l ≤ 1500) : winnowerref13_Join l = some (strOf (txt l)) := by
  unfold winnowerref13_Join
  obtain ⟨r, e1, e2⟩ := join_loop l hs l.length 0 (⟨#[]⟩ : ByteArray) (by omega) rfl
  rw [show ((⟨#[]⟩ : ByteArray), (0 : Int)) = ((⟨#[]⟩ : ByteArray), ((0 : Nat) : Int)) from rfl, e1, ← e2, strOf_by']; rfl
/-- The variables, as a list. -/
def vl : List Part → List Tok → List ByteArray
  | x :: t, y :: l => if x.1 = true then y.2 :: vl t l else vl t l
  | _, _ => []
theorem vars_vl (t : List Part) (l : List Tok) : ∀ n, vars t l n ++ vl (t.drop n) (l.drop n) = vl t l
  | 0 => rfl
  | n + 1 => by
    rw [← vars_vl t l n]
    simp only [vars, List.append_assoc]
    congr 1
    unfold varAt
    rcases Nat.lt_or_ge n t.length with h1 | h1
    · rcases Nat.lt_or_ge n l.length with h2 | h2
      · rw [List.drop_eq_getElem_cons h1, List.drop_eq_getElem_cons h2]
        simp only [List.getElem?_eq_getElem h1, List.getElem?_eq_getElem h2, vl]
        split <;> rfl
      · rw [List.drop_eq_nil_of_le (show l.length ≤ n by omega), List.drop_eq_nil_of_le (show l.length ≤ n + 1 by omega), List.getElem?_eq_none h2]
        cases t[n]? <;> simp [vl]
    · rw [List.drop_eq_nil_of_le (show t.length ≤ n by omega), List.drop_eq_nil_of_le (show t.length ≤ n + 1 by omega), List.getElem?_eq_none h1]
      simp [vl]
theorem vars_is (t : List Part) (l : List Tok) : vars t l t.length = vl t l := by
  have := vars_vl t l t.length
  rw [List.drop_length] at this
  simpa [vl] using this
theorem fits_cons (x : Part) (t : List Part) (y : Tok) (l : List Tok) : fits (x :: t) (y :: l) = true ↔ (x.1 = true ∨ x.2 = y.2) ∧ fits t l = true := by
  rw [fits_iff, fits_iff]
  constructor
  · rintro ⟨h1, h2⟩
    refine ⟨by simpa [fitAt] using h2 0 (by simp), by simpa using h1, fun i hi => by simpa [fitAt] using h2 (i + 1) (by simpa using hi)⟩
  · rintro ⟨h0, h1, h2⟩
    refine ⟨by simp [h1], fun i hi => ?_⟩
    cases i with
    | zero => simpa [fitAt] using h0
    | succ i => simpa [fitAt] using h2 i (by simpa using hi)
theorem rnd_fits : ∀ (t : List Part) (l : List Tok), fits t l = true → rnd t (vl t l) = txt l ∧ wildN t = (vl t l).length
  | [], [], _ => ⟨rfl, rfl⟩
  | [], y :: l, h => by have := (fits_iff.1 h).1; simp at this
  | x :: t, [], h => by have := (fits_iff.1 h).1; simp at this
  | x :: t, y :: l, h => by
    obtain ⟨h1, h2⟩ := (fits_cons x t y l).1 h
    obtain ⟨i1, i2⟩ := rnd_fits t l h2
    rw [wildN_cons]
    by_cases hx : x.1 = true
    · simp only [vl, if_pos hx, rnd, List.length_cons, i1, i2, txt, List.flatMap_cons]
      exact ⟨trivial, by omega⟩
    · have he : x.2 = y.2 := by rcases h1 with h | h; exact absurd h hx; exact h
      simp only [vl, if_neg hx, rnd, i1, i2, txt, List.flatMap_cons, he]
      exact ⟨trivial, by omega⟩
theorem of_fits : ∀ l : List Tok, fits (ofB l) l = true
  | [] => by rw [fits_iff]; exact ⟨rfl, fun i hi => by simp [ofB] at hi⟩
  | y :: l => by
    have : ofB (y :: l) = (if 0 ≤ y.1 ∧ y.1 ≤ 5 then (true, ByteArray.empty) else (false, y.2)) :: ofB l := rfl
    rw [this, fits_cons]
    refine ⟨?_, of_fits l⟩
    split
    · exact .inl rfl
    · exact .inr rfl
theorem render_fits (t : List Part) (l : List Tok) (h : fits t l = true) (hs : sz l ≤ 1500) : (part_Vars t l).bind (fun v => part_Render t v) = some (strOf (txt l), 0) := by
  have h1 := (fits_iff.1 h).1
  have h2 := sz_len l
  have h3 := txt_len l
  obtain ⟨i1, i2⟩ := rnd_fits t l h
  rw [vars_eq t l (by omega), Option.bind_some, vars_is, render_eq t _ (by omega) (fun _ => by rw [i1]; omega)]
  unfold renderB
  rw [if_pos i2, i1]
theorem winnowerlaw14_PartBack_true (t : List Part) (l : List Tok) (h0 : Rng.ok t) (h1 : Rng.ok l) : winnowerlaw14_PartBack t l = some true := by
  unfold winnowerlaw14_PartBack
  rcases wide_or t h0 with e0 | ⟨e0, s0⟩
  · rw [e0]; rfl
  rcases long_or l h1 with e1 | ⟨e1, s1⟩
  · rw [e0, e1]; rfl
  have k0 := sz_len t
  have k1 := sz_len l
  have hol : (ofB l).length = l.length := by simp [ofB]
  rw [e0, e1]
  simp only [Option.bind_some, Bool.false_eq_true, if_false]
  have r0 := render_fits (ofB l) l (of_fits l) s1
  rw [vars_eq _ _ (by omega), Option.bind_some] at r0
  rw [of_eq _ (by omega), Option.bind_some, vars_eq _ _ (by omega), Option.bind_some, r0, Option.bind_some, fits_eq _ _ (by omega), Option.bind_some, of_fits, if_pos rfl, join_eq l s1, Option.bind_some]
  simp only
  rw [if_neg (by simp), if_neg (by simp), refAlike_eq _ _ (by omega), Option.bind_some]
  by_cases c1 : alikeB t l = ((t.length : Nat) : Int)
  · rw [if_neg (by simpa using c1)]
    have hf : fits t l = true := decide_eq_true c1
    have hl := (fits_iff.1 hf).1
    rw [if_neg (by omega)]
    have r1 := render_fits t l hf s1
    rw [vars_eq _ _ (by omega), Option.bind_some] at r1
    rw [vars_eq _ _ (by omega), Option.bind_some, r1, Option.bind_some, Option.bind_some, if_pos rfl, if_pos rfl, known14]; rfl
  · rw [if_pos c1, known14]; rfl
end Go.Proofs.Ytcbnamlioeiaeaa.FW
