/- part: what Of, Alike, Merge, Vars, Wild and Same come to, as plain Lean. -/
import Derived.Test.YtcbnamlioeiaeaaPtQ
import Derived.Test.YtcbnamlioeiaeaaP1
import Derived.Test.YtcbnamlioeiaeaaX4
namespace Go.Proofs.Ytcbnamlioeiaeaa.FW
set_option linter.unusedVariables false
set_option linter.unusedSimpArgs false
abbrev Part := Bool × ByteArray
abbrev Tok := Int × ByteArray
theorem app_sm {α : Type} {k : Nat} {a b : List α} (hk : k ≤ 1000) (h : a.length + b.length ≤ 100000000000) : app? k a b = some (a ++ b) :=
  app?_eq (Nat.le_trans (Nat.mul_le_mul h hk) (by decide))
/-- The weight that wide and long count. -/
def sz {α : Type} (t : List (α × ByteArray)) : Nat := (t.map fun x => x.2.size + 1).sum
theorem sz_take {α : Type} (t : List (α × ByteArray)) (i : Nat) (h : i < t.length) : sz (t.take (i + 1)) = sz (t.take i) + (t[i].2.size + 1) := by
  unfold sz
  rw [List.take_succ_eq_append_getElem h, List.map_append, List.sum_append]; simp
theorem sz_len {α : Type} (t : List (α × ByteArray)) : t.length ≤ sz t := by
  induction t with
  | nil => simp [sz]
  | cons x t ih => simp only [sz, List.map_cons, List.sum_cons, List.length_cons] at *; omega
theorem wide_loop (t : List Part) (hr : ∀ x ∈ t, x.2.size ≤ 140737488351232) : ∀ (d i : Nat), i + d = t.length → sz (t.take i) ≤ 1500 →
    loopM (fun (n, i) => winnowerlaw14_wide_l0 t n i) (((sz (t.take i) : Nat) : Int), (i : Int)) = some (.inl true) ∨
    (loopM (fun (n, i) => winnowerlaw14_wide_l0 t n i) (((sz (t.take i) : Nat) : Int), (i : Int)) = some (.inr ()) ∧ sz t ≤ 1500)
  | 0, i, hi, hs => by
    obtain rfl : i = t.length := by omega
    rw [List.take_length] at *
    refine .inr ⟨loopM_inr ?_, hs⟩
    simp only
    unfold winnowerlaw14_wide_l0
    rw [if_neg (by omega)]
  | d + 1, i, hi, hs => by
    have h1 : i < t.length := by omega
    have h2 := hr _ (List.getElem_mem h1)
    have h3 := sz_take t i h1
    have h4 := sz_len (t.take i)
    rw [List.length_take] at h4
    have hw : w64 (w64 (((sz (t.take i) : Nat) : Int) + 1) + ((t[i].2.size : Nat) : Int)) = ((sz (t.take (i + 1)) : Nat) : Int) := by
      rw [w64_id (n := ((sz (t.take i) : Nat) : Int) + 1) (by omega), w64_id (by omega), h3]; omega
    have step : winnowerlaw14_wide_l0 t ((sz (t.take i) : Nat) : Int) (i : Int) = if ((sz (t.take (i + 1)) : Nat) : Int) > 1500 then some (.inr (.inl true)) else some (.inl (((sz (t.take (i + 1)) : Nat) : Int), ((i + 1 : Nat) : Int))) := by
      unfold winnowerlaw14_wide_l0
      rw [if_pos (by omega), at?_lt h1, Option.bind_some, hw, cast_succ _ (by omega)]
    by_cases hc : ((sz (t.take (i + 1)) : Nat) : Int) > 1500
    · rw [if_pos hc] at step
      exact .inl (loopM_inr step)
    · rw [if_neg hc] at step
      rw [loopM_inl (step := fun (n, i) => winnowerlaw14_wide_l0 t n i) (s := (((sz (t.take i) : Nat) : Int), (i : Int))) (s' := (((sz (t.take (i + 1)) : Nat) : Int), ((i + 1 : Nat) : Int))) step]
      exact wide_loop t hr d (i + 1) (by omega) (by omega)
theorem rng_sizes {α : Type} [Rng α] {t : List (α × ByteArray)} (h : Rng.ok t) : ∀ x ∈ t, x.2.size ≤ 140737488351232 := fun x hx => (h.2 x hx).2
theorem wide_or (t : List Part) (h : Rng.ok t) : winnowerlaw14_wide t = some true ∨ (winnowerlaw14_wide t = some false ∧ sz t ≤ 1500) := by
  have := wide_loop t (rng_sizes h) t.length 0 (by omega) (by simp [sz])
  rw [List.take_zero] at this
  unfold winnowerlaw14_wide
  rw [show ((0 : Int), (0 : Int)) = (((sz ([] : List Part) : Nat) : Int), ((0 : Nat) : Int)) from rfl]
  rcases this with h | ⟨h, h2⟩
  · rw [h]; exact .inl rfl
  · rw [h]; exact .inr ⟨rfl, h2⟩
theorem long_loop (t : List Tok) (hr : ∀ x ∈ t, x.2.size ≤ 140737488351232) : ∀ (d i : Nat), i + d = t.length → sz (t.take i) ≤ 1500 →
    loopM (fun (n, i) => winnowerlaw14_long_l0 t n i) (((sz (t.take i) : Nat) : Int), (i : Int)) = some (.inl true) ∨
    (loopM (fun (n, i) => winnowerlaw14_long_l0 t n i) (((sz (t.take i) : Nat) : Int), (i : Int)) = some (.inr ()) ∧ sz t ≤ 1500)
  | 0, i, hi, hs => by
    obtain rfl : i = t.length := by omega
    rw [List.take_length] at *
    refine .inr ⟨loopM_inr ?_, hs⟩
    simp only
    unfold winnowerlaw14_long_l0
    rw [if_neg (by omega)]
  | d + 1, i, hi, hs => by
    have h1 : i < t.length := by omega
    have h2 := hr _ (List.getElem_mem h1)
    have h3 := sz_take t i h1
    have h4 := sz_len (t.take i)
    rw [List.length_take] at h4
    have hw : w64 (w64 (((sz (t.take i) : Nat) : Int) + 1) + ((t[i].2.size : Nat) : Int)) = ((sz (t.take (i + 1)) : Nat) : Int) := by
      rw [w64_id (n := ((sz (t.take i) : Nat) : Int) + 1) (by omega), w64_id (by omega), h3]; omega
    have step : winnowerlaw14_long_l0 t ((sz (t.take i) : Nat) : Int) (i : Int) = if ((sz (t.take (i + 1)) : Nat) : Int) > 1500 then some (.inr (.inl true)) else some (.inl (((sz (t.take (i + 1)) : Nat) : Int), ((i + 1 : Nat) : Int))) := by
      unfold winnowerlaw14_long_l0
      rw [if_pos (by omega), at?_lt h1, Option.bind_some, hw, cast_succ _ (by omega)]
    by_cases hc : ((sz (t.take (i + 1)) : Nat) : Int) > 1500
    · rw [if_pos hc] at step
      exact .inl (loopM_inr step)
    · rw [if_neg hc] at step
      rw [loopM_inl (step := fun (n, i) => winnowerlaw14_long_l0 t n i) (s := (((sz (t.take i) : Nat) : Int), (i : Int))) (s' := (((sz (t.take (i + 1)) : Nat) : Int), ((i + 1 : Nat) : Int))) step]
      exact long_loop t hr d (i + 1) (by omega) (by omega)
theorem long_or (t : List Tok) (h : Rng.ok t) : winnowerlaw14_long t = some true ∨ (winnowerlaw14_long t = some false ∧ sz t ≤ 1500) := by
  have := long_loop t (rng_sizes h) t.length 0 (by omega) (by simp [sz])
  rw [List.take_zero] at this
  unfold winnowerlaw14_long
  rw [show ((0 : Int), (0 : Int)) = (((sz ([] : List Tok) : Nat) : Int), ((0 : Nat) : Int)) from rfl]
  rcases this with h | ⟨h, h2⟩
  · rw [h]; exact .inl rfl
  · rw [h]; exact .inr ⟨rfl, h2⟩
/-- How many below n. -/
def cnt (p : Nat → Bool) : Nat → Nat
  | 0 => 0
  | n + 1 => if p n then cnt p n + 1 else cnt p n
theorem cnt_le (p : Nat → Bool) : ∀ n, cnt p n ≤ n
  | 0 => Nat.le_refl _
  | n + 1 => by have := cnt_le p n; simp only [cnt]; split <;> omega
theorem cnt_mono {p q : Nat → Bool} : ∀ {n}, (∀ i, i < n → p i = true → q i = true) → cnt p n ≤ cnt q n
  | 0, _ => Nat.le_refl _
  | n + 1, h => by
    have h1 := cnt_mono (n := n) fun i hi => h i (by omega)
    have h2 := h n (by omega)
    simp only [cnt]
    cases hp : p n with
    | false => simp only [Bool.false_eq_true, if_false]; split <;> omega
    | true => rw [h2 hp]; simp only [if_true]; omega
theorem cnt_all {p : Nat → Bool} : ∀ {n}, cnt p n = n ↔ ∀ i, i < n → p i = true
  | 0 => ⟨fun _ i hi => by omega, fun _ => rfl⟩
  | n + 1 => by
    have h1 := cnt_le p n
    simp only [cnt]
    constructor
    · intro h
      cases hp : p n with
      | false => rw [hp] at h; simp only [Bool.false_eq_true, if_false] at h; omega
      | true =>
        rw [hp] at h; simp only [if_true] at h
        have := cnt_all.1 (show cnt p n = n by omega)
        intro i hi
        rcases Nat.lt_or_ge i n with h2 | h2
        · exact this i h2
        · obtain rfl : i = n := by omega
          exact hp
    · intro h
      rw [h n (by omega), cnt_all.2 fun i hi => h i (by omega)]; rfl
/-- Whether a place of a template takes a token. -/
def fitAt (t : List Part) (l : List Tok) (i : Nat) : Bool := match t[i]?, l[i]? with
  | some x, some y => x.1 || decide (x.2 = y.2)
  | _, _ => false
theorem alike_loop (t : List Part) (l : List Tok) (hl : t.length = l.length) (hb : t.length < 100000000) : ∀ (d i : Nat), i + d = t.length →
    loopM (fun (n, v) => part_Alike_l0 t l n v) (((cnt (fitAt t l) i : Nat) : Int), (i : Int)) = some ((cnt (fitAt t l) t.length : Nat) : Int)
  | 0, i, hi => by
    obtain rfl : i = t.length := by omega
    refine loopM_inr ?_
    simp only
    unfold part_Alike_l0
    rw [if_neg (by omega)]
  | d + 1, i, hi => by
    have h1 : i < t.length := by omega
    have h2 : i < l.length := by omega
    have h3 := cnt_le (fitAt t l) i
    rw [← alike_loop t l hl hb d (i + 1) (by omega)]
    refine loopM_inl ?_
    simp only
    unfold part_Alike_l0 part_is
    rw [if_pos (by omega), at?_lt h1, Option.bind_some, at?_lt h2, Option.bind_some, cast_succ _ (by omega), cast_succ _ (by omega)]
    simp only [cnt, fitAt, List.getElem?_eq_getElem h1, List.getElem?_eq_getElem h2]
    cases hx : t[i].1 with
    | true => simp
    | false => by_cases he : t[i].2 = l[i].2 <;> simp [he]
theorem refAlike_loop (t : List Part) (l : List Tok) (hl : t.length = l.length) (hb : t.length < 100000000) : ∀ (d i : Nat), i + d = t.length →
    loopM (fun (n, v) => winnowerref14_Alike_l0 t l n v) (((cnt (fitAt t l) i : Nat) : Int), (i : Int)) = some ((cnt (fitAt t l) t.length : Nat) : Int)
  | 0, i, hi => by
    obtain rfl : i = t.length := by omega
    refine loopM_inr ?_
    simp only
    unfold winnowerref14_Alike_l0
    rw [if_neg (by omega)]
  | d + 1, i, hi => by
    have h1 : i < t.length := by omega
    have h2 : i < l.length := by omega
    have h3 := cnt_le (fitAt t l) i
    rw [← refAlike_loop t l hl hb d (i + 1) (by omega)]
    refine loopM_inl ?_
    simp only
    unfold winnowerref14_Alike_l0
    rw [if_pos (by omega), at?_lt h1, Option.bind_some, cast_succ _ (by omega), cast_succ _ (by omega)]
    simp only [cnt, fitAt, List.getElem?_eq_getElem h1, List.getElem?_eq_getElem h2]
    cases hx : t[i].1 with
    | true => simp
    | false => rw [at?_lt h2]; by_cases he : t[i].2 = l[i].2 <;> simp [he]
/-- What Alike comes to. -/
def alikeB (t : List Part) (l : List Tok) : Int := if t.length = l.length then ((cnt (fitAt t l) t.length : Nat) : Int) else -1
theorem partAlike_eq (t : List Part) (l : List Tok) (hb : t.length < 100000000) : part_Alike t l = some (alikeB t l) := by
  unfold part_Alike alikeB
  by_cases h : t.length = l.length
  · rw [if_neg (by omega), if_pos h]
    have := alike_loop t l h hb t.length 0 (by omega)
    rw [show ((0 : Int), (0 : Int)) = (((cnt (fitAt t l) 0 : Nat) : Int), ((0 : Nat) : Int)) from rfl, this]; rfl
  · rw [if_pos (by omega), if_neg h]
theorem refAlike_eq (t : List Part) (l : List Tok) (hb : t.length < 100000000) : winnowerref14_Alike t l = some (alikeB t l) := by
  unfold winnowerref14_Alike alikeB
  by_cases h : t.length = l.length
  · rw [if_neg (by omega), if_pos h]
    have := refAlike_loop t l h hb t.length 0 (by omega)
    rw [show ((0 : Int), (0 : Int)) = (((cnt (fitAt t l) 0 : Nat) : Int), ((0 : Nat) : Int)) from rfl, this]; rfl
  · rw [if_pos (by omega), if_neg h]
def fits (t : List Part) (l : List Tok) : Bool := decide (alikeB t l = ((t.length : Nat) : Int))
theorem fits_eq (t : List Part) (l : List Tok) (hb : t.length < 100000000) : part_Fits t l = some (fits t l) := by
  unfold part_Fits fits
  rw [partAlike_eq t l hb]; rfl
theorem fits_iff {t : List Part} {l : List Tok} : fits t l = true ↔ t.length = l.length ∧ ∀ i, i < t.length → fitAt t l i = true := by
  unfold fits alikeB
  rw [decide_eq_true_eq]
  by_cases h : t.length = l.length
  · rw [if_pos h, ← cnt_all]; omega
  · rw [if_neg h]; omega
/-- What becomes of a part. -/
def put (l : List Tok) (i : Nat) (x : Part) : Part :=
  if x.1 = true then (true, ByteArray.empty) else match l[i]? with
    | none => x
    | some y => if x.2 = y.2 then x else (true, ByteArray.empty)
def mrg (t : List Part) (l : List Tok) : List Part := t.mapIdx (put l)
theorem mrg_len (t : List Part) (l : List Tok) : (mrg t l).length = t.length := List.length_mapIdx
theorem mrg_at (t : List Part) (l : List Tok) {i : Nat} (h : i < t.length) : (mrg t l)[i]'(by rw [mrg_len]; exact h) = put l i t[i] := by simp [mrg]
theorem mix_at (a b : List Part) (i : Nat) (h : a.length = b.length) (hi : i < b.length) : at? (a.take i ++ b.drop i) (i : Int) = some b[i] := by
  have h1 : (a.take i).length = i := by rw [List.length_take]; omega
  refine at?_some ?_
  rw [List.getElem?_append_right (by omega), h1, Nat.sub_self, List.getElem?_drop]; simp [hi]
theorem mix_set (a b : List Part) (i : Nat) (x : Part) (h : a.length = b.length) (hi : i < b.length) (hx : x = a[i]'(by omega)) :
    set? (a.take i ++ b.drop i) (i : Int) x = some (a.take (i + 1) ++ b.drop (i + 1)) := by
  have h1 : (a.take i).length = i := by rw [List.length_take]; omega
  unfold set?
  rw [if_pos (by rw [List.length_append, List.length_drop, h1]; omega), Int.toNat_natCast, List.set_append_right _ _ (by omega), h1, Nat.sub_self, List.drop_eq_getElem_cons hi, List.set_cons_zero,
    List.take_succ_eq_append_getElem (by omega), hx, List.append_assoc]; rfl
theorem mix_stay (a b : List Part) (i : Nat) (h : a.length = b.length) (hi : i < b.length) (hx : b[i] = a[i]'(by omega)) : a.take i ++ b.drop i = a.take (i + 1) ++ b.drop (i + 1) := by
  rw [List.drop_eq_getElem_cons hi, List.take_succ_eq_append_getElem (by omega), hx, List.append_assoc]; rfl
theorem merge_loop (t : List Part) (l : List Tok) (hb : t.length < 100000000) : ∀ (d i : Nat), i + d = t.length →
    loopM (fun (v, q) => part_Merge_l0 l t v q) ((i : Int), (mrg t l).take i ++ t.drop i) = some (mrg t l)
  | 0, i, hi => by
    obtain rfl : i = t.length := by omega
    rw [List.drop_length, List.append_nil, List.take_of_length_le (by rw [mrg_len]; omega)]
    refine loopM_inr ?_
    simp only
    unfold part_Merge_l0
    rw [if_neg (by omega)]
  | d + 1, i, hi => by
    have h1 : i < t.length := by omega
    have hm := mrg_at t l h1
    rw [← merge_loop t l hb d (i + 1) (by omega)]
    refine loopM_inl ?_
    simp only
    unfold part_Merge_l0 part_is
    rw [if_pos (by omega), mix_at _ _ _ (mrg_len t l) h1, Option.bind_some, cast_succ _ (by omega)]
    by_cases hx : t[i].1 = true
    · rw [if_pos hx, mix_set _ _ _ _ (mrg_len t l) h1 (by rw [hm]; simp [put, hx])]; rfl
    rw [if_neg hx]
    simp only [hx]
    by_cases h2 : i < l.length
    · rw [if_pos (by omega), at?_lt h2]
      simp only [Option.bind_some, Bool.false_eq_true, if_false]
      by_cases he : t[i].2 = l[i].2
      · rw [if_pos (by simpa using he), mix_stay _ _ _ (mrg_len t l) h1 (by rw [hm]; simp [put, hx, h2, he])]
      · rw [if_neg (by simpa using he), mix_set _ _ _ _ (mrg_len t l) h1 (by rw [hm]; simp [put, hx, h2, he])]; rfl
    · rw [if_neg (by omega), mix_stay _ _ _ (mrg_len t l) h1 (by rw [hm]; simp [put, hx, h2])]
theorem merge_eq (t : List Part) (l : List Tok) (hb : t.length < 100000000) : part_Merge t l = some (mrg t l) := by
  unfold part_Merge slices_Clone_Part
  have := merge_loop t l hb t.length 0 (by omega)
  rw [List.take_zero, List.drop_zero, List.nil_append] at this
  rw [app_sm (by decide) (by simp; omega), Option.bind_some, List.nil_append, show ((0 : Int), t) = (((0 : Nat) : Int), t) from rfl, this]; rfl
theorem refMerge_loop (t : List Part) (l : List Tok) (hb : t.length < 100000000) : ∀ (d i : Nat), i + d = t.length →
    loopM (fun (q, v) => winnowerref14_Merge_l0 t l q v) ((mrg t l).take i, (i : Int)) = some (mrg t l)
  | 0, i, hi => by
    obtain rfl : i = t.length := by omega
    rw [List.take_of_length_le (by rw [mrg_len]; omega)]
    refine loopM_inr ?_
    simp only
    unfold winnowerref14_Merge_l0
    rw [if_neg (by omega)]
  | d + 1, i, hi => by
    have h1 : i < t.length := by omega
    have hm := mrg_at t l h1
    have h3 : (mrg t l).take (i + 1) = (mrg t l).take i ++ [put l i t[i]] := by rw [List.take_succ_eq_append_getElem (by rw [mrg_len]; omega), hm]
    have h4 : ((mrg t l).take i).length ≤ i := by rw [List.length_take]; omega
    rw [← refMerge_loop t l hb d (i + 1) (by omega), h3]
    refine loopM_inl ?_
    simp only
    unfold winnowerref14_Merge_l0
    have ha : ∀ x : Part, app? 24 ((mrg t l).take i) [x] = some ((mrg t l).take i ++ [x]) := fun x => app_sm (by decide) (by simp only [List.length_cons, List.length_nil]; omega)
    simp only [ha, Option.bind_some]
    rw [if_pos (by omega), at?_lt h1, Option.bind_some, cast_succ _ (by omega)]
    by_cases hx : t[i].1 = true
    · rw [if_pos hx]; simp [put, hx]
    rw [if_neg hx]
    by_cases h2 : i < l.length
    · rw [if_pos (by omega), at?_lt h2, Option.bind_some]
      by_cases he : t[i].2 = l[i].2
      · rw [if_neg (by simpa using he), show put l i t[i] = (t[i].1, t[i].2) by simp only [put, hx, List.getElem?_eq_getElem h2, he]; simp [← he]; exact Prod.ext (by simpa using hx) rfl]
      · rw [if_pos he]; simp [put, hx, h2, he]
    · rw [if_neg (by omega), show put l i t[i] = (t[i].1, t[i].2) by simp [put, hx, h2]; exact Prod.ext (by simpa using hx) rfl]
theorem refMerge_eq (t : List Part) (l : List Tok) (hb : t.length < 100000000) : winnowerref14_Merge t l = some (mrg t l) := by
  unfold winnowerref14_Merge
  have := refMerge_loop t l hb t.length 0 (by omega)
  rw [List.take_zero] at this
  rw [show (([] : List Part), (0 : Int)) = ([], ((0 : Nat) : Int)) from rfl, this]; rfl
/-- The texts of the places that vary. -/
def varAt (t : List Part) (l : List Tok) (i : Nat) : List ByteArray := match t[i]?, l[i]? with
  | some x, some y => if x.1 = true then [y.2] else []
  | _, _ => []
def vars (t : List Part) (l : List Tok) : Nat → List ByteArray
  | 0 => []
  | n + 1 => vars t l n ++ varAt t l n
theorem vars_len (t : List Part) (l : List Tok) : ∀ n, (vars t l n).length ≤ n
  | 0 => Nat.le_refl _
  | n + 1 => by
    have := vars_len t l n
    have h : (varAt t l n).length ≤ 1 := by unfold varAt; split <;> (try split) <;> simp
    simp only [vars, List.length_append]; omega
theorem vars_loop (t : List Part) (l : List Tok) (hb : t.length < 100000000) : ∀ (d i : Nat), i + d = t.length →
    loopM (fun (q, v) => part_Vars_l0 t l q v) (vars t l i, (i : Int)) = some (vars t l t.length)
  | 0, i, hi => by
    obtain rfl : i = t.length := by omega
    refine loopM_inr ?_
    simp only
    unfold part_Vars_l0
    rw [if_neg (by omega)]
  | d + 1, i, hi => by
    have h1 : i < t.length := by omega
    have h3 := vars_len t l i
    rw [← vars_loop t l hb d (i + 1) (by omega)]
    refine loopM_inl ?_
    simp only
    unfold part_Vars_l0
    rw [if_pos (by omega), at?_lt h1, Option.bind_some, cast_succ _ (by omega)]
    simp only [vars, varAt, List.getElem?_eq_getElem h1]
    by_cases hx : t[i].1 = true
    · rw [if_pos hx]
      by_cases h2 : i < l.length
      · rw [if_pos (by omega), at?_lt h2, Option.bind_some, app_sm (by decide) (by simp only [List.length_cons, List.length_nil]; omega)]; simp [hx, h2]
      · rw [if_neg (by omega)]; simp [h2]
    · rw [if_neg hx]
      cases h2 : l[i]? <;> simp [hx]
theorem vars_eq (t : List Part) (l : List Tok) (hb : t.length < 100000000) : part_Vars t l = some (vars t l t.length) := by
  unfold part_Vars
  have := vars_loop t l hb t.length 0 (by omega)
  rw [show (([] : List ByteArray), (0 : Int)) = (vars t l 0, ((0 : Nat) : Int)) from rfl, this]; rfl
theorem vars_out (t : List Part) (l : List Tok) : ∀ (d n : Nat), l.length ≤ n → vars t l (n + d) = vars t l n
  | 0, n, _ => rfl
  | d + 1, n, h => by
    rw [← Nat.add_assoc]
    simp only [vars]
    rw [vars_out t l d n h]
    unfold varAt
    rw [show l[n + d]? = none from List.getElem?_eq_none (by omega)]
    cases t[n + d]? <;> simp
theorem refVars_loop (t : List Part) (l : List Tok) (hb : t.length < 100000000) : ∀ (d i : Nat), i + d = t.length →
    loopM (fun (q, v) => winnowerref14_Vars_l0 t l q v) (vars t l i, (i : Int)) = some (vars t l t.length)
  | 0, i, hi => by
    obtain rfl : i = t.length := by omega
    refine loopM_inr ?_
    simp only
    unfold winnowerref14_Vars_l0
    rw [if_neg (by omega)]
  | d + 1, i, hi => by
    have h1 : i < t.length := by omega
    have h3 := vars_len t l i
    by_cases h2 : i < l.length
    · rw [← refVars_loop t l hb d (i + 1) (by omega)]
      refine loopM_inl ?_
      simp only
      unfold winnowerref14_Vars_l0
      rw [if_pos (by omega), if_pos (by omega), at?_lt h1, Option.bind_some, cast_succ _ (by omega)]
      simp only [vars, varAt, List.getElem?_eq_getElem h1, List.getElem?_eq_getElem h2]
      by_cases hx : t[i].1 = true
      · rw [if_pos hx, at?_lt h2, Option.bind_some, app_sm (by decide) (by simp only [List.length_cons, List.length_nil]; omega)]; simp [hx]
      · rw [if_neg hx]; simp [hx]
    · have h4 := vars_out t l (d + 1) i (by omega)
      rw [hi] at h4
      rw [h4]
      refine loopM_inr ?_
      simp only
      unfold winnowerref14_Vars_l0
      rw [if_pos (by omega), if_neg (by omega)]
theorem refVars_eq (t : List Part) (l : List Tok) (hb : t.length < 100000000) : winnowerref14_Vars t l = some (vars t l t.length) := by
  unfold winnowerref14_Vars
  have := refVars_loop t l hb t.length 0 (by omega)
  rw [show (([] : List ByteArray), (0 : Int)) = (vars t l 0, ((0 : Nat) : Int)) from rfl, this]; rfl
/-- Whether a place varies. -/
def wildAt (t : List Part) (i : Nat) : Bool := match t[i]? with
  | some x => x.1
  | none => false
theorem wild_loop (t : List Part) (hb : t.length < 100000000) : ∀ (d i : Nat), i + d = t.length →
    loopM (fun (n, v) => part_Wild_l0 t n v) (((cnt (wildAt t) i : Nat) : Int), (i : Int)) = some ((cnt (wildAt t) t.length : Nat) : Int)
  | 0, i, hi => by
    obtain rfl : i = t.length := by omega
    refine loopM_inr ?_
    simp only
    unfold part_Wild_l0
    rw [if_neg (by omega)]
  | d + 1, i, hi => by
    have h1 : i < t.length := by omega
    have h3 := cnt_le (wildAt t) i
    rw [← wild_loop t hb d (i + 1) (by omega)]
    refine loopM_inl ?_
    simp only
    unfold part_Wild_l0
    rw [if_pos (by omega), at?_lt h1, Option.bind_some, cast_succ _ (by omega), cast_succ _ (by omega)]
    simp only [cnt, wildAt, List.getElem?_eq_getElem h1]
    split <;> rfl
theorem wild_same : part_Wild_l0 = winnowerref14_Wild_l0 := rfl
def wildB (t : List Part) : Int := ((cnt (wildAt t) t.length : Nat) : Int)
theorem wild_eq (t : List Part) (hb : t.length < 100000000) : part_Wild t = some (wildB t) := by
  unfold part_Wild
  have := wild_loop t hb t.length 0 (by omega)
  rw [show ((0 : Int), (0 : Int)) = (((cnt (wildAt t) 0 : Nat) : Int), ((0 : Nat) : Int)) from rfl, this]; rfl
theorem refWild_eq (t : List Part) (hb : t.length < 100000000) : winnowerref14_Wild t = some (wildB t) := wild_eq t hb
theorem refSame_eq (a b : List Part) (hb : a.length < 100000000) : winnowerref14_Same a b = some (decide (a = b)) := by
  unfold winnowerref14_Same
  by_cases h : a.length = b.length
  · rw [if_neg (by omega)]
    let p : Nat → Bool := fun i => decide (a[i]? = b[i]?)
    rw [loop_all0 (n := a.length) (step := fun i => winnowerref14_Same_l0 a b i) p (.inr ()) (.inl false) (fun i hi => by
      have h2 : i < b.length := by omega
      unfold winnowerref14_Same_l0
      rw [if_pos (by omega), at?_lt hi, Option.bind_some, at?_lt h2, Option.bind_some, cast_succ _ (by omega)]
      simp only [p, List.getElem?_eq_getElem hi, List.getElem?_eq_getElem h2, Option.some.injEq]
      generalize a[i] = x
      generalize b[i] = y
      obtain ⟨x1, x2⟩ := x
      obtain ⟨y1, y2⟩ := y
      simp only [Prod.mk.injEq]
      by_cases e1 : x1 = y1
      · by_cases e2 : x2 = y2 <;> simp [e1, e2]
      · rw [if_pos (by cases x1 <;> cases y1 <;> simp_all)]; simp [e1]) (by
      unfold winnowerref14_Same_l0
      rw [if_neg (by omega)])]
    have : allF p 0 a.length = decide (a = b) := by
      rw [Bool.eq_iff_iff, allF_iff, decide_eq_true_eq]
      constructor
      · intro hh
        refine List.ext_getElem? fun i => ?_
        rcases Nat.lt_or_ge i a.length with hi | hi
        · exact of_decide_eq_true (hh i (by omega) (by omega))
        · rw [List.getElem?_eq_none hi, List.getElem?_eq_none (by omega)]
      · rintro rfl i _ _; simp [p]
    rw [this]
    cases decide (a = b) <;> rfl
  · rw [if_pos (by omega)]
    simp only [Option.some.injEq]
    exact (decide_eq_false (fun e => h (by rw [e]))).symm
theorem partSame_eq (a b : List Part) (hb : a.length < 100000000) : part_Same a b = some (decide (a = b)) := by
  unfold part_Same slices_Equal_Part
  by_cases h : a.length = b.length
  · rw [if_neg (by omega)]
    let p : Nat → Bool := fun i => decide (a[i]? = b[i]?)
    rw [loop_all0 (n := a.length) (step := fun i => slices_Equal_Part_l0 a b i) p (.inr ()) (.inl false) (fun i hi => by
      have h2 : i < b.length := by omega
      unfold slices_Equal_Part_l0
      rw [if_pos (by omega), at?_lt hi, Option.bind_some, at?_lt h2, Option.bind_some, cast_succ _ (by omega)]
      simp only [p, List.getElem?_eq_getElem hi, List.getElem?_eq_getElem h2, Option.some.injEq]
      generalize a[i] = x
      generalize b[i] = y
      obtain ⟨x1, x2⟩ := x
      obtain ⟨y1, y2⟩ := y
      simp only [ne_eq]
      by_cases e : (x1, x2) = (y1, y2)
      · rw [if_neg (by simpa using e)]; simp only [e, decide_true, if_true]
      · rw [if_pos e]; simp only [e, decide_false, Bool.false_eq_true, if_false]) (by
      unfold slices_Equal_Part_l0
      rw [if_neg (by omega)])]
    have : allF p 0 a.length = decide (a = b) := by
      rw [Bool.eq_iff_iff, allF_iff, decide_eq_true_eq]
      constructor
      · intro hh
        refine List.ext_getElem? fun i => ?_
        rcases Nat.lt_or_ge i a.length with hi | hi
        · exact of_decide_eq_true (hh i (by omega) (by omega))
        · rw [List.getElem?_eq_none hi, List.getElem?_eq_none (by omega)]
      · rintro rfl i _ _; simp [p]
    rw [this]
    cases decide (a = b) <;> rfl
  · rw [if_pos (by omega), Option.bind_some]
    simp only [Option.some.injEq]
    exact (decide_eq_false (fun e => h (by rw [e]))).symm
theorem texts_eq (a : List ByteArray) (hb : a.length < 100000000) : winnowerlaw14_texts a a = some true := by
  unfold winnowerlaw14_texts
  rw [if_neg (by omega), loop_end (n := a.length) (step := fun i => winnowerlaw14_texts_l0 a a i) (.inr ()) (fun i hi => by
    unfold winnowerlaw14_texts_l0
    rw [if_pos (by omega), at?_lt hi, Option.bind_some, Option.bind_some, if_neg (by simp), cast_succ _ (by omega)]) (by
    unfold winnowerlaw14_texts_l0
    rw [if_neg (by omega)])]
  rfl
/-- A template of one line. -/
def ofB (l : List Tok) : List Part := l.map fun x => if 0 ≤ x.1 ∧ x.1 ≤ 5 then (true, ByteArray.empty) else (false, x.2)
theorem varies_eq (k : Int) : winnowerref14_Varies k = some (decide (0 ≤ k ∧ k ≤ 5)) := by
  unfold winnowerref14_Varies
  by_cases h : k ≥ 0
  · rw [if_pos h]; simp [show 0 ≤ k from h]
  · rw [if_neg h]; simp; omega
theorem isAny_eq (k : Int) : part_isAny k = some (decide (0 ≤ k ∧ k ≤ 5)) := by
  unfold part_isAny
  by_cases h : 0 ≤ k ∧ k ≤ 5
  · rw [decide_eq_true h]
    have : k = 0 ∨ k = 1 ∨ k = 2 ∨ k = 3 ∨ k = 4 ∨ k = 5 := by omega
    rcases this with rfl | rfl | rfl | rfl | rfl | rfl <;> rfl
  · rw [decide_eq_false h, if_neg (by omega), if_neg (by omega), if_neg (by omega), if_neg (by omega), if_neg (by omega), if_neg (by omega)]
theorem of_loop (l : List Tok) (hb : l.length < 100000000) : ∀ (d i : Nat), i + d = l.length →
    loopM (fun (q, v) => part_Of_l0 l q v) ((ofB l).take i, (i : Int)) = some (ofB l)
  | 0, i, hi => by
    obtain rfl : i = l.length := by omega
    rw [List.take_of_length_le (by simp [ofB])]
    refine loopM_inr ?_
    simp only
    unfold part_Of_l0
    rw [if_neg (by omega)]
  | d + 1, i, hi => by
    have h1 : i < l.length := by omega
    have h3 : (ofB l).take (i + 1) = (ofB l).take i ++ [if 0 ≤ l[i].1 ∧ l[i].1 ≤ 5 then (true, ByteArray.empty) else (false, l[i].2)] := by
      rw [List.take_succ_eq_append_getElem (by simp [ofB]; omega)]; simp [ofB]
    have h4 : ((ofB l).take i).length ≤ i := by rw [List.length_take]; omega
    rw [← of_loop l hb d (i + 1) (by omega), h3]
    refine loopM_inl ?_
    simp only
    unfold part_Of_l0
    have ha : ∀ x : Part, app? 24 ((ofB l).take i) [x] = some ((ofB l).take i ++ [x]) := fun x => app_sm (by decide) (by simp only [List.length_cons, List.length_nil]; omega)
    simp only [ha, Option.bind_some]
    rw [if_pos (by omega), at?_lt h1, Option.bind_some, isAny_eq, Option.bind_some, cast_succ _ (by omega)]
    by_cases hx : 0 ≤ l[i].1 ∧ l[i].1 ≤ 5
    · rw [if_pos (by simpa using hx), if_pos hx]
    · rw [if_neg (by simpa using hx), if_neg hx]
theorem of_eq (l : List Tok) (hb : l.length < 100000000) : part_Of l = some (ofB l) := by
  unfold part_Of
  have := of_loop l hb l.length 0 (by omega)
  rw [List.take_zero] at this
  rw [show (([] : List Part), (0 : Int)) = ([], ((0 : Nat) : Int)) from rfl, this]; rfl
theorem of_same : winnowerref14_Of_l0 = part_Of_l0 := by
  funext l t v
  unfold winnowerref14_Of_l0 part_Of_l0
  simp only [varies_eq, isAny_eq]
theorem refOf_eq (l : List Tok) (hb : l.length < 100000000) : winnowerref14_Of l = some (ofB l) := by
  rw [← of_eq l hb]
  unfold winnowerref14_Of part_Of
  rw [of_same]
theorem known14 : winnowerlaw14_known = some true := by
  unfold winnowerlaw14_known
  rw [of_eq _ (by decide), Option.bind_some]
  rw [show ofB [(6, (⟨#[117, 112]⟩ : ByteArray)), (4, (⟨#[51]⟩ : ByteArray))] = [(false, (⟨#[117, 112]⟩ : ByteArray)), (true, ByteArray.empty)] from rfl, if_pos (by decide)]
  rw [show at? [(false, (⟨#[117, 112]⟩ : ByteArray)), (true, ByteArray.empty)] 0 = some (false, (⟨#[117, 112]⟩ : ByteArray)) from rfl, Option.bind_some, if_pos rfl]
  rw [show at? [(false, (⟨#[117, 112]⟩ : ByteArray)), (true, ByteArray.empty)] 1 = some (true, ByteArray.empty) from rfl, Option.bind_some, if_pos rfl]
  rw [wild_eq _ (by decide), Option.bind_some, if_pos (show wildB _ = 1 from rfl), fits_eq _ _ (by decide), Option.bind_some]
  have : fits [(false, (⟨#[117, 112]⟩ : ByteArray)), (true, ByteArray.empty)] [(6, (⟨#[117, 112]⟩ : ByteArray)), (4, (⟨#[51]⟩ : ByteArray))] = true := by
    rw [fits_iff]
    refine ⟨rfl, fun i hi => ?_⟩
    match i, hi with
    | 0, _ => simp [fitAt]
    | 1, _ => rfl
  rw [this]
end Go.Proofs.Ytcbnamlioeiaeaa.FW
