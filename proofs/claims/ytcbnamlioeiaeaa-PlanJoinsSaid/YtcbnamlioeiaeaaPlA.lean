/- plan: what Is, Pick, Join and Drop come to, as plain Lean. -/
import Derived.Test.YtcbnamlioeiaeaaPlQ
import Derived.Test.YtcbnamlioeiaeaaP1
namespace Go.Proofs.Ytcbnamlioeiaeaa.FW
set_option linter.unusedVariables false
set_option linter.unusedSimpArgs false
abbrev Span := Int × Int × Int
/-- Another number than this one. -/
def other (l : List Span) (id : Int) (k : Nat) : Bool := match l[k]? with
  | none => true
  | some y => decide (y.1 ≠ id)
/-- Whether the span of a place may be there. -/
def okAt (l : List Span) (i : Nat) : Bool :=
  match l[i]? with
  | none => true
  | some x => decide (1 ≤ x.1 ∧ x.1 ≤ 34359738368 ∧ 0 ≤ x.2.1 ∧ x.2.1 ≤ 34359738368 ∧ 1 ≤ x.2.2 ∧ x.2.2 ≤ 512) &&
    (match i with
      | 0 => true
      | j + 1 => match l[j]? with
        | none => true
        | some p => decide (x.2.1 = w64 (p.2.1 + p.2.2))) &&
    allF (other l x.1) 0 i
def isOk (l : List Span) : Bool := allF (okAt l) 0 l.length
theorem refIs_l0 (l : List Span) (i : Nat) (hi : i ≤ l.length) (hl : l.length < 1099511627776) (x : Span) :
    loopM (fun k => winnowerref19_Is_l0 l (i : Int) x k) 0 = some (if allF (other l x.1) 0 i then .inr () else .inl false) := by
  refine loop_all0 _ _ _ (fun k hk => ?_) ?_
  · have hkl : k < l.length := by omega
    unfold winnowerref19_Is_l0
    rw [if_pos (by omega), at?_lt hkl, Option.bind_some]
    by_cases h : l[k].1 = x.1
    · rw [if_pos h]; simp [other, hkl, h]
    · rw [if_neg h, cast_succ _ (by omega)]; simp [other, hkl, h]
  · unfold winnowerref19_Is_l0
    rw [if_neg (by omega)]
theorem refIs_l1 (l : List Span) (hl : l.length < 1099511627776) (i : Nat) (hi : i < l.length) :
    winnowerref19_Is_l1 l (i : Int) = some (if okAt l i then .inl ((i + 1 : Nat) : Int) else .inr (.inl false)) := by
  unfold winnowerref19_Is_l1 okAt
  rw [if_pos (by omega), at?_lt hi, Option.bind_some, List.getElem?_eq_getElem hi]
  generalize l[i] = x
  by_cases h1 : x.1 < 1
  · rw [if_pos h1]; simp [show ¬ (1 ≤ x.1) by omega]
  rw [if_neg h1]
  by_cases h2 : x.1 > 34359738368
  · rw [if_pos h2]; simp [show ¬ (x.1 ≤ 34359738368) by omega]
  rw [if_neg h2]
  by_cases h3 : x.2.1 < 0
  · rw [if_pos h3]; simp [show ¬ (0 ≤ x.2.1) by omega]
  rw [if_neg h3]
  by_cases h4 : x.2.1 > 34359738368
  · rw [if_pos h4]; simp [show ¬ (x.2.1 ≤ 34359738368) by omega]
  rw [if_neg h4]
  by_cases h5 : x.2.2 < 1
  · rw [if_pos h5]; simp [show ¬ (1 ≤ x.2.2) by omega]
  rw [if_neg h5]
  by_cases h6 : x.2.2 > 512
  · rw [if_pos h6]; simp [show ¬ (x.2.2 ≤ 512) by omega]
  rw [if_neg h6]
  have h7 : decide (1 ≤ x.1 ∧ x.1 ≤ 34359738368 ∧ 0 ≤ x.2.1 ∧ x.2.1 ≤ 34359738368 ∧ 1 ≤ x.2.2 ∧ x.2.2 ≤ 512) = true := decide_eq_true (by omega)
  simp only [h7, Bool.true_and]
  rw [refIs_l0 l i (by omega) hl x, cast_succ _ (by omega)]
  cases i with
  | zero =>
    rw [if_neg (by omega)]
    simp only [Option.bind_some, Bool.true_and]
    split <;> simp
  | succ j =>
    have hj : j < l.length := by omega
    have hw : w64 (((j + 1 : Nat) : Int) - 1) = (j : Int) := by rw [w64_id (by omega)]; omega
    rw [if_pos (by omega), hw, at?_lt hj, Option.bind_some]
    simp only [List.getElem?_eq_getElem hj]
    by_cases h8 : x.2.1 = w64 (l[j].2.1 + l[j].2.2)
    · rw [if_neg (by simpa using h8)]
      simp only [h8, decide_true, Bool.true_and, Option.bind_some]
      split <;> simp
    · rw [if_pos h8]; simp [h8]
theorem refIs_eq (l : List Span) (hl : l.length < 1099511627776) : winnowerref19_Is l = some (isOk l) := by
  unfold winnowerref19_Is
  rw [loop_all0 (n := l.length) (okAt l) (.inr ()) (.inl false) (refIs_l1 l hl) (by unfold winnowerref19_Is_l1; rw [if_neg (by omega)])]
  unfold isOk
  cases allF (okAt l) 0 l.length <;> rfl
/-- What the map of numbers holds. -/
def Seen (l : List Span) (i : Nat) (m : List (Int × Bool)) : Prop := ∀ k, (mget m k).getD false = !(allF (other l k) 0 i)
theorem allF_last (p : Nat → Bool) (i : Nat) : allF p 0 (i + 1) = (allF p 0 i && p i) := by
  rw [Bool.eq_iff_iff]
  simp only [Bool.and_eq_true, allF_iff]
  constructor
  · exact fun h => ⟨fun j h1 h2 => h j h1 (by omega), h i (by omega) (by omega)⟩
  · rintro ⟨h1, h2⟩ j h3 h4
    rcases Nat.lt_or_ge j i with h | h
    · exact h1 j h3 (by omega)
    · obtain rfl : j = i := by omega
      exact h2
theorem Seen.next {l : List Span} {i : Nat} {m : List (Int × Bool)} (h : Seen l i m) (hi : i < l.length) : Seen l (i + 1) (mset m l[i].1 true) := by
  intro k
  rw [mget_mset, allF_last]
  by_cases hk : l[i].1 = k
  · rw [if_pos hk]; simp [other, hi, hk]
  · rw [if_neg hk]
    have := h k
    simp [other, hi, hk, this]
theorem planIs_l0 (l : List Span) (hl : l.length < 1099511627776) (i : Nat) (hi : i < l.length) (m : List (Int × Bool)) (hm : Seen l i m) :
    plan_Is_l0 l (i : Int) m = some (if okAt l i then .inl (((i + 1 : Nat) : Int), mset m l[i].1 true) else .inr (.inl false)) := by
  unfold plan_Is_l0 okAt
  have hs := hm l[i].1
  rw [if_pos (by omega), at?_lt hi, Option.bind_some, List.getElem?_eq_getElem hi]
  generalize l[i] = x at *
  rw [hs]
  by_cases h1 : x.1 < 1
  · rw [if_pos h1]; simp [show ¬ (1 ≤ x.1) by omega]
  rw [if_neg h1]
  by_cases h2 : x.1 > 34359738368
  · rw [if_pos h2]; simp [show ¬ (x.1 ≤ 34359738368) by omega]
  rw [if_neg h2]
  cases hA : allF (other l x.1) 0 i with
  | false => simp [hA]
  | true =>
  rw [if_neg (by simp)]
  by_cases h3 : x.2.1 < 0
  · rw [if_pos h3]; simp [show ¬ (0 ≤ x.2.1) by omega]
  rw [if_neg h3]
  by_cases h4 : x.2.1 > 34359738368
  · rw [if_pos h4]; simp [show ¬ (x.2.1 ≤ 34359738368) by omega]
  rw [if_neg h4]
  by_cases h5 : x.2.2 < 1
  · rw [if_pos h5]; simp [show ¬ (1 ≤ x.2.2) by omega]
  rw [if_neg h5]
  by_cases h6 : x.2.2 > 512
  · rw [if_pos h6]; simp [show ¬ (x.2.2 ≤ 512) by omega]
  rw [if_neg h6]
  have h7 : decide (1 ≤ x.1 ∧ x.1 ≤ 34359738368 ∧ 0 ≤ x.2.1 ∧ x.2.1 ≤ 34359738368 ∧ 1 ≤ x.2.2 ∧ x.2.2 ≤ 512) = true := decide_eq_true (by omega)
  simp only [h7, Bool.true_and, Bool.and_true]
  rw [cast_succ _ (by omega)]
  cases i with
  | zero => rw [if_neg (by omega)]; simp [hA]
  | succ j =>
    have hj : j < l.length := by omega
    have hw : w64 (((j + 1 : Nat) : Int) - 1) = (j : Int) := by rw [w64_id (by omega)]; omega
    rw [if_pos (by omega), hw, at?_lt hj, Option.bind_some]
    simp only [List.getElem?_eq_getElem hj]
    by_cases h8 : x.2.1 = w64 (l[j].2.1 + l[j].2.2)
    · rw [if_neg (by simpa using h8)]; simp [h8, hA]
    · rw [if_pos h8]; simp [h8]
theorem planIs_loop (l : List Span) (hl : l.length < 1099511627776) : ∀ (d i : Nat) (m : List (Int × Bool)), i + d = l.length → Seen l i m →
    loopM (fun (v, m) => plan_Is_l0 l v m) ((i : Int), m) = some (if allF (okAt l) i d then .inr () else .inl false)
  | 0, i, m, hi, hm => by
    rw [loopM_inr (t := .inr ()) (by simp only; unfold plan_Is_l0; rw [if_neg (by omega)])]; rfl
  | d + 1, i, m, hi, hm => by
    have h1 := planIs_l0 l hl i (by omega) m hm
    rw [allF_succ]
    cases hp : okAt l i with
    | false => rw [hp] at h1; rw [loopM_inr (t := .inl false) h1]; rfl
    | true =>
      rw [hp] at h1
      rw [loopM_inl (s' := (((i + 1 : Nat) : Int), mset m l[i].1 true)) h1, planIs_loop l hl d (i + 1) _ (by omega) (hm.next (by omega))]; rfl
theorem planIs_eq (l : List Span) (hl : l.length < 1099511627776) : plan_Is l = some (isOk l) := by
  unfold plan_Is
  have := planIs_loop l hl l.length 0 [] (by omega) (fun k => by simp [mget, allF])
  rw [show ((0 : Int), ([] : List (Int × Bool))) = (((0 : Nat) : Int), []) from rfl, this]
  unfold isOk
  cases allF (okAt l) 0 l.length <;> rfl
/-- Two neighbours' lines. -/
def pair (l : List Span) (i : Nat) : Int := match l[i]?, l[i + 1]? with
  | some x, some y => x.2.2 + y.2.2
  | _, _ => 0
/-- The first of the fewest, of those below n; at first none, and most. -/
def best (l : List Span) : Nat → Int × Int
  | 0 => (-1, 513)
  | n + 1 => if pair l n < (best l n).2 then ((n : Int), pair l n) else best l n
theorem best_spec (l : List Span) : ∀ n, ((best l n).2 = 513 ∧ (best l n).1 = -1 ∧ ∀ j, j < n → 513 ≤ pair l j) ∨
    ∃ k : Nat, k < n ∧ (best l n).1 = (k : Int) ∧ (best l n).2 = pair l k ∧ pair l k < 513 ∧ (∀ j, j < n → pair l k ≤ pair l j) ∧ ∀ j, j < k → pair l k < pair l j
  | 0 => .inl ⟨rfl, rfl, fun j hj => by omega⟩
  | n + 1 => by
    simp only [best]
    rcases best_spec l n with ⟨h1, h2, h3⟩ | ⟨k, h1, h2, h3, h4, h5, h6⟩
    · by_cases hp : pair l n < (best l n).2
      · rw [if_pos hp]
        refine .inr ⟨n, by omega, rfl, rfl, by omega, fun j hj => ?_, fun j hj => ?_⟩
        · rcases Nat.lt_or_ge j n with h | h
          · have := h3 j h; omega
          · obtain rfl : j = n := by omega
            omega
        · have := h3 j hj; omega
      · rw [if_neg hp]
        refine .inl ⟨h1, h2, fun j hj => ?_⟩
        rcases Nat.lt_or_ge j n with h | h
        · exact h3 j h
        · obtain rfl : j = n := by omega
          omega
    · by_cases hp : pair l n < (best l n).2
      · rw [if_pos hp]
        refine .inr ⟨n, by omega, rfl, rfl, by omega, fun j hj => ?_, fun j hj => ?_⟩
        · rcases Nat.lt_or_ge j n with h | h
          · have := h5 j h; omega
          · obtain rfl : j = n := by omega
            omega
        · have := h5 j hj; omega
      · rw [if_neg hp]
        refine .inr ⟨k, by omega, h2, h3, h4, fun j hj => ?_, h6⟩
        rcases Nat.lt_or_ge j n with h | h
        · exact h5 j h
        · obtain rfl : j = n := by omega
          omega
theorem isOk_at {l : List Span} (h : isOk l = true) {i : Nat} (hi : i < l.length) : 1 ≤ l[i].1 ∧ l[i].1 ≤ 34359738368 ∧ 0 ≤ l[i].2.1 ∧ l[i].2.1 ≤ 34359738368 ∧ 1 ≤ l[i].2.2 ∧ l[i].2.2 ≤ 512 := by
  have := allF_iff.1 h i (by omega) (by omega)
  unfold okAt at this
  rw [List.getElem?_eq_getElem hi] at this
  simp only [Bool.and_eq_true, decide_eq_true_eq] at this
  exact this.1.1
theorem pair_eq {l : List Span} {i : Nat} (hi : i + 1 < l.length) : pair l i = l[i].2.2 + l[i + 1].2.2 := by
  unfold pair; rw [List.getElem?_eq_getElem hi, List.getElem?_eq_getElem (by omega)]
/-- What Pick comes to. -/
def pickB (l : List Span) : Int × Bool := if isOk l then (if (best l (l.length - 1)).1 < 0 then (0, false) else ((best l (l.length - 1)).1, true)) else (0, false)
theorem refPick_loop (l : List Span) (hl : l.length < 1099511627776) (ho : isOk l = true) : ∀ (d i : Nat), i + d = l.length - 1 →
    loopM (fun (b, m, i) => winnowerref19_Pick_l0 l b m i) ((best l i).1, (best l i).2, (i : Int)) = some (best l (l.length - 1)).1
  | 0, i, hi => by
    obtain rfl : i = l.length - 1 := by omega
    refine loopM_inr ?_
    simp only
    unfold winnowerref19_Pick_l0
    rw [cast_succ _ (by omega), if_neg (by omega)]
  | d + 1, i, hi => by
    have h1 : i + 1 < l.length := by omega
    have h2 := isOk_at ho (i := i) (by omega)
    have h3 := isOk_at ho (i := i + 1) (by omega)
    have hw : w64 (l[i].2.2 + l[i + 1].2.2) = pair l i := by rw [w64_id (by omega), pair_eq h1]
    rw [← refPick_loop l hl ho d (i + 1) (by omega)]
    refine loopM_inl ?_
    simp only
    unfold winnowerref19_Pick_l0
    rw [cast_succ _ (by omega), if_pos (by omega), at?_lt (show i < l.length by omega), Option.bind_some, at?_lt h1, Option.bind_some, hw]
    simp only [best]
    split <;> rfl
theorem refPick_eq (l : List Span) (hl : l.length < 1099511627776) : winnowerref19_Pick l = some (pickB l) := by
  unfold winnowerref19_Pick pickB
  rw [refIs_eq l hl, Option.bind_some]
  cases ho : isOk l with
  | false => rfl
  | true =>
    have := refPick_loop l hl ho (l.length - 1) 0 (by omega)
    rw [show best l 0 = (-1, 513) from rfl] at this
    rw [if_pos rfl, show ((-1 : Int), (513 : Int), (0 : Int)) = (-1, 513, ((0 : Nat) : Int)) from rfl, this, Option.bind_some]
    simp only [if_true]
    split <;> rfl
theorem planPick_loop (l : List Span) (hl : l.length < 1099511627776) (ho : isOk l = true) : ∀ (d i : Nat), i + d = l.length - 1 →
    loopM (fun (b, m, i) => plan_Pick_l0 l b m i) ((if (best l i).1 < 0 then 0 else (best l i).1), (best l i).2, ((i + 1 : Nat) : Int)) = some ((if (best l (l.length - 1)).1 < 0 then 0 else (best l (l.length - 1)).1), (best l (l.length - 1)).2)
  | 0, i, hi => by
    obtain rfl : i = l.length - 1 := by omega
    refine loopM_inr ?_
    simp only
    unfold plan_Pick_l0
    rw [if_neg (by omega)]
  | d + 1, i, hi => by
    have h1 : i + 1 < l.length := by omega
    have h2 := isOk_at ho (i := i) (by omega)
    have h3 := isOk_at ho (i := i + 1) (by omega)
    have hw : w64 (l[i].2.2 + l[i + 1].2.2) = pair l i := by rw [w64_id (by omega), pair_eq h1]
    have hd : w64 (((i + 1 : Nat) : Int) - 1) = (i : Int) := by rw [w64_id (by omega)]; omega
    rw [← planPick_loop l hl ho d (i + 1) (by omega)]
    refine loopM_inl ?_
    simp only
    unfold plan_Pick_l0
    rw [if_pos (by omega), hd, at?_lt (show i < l.length by omega), Option.bind_some, at?_lt h1, Option.bind_some, hw, cast_succ _ (by omega)]
    by_cases hp : pair l i < (best l i).2
    · have e1 : best l (i + 1) = ((i : Int), pair l i) := by simp only [best]; rw [if_pos hp]
      rw [if_pos hp, e1]
      simp only
      rw [if_neg (by omega)]
    · have e1 : best l (i + 1) = best l i := by simp only [best]; rw [if_neg hp]
      rw [if_neg hp, e1]
theorem planPick_eq (l : List Span) (hl : l.length < 1099511627776) : plan_Pick l = some (pickB l) := by
  unfold plan_Pick pickB
  rw [planIs_eq l hl, Option.bind_some]
  cases ho : isOk l with
  | false => rfl
  | true =>
    have := planPick_loop l hl ho (l.length - 1) 0 (by omega)
    rw [show best l 0 = (-1, 513) from rfl] at this
    rw [if_pos rfl, show ((0 : Int), (513 : Int), (1 : Int)) = ((if (-1 : Int) < 0 then 0 else -1), 513, ((0 + 1 : Nat) : Int)) from rfl, this, Option.bind_some]
    simp only [if_true]
    rcases best_spec l (l.length - 1) with ⟨h1, h2, _⟩ | ⟨k, h1, h2, h3, h4, _⟩
    · rw [h1, h2]; rfl
    · rw [h2, h3, if_neg (by omega), if_neg (by omega), decide_eq_true (by omega)]
/-- What Join comes to. -/
def joinB (l : List Span) (at_ id : Int) : List Span × Bool :=
  if isOk l then (if 0 ≤ at_ ∧ at_ < (l.length : Int) - 1 ∧ pair l at_.toNat ≤ 512 then
    (l.take at_.toNat ++ [(id, (l[at_.toNat]?.getD (0, 0, 0)).2.1, pair l at_.toNat)] ++ l.drop (at_.toNat + 2), true) else (l, false)) else (l, false)
theorem app_small {α : Type} {k : Nat} {a b : List α} (hk : k ≤ 1000) (h : a.length + b.length ≤ 100000000000) : app? k a b = some (a ++ b) :=
  app?_eq (Nat.le_trans (Nat.mul_le_mul h hk) (by decide))
theorem sub_eq {α : Type} {l : List α} {i j : Int} (h : 0 ≤ i ∧ i ≤ j ∧ j ≤ (l.length : Int)) : sub? l i j = some ((l.take j.toNat).drop i.toNat) := if_pos h
theorem flat_take {α : Type} (L : List (List α)) (i : Nat) (hi : i < L.length) : (L.take (i + 1)).flatten = (L.take i).flatten ++ L[i] := by
  rw [List.take_succ_eq_append_getElem hi, List.flatten_append]; simp only [List.flatten_cons, List.flatten_nil, List.append_nil]
theorem flat_le {α : Type} (L : List (List α)) (i : Nat) : ((L.take i).flatten).length ≤ L.flatten.length := by
  conv => rhs; rw [← List.take_append_drop i L, List.flatten_append, List.length_append]
  omega
theorem concat_l0 (L : List (List Span)) (hL : L.length < 1000000) (h : L.flatten.length ≤ 1000000000) : ∀ (d i : Nat), i + d = L.length →
    loopM (fun (size, v) => slices_Concat_Span_l0 L size v) ((((L.take i).flatten.length : Nat) : Int), (i : Int)) = some ((L.flatten.length : Nat) : Int)
  | 0, i, hi => by
    obtain rfl : i = L.length := by omega
    rw [List.take_length]
    refine loopM_inr ?_
    simp only
    unfold slices_Concat_Span_l0
    rw [if_neg (by omega)]
  | d + 1, i, hi => by
    have h1 : i < L.length := by omega
    rw [← concat_l0 L hL h d (i + 1) (by omega)]
    refine loopM_inl ?_
    simp only
    unfold slices_Concat_Span_l0
    have h2 := flat_le L (i + 1)
    rw [flat_take L i h1, List.length_append] at h2
    have h3 : w64 ((((L.take i).flatten.length : Nat) : Int) + ((L[i].length : Nat) : Int)) = (((L.take i).flatten.length + L[i].length : Nat) : Int) := by rw [w64_id (by omega)]; omega
    rw [if_pos (by omega), at?_lt h1, Option.bind_some, h3, if_neg (by omega), cast_succ _ (by omega), flat_take L i h1, List.length_append]
theorem concat_l1 (L : List (List Span)) (hL : L.length < 1000000) (h : L.flatten.length ≤ 1000000000) : ∀ (d i : Nat), i + d = L.length →
    loopM (fun (n, v) => slices_Concat_Span_l1 L n v) ((L.take i).flatten, (i : Int)) = some L.flatten
  | 0, i, hi => by
    obtain rfl : i = L.length := by omega
    rw [List.take_length]
    refine loopM_inr ?_
    simp only
    unfold slices_Concat_Span_l1
    rw [if_neg (by omega)]
  | d + 1, i, hi => by
    have h1 : i < L.length := by omega
    rw [← concat_l1 L hL h d (i + 1) (by omega)]
    refine loopM_inl ?_
    simp only
    unfold slices_Concat_Span_l1
    have h2 := flat_le L (i + 1)
    rw [flat_take L i h1, List.length_append] at h2
    rw [if_pos (by omega), at?_lt h1, Option.bind_some, app_small (by omega) (by omega), Option.bind_some, cast_succ _ (by omega), flat_take L i h1]
theorem concat_eq (L : List (List Span)) (hL : L.length < 1000000) (h : L.flatten.length ≤ 1000000000) : slices_Concat_Span L = some L.flatten := by
  unfold slices_Concat_Span
  have s1 := concat_l0 L hL h L.length 0 (by omega)
  have s2 := concat_l1 L hL h L.length 0 (by omega)
  rw [List.take_zero] at s1 s2
  rw [show ((0 : Int), (0 : Int)) = ((((([] : List (List Span)).flatten.length : Nat) : Int)), ((0 : Nat) : Int)) from rfl, s1, Option.bind_some]
  have g1 : slices_Grow_Span [] ((L.flatten.length : Nat) : Int) = some [] := by
    unfold slices_Grow_Span
    rw [if_neg (by omega), if_pos (by omega)]
  rw [g1, Option.bind_some, show (([] : List Span), (0 : Int)) = (([] : List (List Span)).flatten, ((0 : Nat) : Int)) from rfl, s2]; rfl
theorem clone_eq (l : List Span) (hl : l.length < 1000000000) : slices_Clone_Span l = some l := by
  unfold slices_Clone_Span
  rw [app_small (by decide) (by simp; omega)]; rfl
theorem planJoin_eq (l : List Span) (at_ id : Int) (hl : l.length < 1000000) : plan_Join l at_ id = some (joinB l at_ id) := by
  unfold plan_Join joinB
  rw [planIs_eq l (by omega), Option.bind_some]
  simp only [clone_eq l (by omega), Option.bind_some]
  cases ho : isOk l with
  | false => rfl
  | true =>
    simp only [if_true]
    by_cases h1 : at_ < 0
    · rw [if_pos h1, if_neg (by omega)]
    rw [if_neg h1]
    rw [w64_id (n := (l.length : Int) - 1) (by omega)]
    by_cases h2 : at_ ≥ (l.length : Int) - 1
    · rw [if_pos h2, if_neg (by omega)]
    rw [if_neg h2]
    obtain ⟨k, rfl⟩ : ∃ k : Nat, at_ = (k : Int) := ⟨at_.toNat, by omega⟩
    have hk : k + 1 < l.length := by omega
    have h3 := isOk_at ho (i := k) (by omega)
    have h4 := isOk_at ho (i := k + 1) (by omega)
    have hp := pair_eq hk
    rw [at?_lt (show k < l.length by omega), Option.bind_some, cast_succ _ (by omega), at?_lt hk, Option.bind_some, w64_id (n := l[k].2.2 + l[k + 1].2.2) (by omega), ← hp]
    simp only [Int.toNat_natCast]
    by_cases h5 : pair l k > 512
    · rw [if_pos h5, if_neg (by omega)]
    rw [if_neg h5, if_pos (by omega), sub_eq (by omega), Option.bind_some, w64_id (by omega), sub_eq (by omega), Option.bind_some, concat_eq _ (by simp) (by simp; omega), Option.bind_some]
    have e1 : ((k : Int) + 2).toNat = k + 2 := by omega
    simp [e1, show k < l.length by omega]
theorem refJoin_eq (l : List Span) (at_ id : Int) (hl : l.length < 1000000) : winnowerref19_Join l at_ id = some (joinB l at_ id) := by
  unfold winnowerref19_Join joinB
  rw [app_small (by decide) (by simp; omega), Option.bind_some, refIs_eq l (by omega), Option.bind_some]
  simp only [List.nil_append]
  cases ho : isOk l with
  | false => rfl
  | true =>
    simp only [if_true]
    by_cases h1 : at_ < 0
    · rw [if_pos h1, if_neg (by omega)]
    rw [if_neg h1]
    rw [w64_id (n := (l.length : Int) - 1) (by omega)]
    by_cases h2 : at_ ≥ (l.length : Int) - 1
    · rw [if_pos h2, if_neg (by omega)]
    rw [if_neg h2]
    obtain ⟨k, rfl⟩ : ∃ k : Nat, at_ = (k : Int) := ⟨at_.toNat, by omega⟩
    have hk : k + 1 < l.length := by omega
    have h3 := isOk_at ho (i := k) (by omega)
    have h4 := isOk_at ho (i := k + 1) (by omega)
    have hp := pair_eq hk
    rw [at?_lt (show k < l.length by omega), Option.bind_some, cast_succ _ (by omega), at?_lt hk, Option.bind_some, w64_id (n := l[k].2.2 + l[k + 1].2.2) (by omega), ← hp]
    simp only [Int.toNat_natCast]
    by_cases h5 : pair l k > 512
    · rw [if_pos h5, if_neg (by omega)]
    rw [if_neg h5, if_pos (by omega), sub_eq (by omega), Option.bind_some, w64_id (by omega), sub_eq (by omega), Option.bind_some, app_small (by decide) (by simp; omega), Option.bind_some, app_small (by decide) (by simp; omega), Option.bind_some, app_small (by decide) (by simp; omega), Option.bind_some]
    have e1 : ((k : Int) + 2).toNat = k + 2 := by omega
    simp [e1, show k < l.length by omega]
theorem drop_same : plan_Drop = winnowerref19_Drop := rfl
theorem drop_l0_same : plan_Drop_l0 = winnowerref19_Drop_l0 := rfl
/-- Whether a span goes. -/
def goes (n : Int) (x : Span) : Bool := decide (x.2.1 ≤ n) && decide (x.2.2 ≤ w64 (n - x.2.1))
theorem planDrop_loop (l : List Span) (n : Int) (hl : l.length < 1000000) : ∀ (d i : Nat), i + d = l.length →
    loopM (fun (g, s, v) => plan_Drop_l0 l n g s v) ((l.take i).filter (goes n), (l.take i).filter (fun x => !goes n x), (i : Int)) = some (l.filter (goes n), l.filter (fun x => !goes n x))
  | 0, i, hi => by
    obtain rfl : i = l.length := by omega
    rw [List.take_length]
    refine loopM_inr ?_
    simp only
    unfold plan_Drop_l0
    rw [if_neg (by omega)]
  | d + 1, i, hi => by
    have h1 : i < l.length := by omega
    rw [← planDrop_loop l n hl d (i + 1) (by omega)]
    refine loopM_inl ?_
    simp only
    unfold plan_Drop_l0
    have hf : ∀ p : Span → Bool, ((l.take i).filter p).length ≤ i := fun p => Nat.le_trans (List.length_filter_le _ _) (List.length_take_le _ _)
    have e1 := hf (goes n)
    have e2 := hf (fun x => !goes n x)
    rw [if_pos (by omega), at?_lt h1, Option.bind_some, cast_succ _ (by omega), List.take_succ_eq_append_getElem h1, List.filter_append, List.filter_append]
    rw [app_small (by decide) (by simp only [List.length_cons, List.length_nil]; omega), app_small (by decide) (by simp only [List.length_cons, List.length_nil]; omega)]
    simp only [Option.bind_some]
    generalize l[i] = x
    by_cases h2 : x.2.1 ≤ n
    · rw [if_pos h2]
      by_cases h3 : x.2.2 ≤ w64 (n - x.2.1)
      · rw [if_pos h3]; simp [goes, h2, h3]
      · rw [if_neg h3]; simp [goes, h2, h3]
    · rw [if_neg h2]; simp [goes, h2]
theorem planDrop_eq (l : List Span) (n : Int) (hl : l.length < 1000000) : plan_Drop l n = some (l.filter (goes n), l.filter (fun x => !goes n x)) := by
  unfold plan_Drop
  have := planDrop_loop l n hl l.length 0 (by omega)
  rw [List.take_zero, List.filter_nil, List.filter_nil] at this
  rw [show (([] : List Span), ([] : List Span), (0 : Int)) = ([], [], ((0 : Nat) : Int)) from rfl, this]; rfl
theorem spans_eq (a : List Span) (hl : a.length < 1000000) : winnowerlaw19_spans a a = some true := by
  unfold winnowerlaw19_spans
  rw [if_neg (by omega), loop_end (n := a.length) (step := fun i => winnowerlaw19_spans_l0 a a i) (.inr ()) (fun i hi => by
    unfold winnowerlaw19_spans_l0
    rw [if_pos (by omega), at?_lt hi, Option.bind_some, Option.bind_some, if_neg (by simp), cast_succ _ (by omega)]) (by
    unfold winnowerlaw19_spans_l0
    rw [if_neg (by omega)])]
  rfl
theorem known_eq : winnowerlaw19_known = some true := by
  unfold winnowerlaw19_known
  rw [planPick_eq _ (by decide), Option.bind_some]
  have : pickB [(1, 0, 5), (2, 5, 3), (3, 8, 4)] = (1, true) := by decide
  rw [this]; rfl
end Go.Proofs.Ytcbnamlioeiaeaa.FW
