/- plan's laws, as plain Lean: each answers true. -/
import Derived.Test.YtcbnamlioeiaeaaPlA
import Derived.Test.YtcbnamlioeiaeaaPlK1
import Derived.Test.YtcbnamlioeiaeaaX4
namespace Go.Proofs.Ytcbnamlioeiaeaa.FW
set_option linter.unusedVariables false
set_option linter.unusedSimpArgs false
theorem winnowerlaw19_PlanTells_true (l : List Span) (at_ id n : Int) (h0 : Rng.ok l) (h1 : Rng.ok at_) (h2 : Rng.ok id) (h3 : Rng.ok n) : winnowerlaw19_PlanTells l at_ id n = some true := by
  unfold winnowerlaw19_PlanTells
  by_cases hl : ((l.length : Nat) : Int) > 100
  · rw [if_pos hl]
  rw [if_neg hl]
  split
  · rfl
  split
  · rfl
  let p : Nat → Bool := fun i => match l[i]? with
    | none => true
    | some x => decide (¬ x.2.1 < -1125899906842624) && decide (¬ x.2.1 > 1125899906842624)
  rw [loop_all0 (n := l.length) (step := fun i => winnowerlaw19_PlanTells_l0 l i) p (.inr ()) (.inl true) (fun i hi => by
    unfold winnowerlaw19_PlanTells_l0
    simp only [p, List.getElem?_eq_getElem hi]
    rw [if_pos (by omega), at?_lt hi, Option.bind_some, cast_succ _ (by omega)]
    split
    · simp [*]
    · split <;> simp [*]) (by
    unfold winnowerlaw19_PlanTells_l0
    rw [if_neg (by omega)])]
  cases allF p 0 l.length with
  | false => rfl
  | true =>
    rw [if_pos rfl, Option.bind_some, Sum.elim_inr]
    rw [planPick_eq l (by omega), refPick_eq l (by omega), planJoin_eq l _ _ (by omega), refJoin_eq l _ _ (by omega), ← drop_same, planDrop_eq l _ (by omega), planIs_eq l (by omega), refIs_eq l (by omega)]
    simp only [Option.bind_some, beq_self_eq_true, if_true]
    have hf : ∀ q : Span → Bool, (l.filter q).length < 1000000 := fun q => Nat.lt_of_le_of_lt (List.length_filter_le _ _) (by omega)
    have hj : (joinB l at_ id).1.length < 1000000 := by
      unfold joinB
      split
      · split
        · simp; omega
        · simp; omega
      · simp; omega
    rw [spans_eq _ hj, Option.bind_some, if_pos rfl, spans_eq _ (hf _), Option.bind_some, if_pos rfl, spans_eq _ (hf _), Option.bind_some, if_pos rfl, known_eq]; rfl
theorem winnowerlaw19_PlanLeast_true (l : List Span) (h0 : Rng.ok l) : winnowerlaw19_PlanLeast l = some true := by
  unfold winnowerlaw19_PlanLeast
  by_cases hl : ((l.length : Nat) : Int) > 100
  · rw [if_pos hl]
  rw [if_neg hl, refIs_eq l (by omega), Option.bind_some]
  cases ho : isOk l with
  | false => rfl
  | true =>
    rw [if_pos rfl, planPick_eq l (by omega), Option.bind_some]
    by_cases hz : l.length = 0
    · rw [loopM_inr (t := .inr ()) (by unfold winnowerlaw19_PlanLeast_l0; rw [hz, if_neg (by decide)]), Option.bind_some, Sum.elim_inr, known_eq]; rfl
    rw [loop_end (n := l.length - 1) (step := fun i => winnowerlaw19_PlanLeast_l0 l (pickB l) i) (.inr ()) (fun i hi => by
      unfold winnowerlaw19_PlanLeast_l0
      have hi1 : i + 1 < l.length := by omega
      have k1 := isOk_at ho (i := i) (by omega)
      have k2 := isOk_at ho (i := i + 1) hi1
      have hp := pair_eq hi1
      rw [cast_succ _ (by omega), if_pos (by omega), at?_lt (show i < l.length by omega), Option.bind_some, at?_lt hi1, Option.bind_some, w64_id (n := l[i].2.2 + l[i + 1].2.2) (by omega), ← hp]
      by_cases h5 : pair l i > 512
      · rw [if_pos h5]
      rw [if_neg h5]
      rcases best_spec l (l.length - 1) with ⟨b1, b2, b3⟩ | ⟨k, b1, b2, b3, b4, b5, b6⟩
      · have := b3 i hi; omega
      · have hk1 : k + 1 < l.length := by omega
        have k3 := isOk_at ho (i := k) (by omega)
        have k4 := isOk_at ho (i := k + 1) hk1
        have hp2 := pair_eq hk1
        have b7 := b5 i hi
        have hpk : pickB l = ((k : Int), true) := by
          unfold pickB
          rw [ho, if_pos rfl, b2, if_neg (by omega)]
        rw [hpk]
        simp only [if_true]
        rw [if_neg (by omega), cast_succ _ (by omega), if_neg (by omega), at?_lt (show k < l.length by omega), Option.bind_some, at?_lt hk1, Option.bind_some, w64_id (n := l[k].2.2 + l[k + 1].2.2) (by omega), ← hp2, if_neg (by omega)]
        by_cases h6 : pair l i = pair l k
        · rw [if_pos h6]
          by_cases h7 : (i : Int) < (k : Int)
          · have := b6 i (by omega); omega
          · rw [if_neg h7]
        · rw [if_neg h6]) (by
      unfold winnowerlaw19_PlanLeast_l0
      rw [cast_succ _ (by omega), if_neg (by omega)]), Option.bind_some, Sum.elim_inr, known_eq]
    rfl
/-- Spans that may be stand one behind the other. -/
theorem isOk_next {l : List Span} (h : isOk l = true) {i : Nat} (hi : i + 1 < l.length) : l[i + 1].2.1 = l[i].2.1 + l[i].2.2 := by
  have := allF_iff.1 h (i + 1) (by omega) (by omega)
  have k1 := isOk_at h (i := i) (by omega)
  unfold okAt at this
  rw [List.getElem?_eq_getElem hi] at this
  simp only [Bool.and_eq_true, decide_eq_true_eq, List.getElem?_eq_getElem (show i < l.length by omega)] at this
  have h2 := this.1.2
  rwa [w64_id (by omega)] at h2
theorem isOk_rise {l : List Span} (h : isOk l = true) : ∀ (d i : Nat) (hi : i + d < l.length), l[i].2.1 ≤ l[i + d].2.1 ∧ (0 < d → l[i].2.1 + l[i].2.2 ≤ l[i + d].2.1)
  | 0, i, hi => by simp
  | d + 1, i, hi => by
    obtain ⟨h1, h2⟩ := isOk_rise h d i (by omega)
    have h3 := isOk_next h (i := i + d) (by omega)
    have h4 := isOk_at h (i := i + d) (by omega)
    have h5 := isOk_at h (i := i) (by omega)
    have e : l[i + (d + 1)] = l[i + d + 1] := rfl
    rw [e]
    refine ⟨by omega, fun _ => ?_⟩
    rcases Nat.eq_zero_or_pos d with rfl | hd
    · simp only [Nat.add_zero] at *; omega
    · have := h2 hd; omega
/-- Of what may be, what goes stands ahead. -/
theorem goes_iff {n : Int} (hn : -1099511627776 ≤ n ∧ n ≤ 1099511627776) {x : Span} (h : 0 ≤ x.2.1 ∧ x.2.1 ≤ 34359738368 ∧ 1 ≤ x.2.2 ∧ x.2.2 ≤ 512) : goes n x = true ↔ x.2.1 + x.2.2 ≤ n := by
  unfold goes
  simp only [Bool.and_eq_true, decide_eq_true_eq]
  rw [w64_id (by omega)]
  omega
theorem filter_split {α : Type} (p : α → Bool) : ∀ (l : List α), (∀ i j (hi : i < l.length) (hj : j < l.length), i < j → p l[j] = true → p l[i] = true) → l.filter p ++ l.filter (fun x => !p x) = l
  | [], _ => rfl
  | x :: l, h => by
    have h1 : ∀ i j (hi : i < l.length) (hj : j < l.length), i < j → p l[j] = true → p l[i] = true := fun i j hi hj hij hp => h (i + 1) (j + 1) (by simp; omega) (by simp; omega) (by omega) hp
    cases hx : p x with
    | true => simp [List.filter_cons, hx, filter_split p l h1]
    | false =>
      have h2 : l.filter p = [] := by
        rw [List.filter_eq_nil_iff]
        intro y hy hpy
        obtain ⟨j, hj, rfl⟩ := List.getElem_of_mem hy
        have := h 0 (j + 1) (by simp) (by simp; omega) (by omega) hpy
        simp [hx] at this
      have h3 : l.filter (fun x => !p x) = l := by
        rw [List.filter_eq_self]
        intro y hy
        rw [List.filter_eq_nil_iff] at h2
        simpa using h2 y hy
      simp [List.filter_cons, hx, h2, h3]
theorem winnowerlaw19_PlanDrops_true (l : List Span) (n : Int) (h0 : Rng.ok l) (h1 : Rng.ok n) : winnowerlaw19_PlanDrops l n = some true := by
  unfold winnowerlaw19_PlanDrops
  by_cases hl : ((l.length : Nat) : Int) > 60
  · rw [if_pos hl]
  rw [if_neg hl, refIs_eq l (by omega), Option.bind_some]
  cases ho : isOk l with
  | false => rfl
  | true =>
    rw [if_pos rfl]
    by_cases c1 : n < -1099511627776
    · rw [if_pos c1]
    rw [if_neg c1]
    by_cases c2 : n > 1099511627776
    · rw [if_pos c2]
    rw [if_neg c2, planDrop_eq l _ (by omega), Option.bind_some]
    have hg : ∀ i (hi : i < l.length), goes n l[i] = true ↔ l[i].2.1 + l[i].2.2 ≤ n := fun i hi => goes_iff (by omega) (by have := isOk_at ho hi; omega)
    have hall : l.filter (goes n) ++ l.filter (fun x => !goes n x) = l := by
      refine filter_split _ _ fun i j hi hj hij hp => ?_
      rw [hg j hj] at hp
      rw [hg i hi]
      obtain ⟨d, rfl⟩ : ∃ d, j = i + d := ⟨j - i, by omega⟩
      have := (isOk_rise ho d i hj).2 (by omega)
      have := isOk_at ho hj
      omega
    have hf : ∀ q : Span → Bool, (l.filter q).length ≤ 60 := fun q => Nat.le_trans (List.length_filter_le _ _) (by omega)
    have f1 := hf (goes n)
    have f2 := hf (fun x => !goes n x)
    simp only
    rw [app_small (by decide) (by simp only [List.length_nil]; omega), Option.bind_some, List.nil_append, app_small (by decide) (by omega), Option.bind_some, hall]
    rw [loop_end (n := (l.filter (goes n)).length) (step := fun i => winnowerlaw19_PlanDrops_l0 n (l.filter (goes n), l.filter (fun x => !goes n x)) i) (.inr ()) (fun i hi => by
      unfold winnowerlaw19_PlanDrops_l0
      simp only
      have hm : (l.filter (goes n))[i] ∈ l.filter (goes n) := List.getElem_mem hi
      rw [List.mem_filter] at hm
      obtain ⟨hm1, hm2⟩ := hm
      obtain ⟨j, hj, he⟩ := List.getElem_of_mem hm1
      rw [← he, hg j hj] at hm2
      have := isOk_at ho hj
      rw [if_pos (by omega), at?_lt hi, Option.bind_some, ← he, w64_id (by omega), if_neg (by omega), cast_succ _ (by omega)]) (by
      unfold winnowerlaw19_PlanDrops_l0
      rw [if_neg (by simp only; omega)]), Option.bind_some, Sum.elim_inr, spans_eq _ (by omega), Option.bind_some, if_pos rfl]
    by_cases hz : (((l.filter (fun x => !goes n x)).length : Nat) : Int) = 0
    · rw [if_pos hz, known_eq]; rfl
    rw [if_neg hz, show (0 : Int) = ((0 : Nat) : Int) from rfl, at?_lt (show 0 < (l.filter (fun x => !goes n x)).length by omega), Option.bind_some]
    have hm : (l.filter (fun x => !goes n x))[0]'(by omega) ∈ l.filter (fun x => !goes n x) := List.getElem_mem _
    rw [List.mem_filter] at hm
    obtain ⟨hm1, hm2⟩ := hm
    obtain ⟨j, hj, he⟩ := List.getElem_of_mem hm1
    rw [← he] at hm2 ⊢
    have := isOk_at ho hj
    have h3 := hg j hj
    rw [w64_id (by omega), if_pos (by
      rcases Int.lt_or_le n (l[j].2.1 + l[j].2.2) with h | h
      · exact h
      · rw [h3.2 h] at hm2; simp at hm2), known_eq]
    rfl
/-- The greatest number. -/
def most (l : List Span) (i : Nat) : Int := (l.take i).foldl (fun a x => max x.1 a) 0
theorem most_succ (l : List Span) {i : Nat} (hi : i < l.length) : most l (i + 1) = max l[i].1 (most l i) := by
  unfold most
  rw [List.take_succ_eq_append_getElem hi, List.foldl_append]; rfl
theorem most_le (l : List Span) : ∀ (n i : Nat), i < n → (hi : i < l.length) → n ≤ l.length → l[i].1 ≤ most l n
  | n + 1, i, h, hi, hn => by
    rw [most_succ l (by omega)]
    rcases Nat.lt_or_ge i n with h1 | h1
    · have := most_le l n i h1 hi (by omega); omega
    · obtain rfl : i = n := by omega
      omega
theorem joins_l0 (l : List Span) (hl : l.length ≤ 60) : ∀ (d i : Nat), i + d = l.length → loopM (fun (id, i) => winnowerlaw19_PlanJoins_l0 l id i) (most l i, (i : Int)) = some (most l l.length)
  | 0, i, hi => by
    obtain rfl : i = l.length := by omega
    refine loopM_inr ?_
    simp only
    unfold winnowerlaw19_PlanJoins_l0
    rw [if_neg (by omega)]
  | d + 1, i, hi => by
    have h1 : i < l.length := by omega
    rw [← joins_l0 l hl d (i + 1) (by omega)]
    refine loopM_inl ?_
    simp only
    unfold winnowerlaw19_PlanJoins_l0
    rw [if_pos (by omega), at?_lt h1, Option.bind_some, cast_succ _ (by omega), most_succ l h1]
    congr 3
    split <;> omega
/-- Two neighbours joined, under a number above all. -/
theorem join_ok {l : List Span} (h : isOk l = true) (hl : l.length ≤ 60) {k : Nat} (hk : k + 1 < l.length) (hp : pair l k ≤ 512) {id : Int} (hid : ∀ i (hi : i < l.length), l[i].1 < id) (h1 : 1 ≤ id) (h2 : id ≤ 34359738368) :
    isOk (l.take k ++ [(id, l[k].2.1, pair l k)] ++ l.drop (k + 2)) = true := by
  have hpe := pair_eq hk
  have hlen : (l.take k ++ [(id, l[k].2.1, pair l k)] ++ l.drop (k + 2)).length = l.length - 1 := by simp; omega
  have hget : ∀ i, (l.take k ++ [(id, l[k].2.1, pair l k)] ++ l.drop (k + 2))[i]? = if i < k then l[i]? else if i = k then some (id, l[k].2.1, pair l k) else l[i + 1]? := by
    intro i
    rw [List.append_assoc, List.getElem?_append, List.length_take, Nat.min_eq_left (by omega)]
    split
    · rw [List.getElem?_take, if_pos (by assumption)]
    · rename_i hik
      rw [List.singleton_append, List.getElem?_cons]
      split
      · rw [if_pos (by omega)]
      · rw [if_neg (by omega), List.getElem?_drop]; congr 1; omega
  refine allF_iff.2 fun i _ hi => ?_
  rw [hlen] at hi
  unfold okAt
  rw [hget]
  have hoth : ∀ (idx : Int) (n : Nat), (∀ j, j < n → ∀ y, (l.take k ++ [(id, l[k].2.1, pair l k)] ++ l.drop (k + 2))[j]? = some y → y.1 ≠ idx) → allF (other (l.take k ++ [(id, l[k].2.1, pair l k)] ++ l.drop (k + 2)) idx) 0 n = true := by
    intro idx n hh
    refine allF_iff.2 fun j _ hj => ?_
    unfold other
    cases hy : (l.take k ++ [(id, l[k].2.1, pair l k)] ++ l.drop (k + 2))[j]? with
    | none => rfl
    | some y => exact decide_eq_true (hh j (by omega) y hy)
  have hids : ∀ a b (ha : a < l.length) (hb : b < l.length), a < b → l[a].1 ≠ l[b].1 := by
    intro a b ha hb hab
    have := allF_iff.1 h b (by omega) (by omega)
    unfold okAt at this
    rw [List.getElem?_eq_getElem hb] at this
    simp only [Bool.and_eq_true] at this
    have h3 := allF_iff.1 this.2 a (by omega) (by omega)
    unfold other at h3
    rw [List.getElem?_eq_getElem ha] at h3
    simpa using h3
  by_cases c1 : i < k
  · have hil : i < l.length := by omega
    rw [if_pos c1, List.getElem?_eq_getElem hil]
    have g := isOk_at h hil
    simp only [Bool.and_eq_true, decide_eq_true_eq]
    refine ⟨⟨by omega, ?_⟩, hoth _ _ fun j hj y hy => ?_⟩
    · cases i with
      | zero => rfl
      | succ q =>
        simp only
        rw [hget, if_pos (by omega), List.getElem?_eq_getElem (show q < l.length by omega)]
        have := isOk_next h hil
        have g2 := isOk_at h (i := q) (by omega)
        simp only
        rw [w64_id (by omega)]
        exact decide_eq_true this
    · rw [hget, if_pos (by omega), List.getElem?_eq_getElem (show j < l.length by omega)] at hy
      cases hy
      exact hids j i _ _ hj
  rw [if_neg c1]
  by_cases c2 : i = k
  · subst c2
    rw [if_pos rfl]
    have g := isOk_at h (i := i) (by omega)
    have g1 := isOk_at h (i := i + 1) (by omega)
    simp only [Bool.and_eq_true, decide_eq_true_eq]
    refine ⟨⟨by omega, ?_⟩, hoth _ _ fun j hj y hy => ?_⟩
    · cases i with
      | zero => rfl
      | succ q =>
        simp only
        rw [hget, if_pos (by omega), List.getElem?_eq_getElem (show q < l.length by omega)]
        have := isOk_next h (i := q) (by omega)
        have g2 := isOk_at h (i := q) (by omega)
        simp only
        rw [w64_id (by omega)]
        exact decide_eq_true this
    · rw [hget, if_pos (by omega), List.getElem?_eq_getElem (show j < l.length by omega)] at hy
      cases hy
      have := hid j (by omega); omega
  · have hil : i + 1 < l.length := by omega
    rw [if_neg c2, List.getElem?_eq_getElem hil]
    have g := isOk_at h hil
    simp only [Bool.and_eq_true, decide_eq_true_eq]
    refine ⟨⟨by omega, ?_⟩, hoth _ _ fun j hj y hy => ?_⟩
    · cases i with
      | zero => omega
      | succ q =>
        simp only
        rw [hget, if_neg (by omega)]
        have n1 := isOk_next h (i := q + 1) hil
        by_cases c3 : q = k
        · subst c3
          rw [if_pos rfl]
          have n2 := isOk_next h (i := q) (by omega)
          have g2 := isOk_at h (i := q) (by omega)
          simp only
          rw [w64_id (by omega)]
          exact decide_eq_true (by rw [n1, n2, hpe]; omega)
        · rw [if_neg c3, List.getElem?_eq_getElem (show q + 1 < l.length by omega)]
          have g2 := isOk_at h (i := q + 1) (by omega)
          simp only
          rw [w64_id (by omega)]
          exact decide_eq_true n1
    · rw [hget] at hy
      by_cases d1 : j < k
      · rw [if_pos d1, List.getElem?_eq_getElem (show j < l.length by omega)] at hy
        cases hy
        exact hids j (i + 1) _ _ (by omega)
      · rw [if_neg d1] at hy
        by_cases d2 : j = k
        · rw [if_pos d2] at hy
          cases hy
          have := hid (i + 1) hil
          simp only; omega
        · rw [if_neg d2, List.getElem?_eq_getElem (show j + 1 < l.length by omega)] at hy
          cases hy
          exact hids (j + 1) (i + 1) _ _ (by omega)
/-- What stays so from round to round. -/
structure JInv (l : List Span) (id0 : Int) (k : Nat) (id : Int) (now : List Span) : Prop where
  ok : isOk now = true
  len : 1 ≤ now.length
  rounds : now.length + k = l.length
  id_eq : id = id0 + k
  below : ∀ i (hi : i < now.length), now[i].1 ≤ id
  first : ∀ (h : 0 < now.length) (h' : 0 < l.length), now[0].2.1 = l[0].2.1
  last : ∀ (h : 0 < now.length) (h' : 0 < l.length), now[now.length - 1].2.1 + now[now.length - 1].2.2 = l[l.length - 1].2.1 + l[l.length - 1].2.2
theorem joined_get {l : List Span} {k : Nat} (hk : k + 1 < l.length) (x : Span) (i : Nat) : (l.take k ++ [x] ++ l.drop (k + 2))[i]? = if i < k then l[i]? else if i = k then some x else l[i + 1]? := by
  rw [List.append_assoc, List.getElem?_append, List.length_take, Nat.min_eq_left (by omega)]
  split
  · rw [List.getElem?_take, if_pos (by assumption)]
  · rename_i hik
    rw [List.singleton_append, List.getElem?_cons]
    split
    · rw [if_pos (by omega)]
    · rw [if_neg (by omega), List.getElem?_drop]; congr 1; omega
theorem joins_l1 (l : List Span) (id0 : Int) (h0 : 0 ≤ id0) (h1 : id0 ≤ 1073741824) (hl : l.length ≤ 60) : ∀ (m k : Nat) (id : Int) (now : List Span), now.length = m → JInv l id0 k id now →
    ∃ k' id' now', loopM (fun (id, now, k) => winnowerlaw19_PlanJoins_l1 l id now k) (id, now, (k : Int)) = some (.inr now') ∧ JInv l id0 k' id' now' ∧ ∀ i, i + 1 < now'.length → 512 < pair now' i := by
  intro m
  induction m with
  | zero => intro k id now hm hI; have := hI.len; omega
  | succ m ih =>
    intro k id now hm hI
    have hr := hI.rounds
    have hln := hI.len
    rcases best_spec now (now.length - 1) with ⟨b1, b2, b3⟩ | ⟨q, b1, b2, b3, b4, b5, b6⟩
    · refine ⟨k, id, now, loopM_inr ?_, hI, fun i hi => by have := b3 i (by omega); omega⟩
      simp only
      unfold winnowerlaw19_PlanJoins_l1
      have hpk : pickB now = (0, false) := by unfold pickB; rw [hI.ok, if_pos rfl, b2, if_pos (by decide)]
      rw [if_pos (by omega), planPick_eq now (by omega), Option.bind_some, hpk]
      rfl
    · have hq : q + 1 < now.length := by omega
      have hpk : pickB now = ((q : Int), true) := by unfold pickB; rw [hI.ok, if_pos rfl, b2, if_neg (by omega)]
      have hid := hI.id_eq
      have hjb : joinB now (q : Int) (id + 1) = (now.take q ++ [(id + 1, now[q].2.1, pair now q)] ++ now.drop (q + 2), true) := by
        unfold joinB
        rw [hI.ok, if_pos rfl, Int.toNat_natCast, if_pos (by omega), List.getElem?_eq_getElem (show q < now.length by omega)]; rfl
      have hok := join_ok hI.ok (by omega) hq (by omega) (id := id + 1) (fun i hi => by have := hI.below i hi; omega) (by omega) (by omega)
      have hlen : (now.take q ++ [(id + 1, now[q].2.1, pair now q)] ++ now.drop (q + 2)).length = now.length - 1 := by simp; omega
      have hget := joined_get hq (id + 1, now[q].2.1, pair now q)
      have hpe := pair_eq hq
      generalize hJ : now.take q ++ [(id + 1, now[q].2.1, pair now q)] ++ now.drop (q + 2) = J at *
      have hnext : JInv l id0 (k + 1) (id + 1) J := by
        refine ⟨hok, by omega, by omega, by omega, fun i hi => ?_, fun h h' => ?_, fun h h' => ?_⟩
        · have h2 := hget i
          rw [List.getElem?_eq_getElem hi] at h2
          by_cases c1 : i < q
          · rw [if_pos c1, List.getElem?_eq_getElem (show i < now.length by omega)] at h2
            have := hI.below i (by omega)
            rw [Option.some.inj h2]; omega
          · rw [if_neg c1] at h2
            by_cases c2 : i = q
            · rw [if_pos c2] at h2
              rw [Option.some.inj h2]; simp
            · rw [if_neg c2, List.getElem?_eq_getElem (show i + 1 < now.length by omega)] at h2
              have := hI.below (i + 1) (by omega)
              rw [Option.some.inj h2]; omega
        · have h2 := hget 0
          rw [List.getElem?_eq_getElem h] at h2
          rw [← hI.first (by omega) h']
          by_cases c1 : 0 < q
          · rw [if_pos c1, List.getElem?_eq_getElem (show 0 < now.length by omega)] at h2
            rw [Option.some.inj h2]
          · obtain rfl : q = 0 := by omega
            rw [if_neg c1, if_pos rfl] at h2
            rw [Option.some.inj h2]
        · have h2 := hget (J.length - 1)
          rw [List.getElem?_eq_getElem (by omega)] at h2
          rw [← hI.last (by omega) h']
          rw [if_neg (by omega)] at h2
          by_cases c2 : J.length - 1 = q
          · rw [if_pos c2] at h2
            rw [Option.some.inj h2]
            have e1 : now.length - 1 = q + 1 := by omega
            have n1 := isOk_next hI.ok hq
            simp only [e1]
            rw [n1, hpe]; omega
          · rw [if_neg c2] at h2
            have e1 : J.length - 1 + 1 = now.length - 1 := by omega
            rw [e1, List.getElem?_eq_getElem (show now.length - 1 < now.length by omega)] at h2
            rw [Option.some.inj h2]
      obtain ⟨k', id', now', g1, g2, g3⟩ := ih (k + 1) (id + 1) J (by omega) hnext
      refine ⟨k', id', now', ?_, g2, g3⟩
      rw [← g1]
      refine loopM_inl ?_
      simp only
      unfold winnowerlaw19_PlanJoins_l1
      rw [if_pos (by omega), planPick_eq now (by omega), Option.bind_some, hpk]
      simp only [if_true]
      rw [w64_id (n := id + 1) (by omega), planJoin_eq now _ _ (by omega), Option.bind_some, hjb]
      simp only [if_true]
      rw [w64_id (n := (now.length : Int) - 1) (by omega), if_neg (by omega), planIs_eq J (by omega), Option.bind_some, hok, if_pos rfl, cast_succ _ (by omega)]
theorem winnowerlaw19_PlanJoins_true (l : List Span) (h0 : Rng.ok l) : winnowerlaw19_PlanJoins l = some true := by
  unfold winnowerlaw19_PlanJoins
  by_cases hl : ((l.length : Nat) : Int) > 60
  · rw [if_pos hl]
  rw [if_neg hl, refIs_eq l (by omega), Option.bind_some]
  cases ho : isOk l with
  | false => rfl
  | true =>
    rw [if_pos rfl]
    by_cases hz : ((l.length : Nat) : Int) = 0
    · rw [if_pos hz]
    rw [if_neg hz]
    have j0 := joins_l0 l (by omega) l.length 0 (by omega)
    rw [show most l 0 = 0 from rfl] at j0
    rw [show ((0 : Int), (0 : Int)) = (0, ((0 : Nat) : Int)) from rfl, j0, Option.bind_some]
    by_cases hm : most l l.length > 1073741824
    · rw [if_pos hm, known_eq]; rfl
    rw [if_neg hm, app_small (by decide) (by simp only [List.length_nil]; omega), Option.bind_some, List.nil_append]
    have hb : ∀ i (hi : i < l.length), l[i].1 ≤ most l l.length := fun i hi => most_le l l.length i hi hi (by omega)
    have h1 := hb 0 (by omega)
    have h2 := isOk_at ho (i := 0) (by omega)
    obtain ⟨k', id', now', g1, g2, g3⟩ := joins_l1 l (most l l.length) (by omega) (by omega) (by omega) l.length 0 (most l l.length) l rfl ⟨ho, by omega, by omega, by omega, hb, fun _ _ => rfl, fun _ _ => rfl⟩
    rw [show (most l l.length, l, (0 : Int)) = (most l l.length, l, ((0 : Nat) : Int)) from rfl, g1, Option.bind_some, Sum.elim_inr]
    have hr := g2.rounds
    have hln := g2.len
    rw [loop_end (n := now'.length - 1) (step := fun i => winnowerlaw19_PlanJoins_l2 now' i) (.inr ()) (fun i hi => by
      unfold winnowerlaw19_PlanJoins_l2
      have hi1 : i + 1 < now'.length := by omega
      have k1 := isOk_at g2.ok (i := i) (by omega)
      have k2 := isOk_at g2.ok (i := i + 1) hi1
      have hp := pair_eq hi1
      have := g3 i hi1
      rw [cast_succ _ (by omega), if_pos (by omega), at?_lt (show i < now'.length by omega), Option.bind_some, at?_lt hi1, Option.bind_some, w64_id (n := now'[i].2.2 + now'[i + 1].2.2) (by omega), ← hp, if_neg (by omega)]) (by
      unfold winnowerlaw19_PlanJoins_l2
      rw [cast_succ _ (by omega), if_neg (by omega)]), Option.bind_some, Sum.elim_inr]
    have w1 : w64 ((l.length : Int) - 1) = ((l.length - 1 : Nat) : Int) := by rw [w64_id (by omega)]; omega
    have w2 : w64 ((now'.length : Int) - 1) = ((now'.length - 1 : Nat) : Int) := by rw [w64_id (by omega)]; omega
    have o1 := isOk_at ho (i := l.length - 1) (by omega)
    have o2 := isOk_at g2.ok (i := now'.length - 1) (by omega)
    rw [w1, w2, at?_lt (show l.length - 1 < l.length by omega), Option.bind_some, at?_lt (show now'.length - 1 < now'.length by omega), Option.bind_some, show (0 : Int) = ((0 : Nat) : Int) from rfl, at?_lt (show 0 < now'.length by omega), Option.bind_some, at?_lt (show 0 < l.length by omega), Option.bind_some,
      if_pos (g2.first (by omega) (by omega)), w64_id (n := l[l.length - 1].2.1 + l[l.length - 1].2.2) (by omega), w64_id (n := now'[now'.length - 1].2.1 + now'[now'.length - 1].2.2) (by omega), if_pos (g2.last (by omega) (by omega)).symm, known_eq]
    rfl
end Go.Proofs.Ytcbnamlioeiaeaa.FW
