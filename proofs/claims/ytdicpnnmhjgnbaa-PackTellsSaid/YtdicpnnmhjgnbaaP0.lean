/- The ground of the plain functions that the walks print: loops, indexes, whole numbers, as plain Lean. -/
import Init.Data.Int
namespace Go.Proofs.Ytdicpnnmhjgnbaa.FW
set_option linter.unusedVariables false

/-! ### Loops -/
def iterM {S T : Type} (step : S → Option (S ⊕ T)) : Nat → S → Option T
  | 0, _ => none
  | k + 1, s => match step s with
    | none => none
    | some (.inr t) => some t
    | some (.inl s') => iterM step k s'
theorem iterM_mono {S T : Type} {step : S → Option (S ⊕ T)} : ∀ {k : Nat} {s : S} {t : T}, iterM step k s = some t → ∀ {m : Nat}, k ≤ m → iterM step m s = some t
  | 0, s, t, h, _, _ => by simp [iterM] at h
  | k + 1, s, t, h, m, hm => by
    obtain ⟨m, rfl⟩ : ∃ q, m = q + 1 := ⟨m - 1, by omega⟩
    simp only [iterM] at h ⊢
    cases hs : step s with
    | none => rw [hs] at h; cases h
    | some o =>
      rw [hs] at h
      cases o with
      | inr t' => exact h
      | inl s' => exact iterM_mono h (by omega)
open Classical in
noncomputable def loopM {S T : Type} (step : S → Option (S ⊕ T)) (s : S) : Option T :=
  if h : ∃ t k, iterM step k s = some t then some h.choose else none
theorem loopM_some {S T : Type} {step : S → Option (S ⊕ T)} {s : S} {t : T} : loopM step s = some t ↔ ∃ k, iterM step k s = some t := by
  unfold loopM
  constructor
  · intro h
    split at h
    · rename_i hx
      simp only [Option.some.injEq] at h
      rw [← h]
      exact hx.choose_spec
    · cases h
  · rintro ⟨k, hk⟩
    have hx : ∃ t k, iterM step k s = some t := ⟨t, k, hk⟩
    rw [dif_pos hx]
    obtain ⟨k', hk'⟩ := hx.choose_spec
    have h1 := iterM_mono hk (Nat.le_max_left k k')
    have h2 := iterM_mono hk' (Nat.le_max_right k k')
    rw [h1] at h2
    exact h2.symm
theorem loopM_eq {S T : Type} (step : S → Option (S ⊕ T)) (s : S) : loopM step s = match step s with
    | none => none
    | some (.inr t) => some t
    | some (.inl s') => loopM step s' := by
  apply Option.ext
  intro t
  cases hs : step s with
  | none =>
    simp only [loopM_some]
    constructor
    · rintro ⟨k, hk⟩
      cases k with
      | zero => simp [iterM] at hk
      | succ k => simp [iterM, hs] at hk
    · intro h; cases h
  | some o =>
    cases o with
    | inr t' =>
      simp only [loopM_some]
      constructor
      · rintro ⟨k, hk⟩
        cases k with
        | zero => simp [iterM] at hk
        | succ k => simpa [iterM, hs] using hk
      · intro h; exact ⟨1, by simpa [iterM, hs] using h⟩
    | inl s' =>
      simp only [loopM_some]
      constructor
      · rintro ⟨k, hk⟩
        cases k with
        | zero => simp [iterM] at hk
        | succ k => exact ⟨k, by simpa [iterM, hs] using hk⟩
      · rintro ⟨k, hk⟩; exact ⟨k + 1, by simpa [iterM, hs] using hk⟩
theorem loopM_inl {S T : Type} {step : S → Option (S ⊕ T)} {s s' : S} (h : step s = some (.inl s')) : loopM step s = loopM step s' := by rw [loopM_eq, h]
theorem loopM_inr {S T : Type} {step : S → Option (S ⊕ T)} {s : S} {t : T} (h : step s = some (.inr t)) : loopM step s = some t := by rw [loopM_eq, h]
/-- A loop that comes to its end: an invariant that bears a number which each round lowers. -/
theorem loopM_rule {S T : Type} {step : S → Option (S ⊕ T)} (I : Nat → S → Prop) (Q : T → Prop)
    (round : ∀ m s, I m s → (∃ t, step s = some (.inr t) ∧ Q t) ∨ ∃ m' s', m' < m ∧ step s = some (.inl s') ∧ I m' s') (m : Nat) (s : S) (h : I m s) : ∃ t, loopM step s = some t ∧ Q t := by
  induction m using Nat.strongRecOn generalizing s with
  | _ m ih =>
    rcases round m s h with ⟨t, h1, h2⟩ | ⟨m', s', h1, h2, h3⟩
    · exact ⟨t, loopM_inr h1, h2⟩
    · rw [loopM_inl h2]; exact ih m' h1 s' h3

/-! ### Whole numbers -/
def w64 (n : Int) : Int := (n + 9223372036854775808) % 18446744073709551616 - 9223372036854775808
theorem w64_id {n : Int} (h : -9223372036854775808 ≤ n ∧ n ≤ 9223372036854775807) : w64 n = n := by unfold w64; omega
theorem w64_range (n : Int) : -9223372036854775808 ≤ w64 n ∧ w64 n ≤ 9223372036854775807 := by unfold w64; omega

/-! ### Lists -/
def at? {α : Type} (l : List α) (i : Int) : Option α := if 0 ≤ i then l[i.toNat]? else none
theorem at?_ok {α : Type} {l : List α} {i : Int} {x : α} (h : at? l i = some x) : 0 ≤ i ∧ i < (l.length : Int) ∧ l[i.toNat]? = some x := by
  unfold at? at h
  split at h
  · refine ⟨by assumption, ?_, h⟩
    have := (List.getElem?_eq_some_iff.1 h).1
    omega
  · cases h
theorem at?_nat {α : Type} (l : List α) (i : Nat) : at? l (i : Int) = l[i]? := by simp [at?]
theorem at?_get {α : Type} {l : List α} {i : Nat} (h : i < l.length) : at? l (i : Int) = some l[i] := by simp [at?, h]
/-- Two rows, one behind the other, if they have room. -/
def app? {α : Type} (k : Nat) (a b : List α) : Option (List α) := if (a.length + b.length) * k ≤ 140737488355328 then some (a ++ b) else none
theorem app?_ok {α : Type} {k : Nat} {a b c : List α} (h : app? k a b = some c) : (a.length + b.length) * k ≤ 140737488355328 ∧ c = a ++ b := by
  unfold app? at h
  split at h
  · exact ⟨by assumption, by simpa using h.symm⟩
  · cases h
theorem app?_eq {α : Type} {k : Nat} {a b : List α} (h : (a.length + b.length) * k ≤ 140737488355328) : app? k a b = some (a ++ b) := if_pos h
/-- A slice's part. -/
def sub? {α : Type} (l : List α) (i j : Int) : Option (List α) := if 0 ≤ i ∧ i ≤ j ∧ j ≤ (l.length : Int) then some ((l.take j.toNat).drop i.toNat) else none
theorem sub?_ok {α : Type} {l m : List α} {i j : Int} (h : sub? l i j = some m) : 0 ≤ i ∧ i ≤ j ∧ j ≤ (l.length : Int) ∧ m = (l.take j.toNat).drop i.toNat := by
  unfold sub? at h
  split at h
  · rename_i hh; exact ⟨hh.1, hh.2.1, hh.2.2, by simpa using h.symm⟩
  · cases h
def set? {α : Type} (l : List α) (i : Int) (x : α) : Option (List α) := if 0 ≤ i ∧ i < (l.length : Int) then some (l.set i.toNat x) else none
theorem set?_ok {α : Type} {l m : List α} {i : Int} {x : α} (h : set? l i x = some m) : 0 ≤ i ∧ i < (l.length : Int) ∧ m = l.set i.toNat x := by
  unfold set? at h
  split at h
  · rename_i hh; exact ⟨hh.1, hh.2, by simpa using h.symm⟩
  · cases h
/-! ### Strings -/
def cat? (a b : ByteArray) : Option ByteArray := if a.size + b.size ≤ 140737488355328 then some (a ++ b) else none
theorem cat?_ok {a b c : ByteArray} (h : cat? a b = some c) : a.size + b.size ≤ 140737488355328 ∧ c = a ++ b := by
  unfold cat? at h
  split at h
  · exact ⟨by assumption, by simpa using h.symm⟩
  · cases h
/-! ### Maps: rows of keys and values -/
def mget {κ ν : Type} [DecidableEq κ] : List (κ × ν) → κ → Option ν
  | [], _ => none
  | p :: m, k => if p.1 = k then some p.2 else mget m k
def mset {κ ν : Type} [DecidableEq κ] : List (κ × ν) → κ → ν → List (κ × ν)
  | [], k, v => [(k, v)]
  | p :: m, k, v => if p.1 = k then (k, v) :: m else p :: mset m k v
theorem mget_mset {κ ν : Type} [DecidableEq κ] (m : List (κ × ν)) (k k' : κ) (v : ν) : mget (mset m k v) k' = if k = k' then some v else mget m k' := by
  induction m with
  | nil => simp [mset, mget]
  | cons p m ih =>
    simp only [mset]
    by_cases h : p.1 = k
    · rw [if_pos h]; simp only [mget]
      by_cases h2 : k = k'
      · simp [h2]
      · rw [if_neg h2, if_neg h2, if_neg (by rw [h]; exact h2)]
    · rw [if_neg h]; simp only [mget, ih]
      by_cases h2 : p.1 = k'
      · rw [if_pos h2, if_neg (by rw [← h2]; exact fun e => h e.symm), if_pos h2]
      · rw [if_neg h2, if_neg h2]
theorem bind_ok {α β : Type} {m : Option α} {f : α → Option β} {y : β} (h : m.bind f = some y) : ∃ x, m = some x ∧ f x = some y := Option.bind_eq_some_iff.1 h
end Go.Proofs.Ytdicpnnmhjgnbaa.FW
