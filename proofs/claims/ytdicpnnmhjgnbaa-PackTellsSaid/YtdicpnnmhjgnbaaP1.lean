/- Aids for the plain laws: loops that look for something, loops that go through a list. -/
import Derived.Test.YtdicpnnmhjgnbaaP0
namespace Go.Proofs.Ytdicpnnmhjgnbaa.FW
set_option linter.unusedVariables false
/-- From i on, all below n. -/
def allF (p : Nat → Bool) (i d : Nat) : Bool := (List.range' i d).all p
theorem allF_zero (p : Nat → Bool) (i : Nat) : allF p i 0 = true := rfl
theorem allF_succ (p : Nat → Bool) (i d : Nat) : allF p i (d + 1) = (p i && allF p (i + 1) d) := by simp [allF, List.range'_succ]
theorem allF_iff {p : Nat → Bool} {i d : Nat} : allF p i d = true ↔ ∀ j, i ≤ j → j < i + d → p j = true := by
  simp only [allF, List.all_eq_true, List.mem_range'_1]
  exact ⟨fun h j h1 h2 => h j ⟨h1, h2⟩, fun h j hj => h j hj.1 hj.2⟩
theorem cast_succ (i : Nat) (h : i < 9223372036854775807) : w64 ((i : Int) + 1) = ((i + 1 : Nat) : Int) := by rw [w64_id (by omega)]; omega
theorem at?_lt {α : Type} {l : List α} {i : Nat} (h : i < l.length) : at? l (i : Int) = some (l[i]'h) := by simp [at?, h]
theorem at?_some {α : Type} {l : List α} {i : Nat} {x : α} (h : l[i]? = some x) : at? l (i : Int) = some x := by simp [at?, h]
/-- A loop that goes on while what it looks at is good. -/
theorem loop_all {T : Type} {step : Int → Option (Int ⊕ T)} {n : Nat} (p : Nat → Bool) (yes no : T)
    (h : ∀ i, i < n → step (i : Int) = some (if p i then .inl ((i + 1 : Nat) : Int) else .inr no)) (hn : step (n : Int) = some (.inr yes)) :
    ∀ (d i : Nat), i + d = n → loopM step (i : Int) = some (if allF p i d then yes else no)
  | 0, i, hi => by
    obtain rfl : i = n := by omega
    rw [loopM_inr hn, allF_zero]; rfl
  | d + 1, i, hi => by
    have h1 := h i (by omega)
    rw [allF_succ]
    cases hp : p i with
    | false => rw [hp] at h1; rw [loopM_inr h1]; rfl
    | true =>
      rw [hp] at h1
      rw [loopM_inl h1, loop_all p yes no h hn d (i + 1) (by omega)]; rfl
theorem loop_all0 {T : Type} {step : Int → Option (Int ⊕ T)} {n : Nat} (p : Nat → Bool) (yes no : T)
    (h : ∀ i, i < n → step (i : Int) = some (if p i then .inl ((i + 1 : Nat) : Int) else .inr no)) (hn : step (n : Int) = some (.inr yes)) :
    loopM step 0 = some (if allF p 0 n then yes else no) := loop_all p yes no h hn n 0 (by omega)
/-- A loop that comes to its end. -/
theorem loop_end {T : Type} {step : Int → Option (Int ⊕ T)} {n : Nat} (yes : T)
    (h : ∀ i, i < n → step (i : Int) = some (.inl ((i + 1 : Nat) : Int))) (hn : step (n : Int) = some (.inr yes)) : loopM step 0 = some yes := by
  have := loop_all0 (fun _ => true) yes yes (fun i hi => by rw [h i hi]; rfl) hn
  rw [this]; simp
/-- A loop with more than a number: what is known of its state at each number, and what it comes to. -/
theorem loop_fold {St T S : Type} {step : St → Option (St ⊕ T)} {n : Nat} (mk : S → Nat → St) (I : Nat → S → Prop) (out : S → T → Prop)
    (h : ∀ i s, i < n → I i s → (∃ s', step (mk s i) = some (.inl (mk s' (i + 1))) ∧ I (i + 1) s') ∨ ∃ t, step (mk s i) = some (.inr t) ∧ out s t)
    (hn : ∀ s, I n s → ∃ t, step (mk s n) = some (.inr t) ∧ out s t) : ∀ (d i : Nat) (s : S), i + d = n → I i s → ∃ s' t, loopM step (mk s i) = some t ∧ out s' t
  | 0, i, s, hi, hI => by
    obtain rfl : i = n := by omega
    obtain ⟨t, h1, h2⟩ := hn s hI
    exact ⟨s, t, loopM_inr h1, h2⟩
  | d + 1, i, s, hi, hI => by
    rcases h i s (by omega) hI with ⟨s', h1, h2⟩ | ⟨t, h1, h2⟩
    · rw [loopM_inl h1]
      exact loop_fold mk I out h hn d (i + 1) s' (by omega) h2
    · exact ⟨s, t, loopM_inr h1, h2⟩
/-- A loop that folds. -/
theorem loop_foldl {St T S : Type} {step : St → Option (St ⊕ T)} {n : Nat} (mk : S → Nat → St) (g : S → Nat → S) (out : S → T) (I : Nat → S → Prop)
    (h : ∀ i s, i < n → I i s → step (mk s i) = some (.inl (mk (g s i) (i + 1))) ∧ I (i + 1) (g s i))
    (hn : ∀ s, I n s → step (mk s n) = some (.inr (out s))) : ∀ (d i : Nat) (s : S), i + d = n → I i s → loopM step (mk s i) = some (out ((List.range' i d).foldl g s)) ∧ I n ((List.range' i d).foldl g s)
  | 0, i, s, hi, hI => by
    obtain rfl : i = n := by omega
    exact ⟨loopM_inr (hn s hI), hI⟩
  | d + 1, i, s, hi, hI => by
    obtain ⟨h1, h2⟩ := h i s (by omega) hI
    rw [loopM_inl h1, List.range'_succ, List.foldl_cons]
    exact loop_foldl mk g out I h hn d (i + 1) (g s i) (by omega) h2
end Go.Proofs.Ytdicpnnmhjgnbaa.FW
