/- part: the law PartRenders, as plain Lean, of arguments of bounded bulk. -/
import Derived.Test.YtcbnamlioeiaeaaPtC
import Derived.Test.YtcbnamlioeiaeaaX7
namespace Go.Proofs.Ytcbnamlioeiaeaa.FW
set_option linter.unusedVariables false
set_option linter.unusedSimpArgs false
theorem rnd_len : ∀ (t : List Part) (vs : List ByteArray), (rnd t vs).length ≤ sz t + (vs.map fun v => v.size + 1).sum
  | [], vs => by simp [rnd]
  | x :: t, vs => by
    have hs : sz (x :: t) = x.2.size + 1 + sz t := by simp [sz]
    by_cases hx : x.1 = true
    · cases vs with
      | nil => have := rnd_len t []; simp only [rnd, if_pos hx]; omega
      | cons v vs =>
        have := rnd_len t vs
        simp only [rnd, if_pos hx, List.length_append, by'_len, List.map_cons, List.sum_cons]; omega
    · have := rnd_len t vs
      simp only [rnd, if_neg hx, List.length_append, by'_len]; omega
theorem winnowerlaw14_PartRenders_true (t : List Part) (vars : List ByteArray) (h0 : Rng.ok t) (h1 : Rng.ok vars) (hw : Wt.wt t + Wt.wt vars ≤ 1048576) : winnowerlaw14_PartRenders t vars = some true := by
  unfold winnowerlaw14_PartRenders
  rcases wide_or t h0 with e0 | ⟨e0, s0⟩
  · rw [e0]; rfl
  have k0 := sz_len t
  rw [e0]
  simp only [Option.bind_some, Bool.false_eq_true, if_false]
  by_cases hv : ((vars.length : Nat) : Int) > 100
  · rw [if_pos hv]
  rw [if_neg hv]
  have h2 := rnd_len t vars
  have h3 : (vars.map fun v => v.size + 1).sum + 1 = Wt.wt vars := rfl
  rw [render_eq t vars (by omega) (fun _ => by omega), Option.bind_some, refRender_eq t vars (by omega) (fun _ => by omega), Option.bind_some, if_pos rfl, if_pos rfl, known14]; rfl
end Go.Proofs.Ytcbnamlioeiaeaa.FW
