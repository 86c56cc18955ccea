/- An argument that came in, opened: what its cells hold. -/
import Derived.Test.YtdicpnnmhjgnbaaF7
import Derived.ProofKit
import Derived.OpenShut
namespace Go.Proofs.Ytdicpnnmhjgnbaa.FW
open Go Go.ChangeShapes Go.WideShapes Go.ChangeAt Go.RowKit Go.ChangeMaps
set_option linter.unusedVariables false
/-- What the world holds ahead of the call. -/
abbrev heapOf (w : World) : IM := fun b => w.heap[b]?
theorem heapOf_cell (w : World) (a : Addr) : (heapOf w).cell? a = w.cell? a := by
  unfold IM.cell? World.cell? heapOf
  cases w.heap[a.block]? with
  | none => rfl
  | some o => cases o <;> rfl
/-- A slice of whole numbers: its cells, in what the world holds ahead of the call. -/
theorem openInts {H : Type} {enc : TypeId × Value → H} {P : Program} {w : World} {base : Nat} {spare : Nat → Bool} {held : Bool} {t e : TypeId} {k : IntKind} {A : Option Addr} {n c : Nat} {d : DataW H} {p : List MemPlace}
    (hu : P.underlying t = some (.slice e)) (he : P.underlying e = some (.int k)) (hs : P.cellsOf e = 1) (h : DataW.Trod enc P w base spare held t (.slice A n c) d p) :
    ∃ zs : List Int, zs.length = n ∧ n ≤ c ∧ RC (heapOf w) A (zs.map (Value.int k)) ∧ ∀ x ∈ zs, (Lit.int k x).wf = true := by
  obtain ⟨fuel, hf⟩ := h
  rcases open_ints hu he hs hf with ⟨hcs, _⟩ | ⟨x, l, c', zs, hcs, _, hl, hm, hz, _, hcell, hwz⟩
  · simp [Value.cells] at hcs
    obtain ⟨rfl, rfl, rfl⟩ := hcs
    exact ⟨[], rfl, Nat.le_refl _, RC.nil _ _, by simp⟩
  · simp [Value.cells] at hcs
    obtain ⟨rfl, rfl, rfl⟩ := hcs
    have hzn : n ≤ zs.length := by rw [hz]; split <;> omega
    refine ⟨zs.take n, by simp; omega, hl, ⟨fun _ => rfl, fun j v hj => ?_⟩, fun x hx => hwz x (List.mem_of_mem_take hx)⟩
    rw [heapOf_cell]
    simp only [List.getElem?_map, List.getElem?_take] at hj
    split at hj
    · have hj2 : j < zs.length := by omega
      rw [List.getElem?_eq_getElem hj2] at hj
      simp only [Option.map_some, Option.some.injEq] at hj
      rw [adr, Option.getD_some, hcell j hj2, ← hj, List.getD_eq_getElem?_getD, List.getElem?_eq_getElem hj2]
      rfl
    · simp at hj
end Go.Proofs.Ytdicpnnmhjgnbaa.FW
