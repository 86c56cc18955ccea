/- Arguments opened: bytes, and slices whose elements lie in one cell each; slices of slices of whole numbers. -/
import Derived.Test.YtdicpnnmhjgnbaaOpen
namespace Go.Proofs.Ytdicpnnmhjgnbaa.FW
open Go Go.ChangeShapes Go.WideShapes Go.ChangeAt Go.RowKit Go.ChangeMaps
set_option linter.unusedVariables false
/-- Bytes out of whole numbers that are in range. -/
theorem bytes_of (z : List Int) (hw : ∀ x ∈ z, (Lit.int .u8 x).wf = true) : ∃ bs : List UInt8, bs.length = z.length ∧ z.map (Value.int .u8) = bcells bs := by
  refine ⟨z.map fun x => UInt8.ofNat x.toNat, by simp, ?_⟩
  unfold bcells
  rw [List.map_map]
  refine List.map_congr_left fun x hx => ?_
  have h := hw x hx
  have h2 : 0 ≤ x ∧ x ≤ 255 := by simpa [Lit.wf, IntKind.min, IntKind.max, IntKind.signed, IntKind.bits] using h
  simp only [Function.comp, UInt8.toNat_ofNat']
  congr 1
  omega
theorem i64_of {z : List Int} (hw : ∀ x ∈ z, (Lit.int .i64 x).wf = true) (i : Nat) (hi : i < z.length) : -9223372036854775808 ≤ z.getD i 0 ∧ z.getD i 0 ≤ 9223372036854775807 := by
  have hx := hw (z.getD i 0) (by simp [List.getD_eq_getElem?_getD, hi])
  simpa [Lit.wf, IntKind.min, IntKind.max, IntKind.signed, IntKind.bits] using hx
section
variable {H : Type} {enc : TypeId × Value → H} {P : Program} {w : World} {base : Nat} {spare : Nat → Bool} {held : Bool} {t e e2 : TypeId} {k : IntKind} {A : Option Addr} {n c : Nat} {d : DataW H} {p : List MemPlace}
theorem openIntsF {fuel : Nat} {cs : List Value} {x : DataW H × List MemPlace} (hu : P.underlying t = some (.slice e)) (he : P.underlying e = some (.int k)) (hs : P.cellsOf e = 1) (hf : DataW.trod enc P w base spare held fuel t cs = some x) :
    ∃ A n c, cs = [.slice A n c] ∧ ∃ zs : List Int, zs.length = n ∧ n ≤ c ∧ RC (heapOf w) A (zs.map (Value.int k)) ∧ ∀ x ∈ zs, (Lit.int k x).wf = true := by
  rcases open_ints hu he hs hf with ⟨hcs, _⟩ | ⟨x, l, c', zs, hcs, _, hl, hm, hz, _, hcell, hwz⟩
  · exact ⟨none, 0, 0, hcs, [], rfl, Nat.le_refl _, RC.nil _ _, by simp⟩
  · have hzn : l ≤ zs.length := by rw [hz]; split <;> omega
    refine ⟨some x, l, c', hcs, zs.take l, by simp; omega, hl, ⟨fun _ => rfl, fun j v hj => ?_⟩, fun x hx => hwz x (List.mem_of_mem_take hx)⟩
    rw [heapOf_cell]
    simp only [List.getElem?_map, List.getElem?_take] at hj
    split at hj
    · have hj2 : j < zs.length := by omega
      rw [List.getElem?_eq_getElem hj2] at hj
      simp only [Option.map_some, Option.some.injEq] at hj
      rw [adr, Option.getD_some, hcell j hj2, ← hj, List.getD_eq_getElem?_getD, List.getElem?_eq_getElem hj2]
      rfl
    · simp at hj
/-- A slice whose elements lie in one cell each. -/
theorem openOnes (hu : P.underlying t = some (.slice e)) (hs : P.cellsOf e = 1) (h : DataW.Trod enc P w base spare held t (.slice A n c) d p) :
    ∃ vs : List Value, vs.length = n ∧ n ≤ c ∧ RC (heapOf w) A vs ∧ ∀ v ∈ vs, ∃ fuel x, DataW.trod enc P w base spare held fuel e [v] = some x := by
  obtain ⟨fuel, hf⟩ := h
  rcases DataW.trod_slice hu hf with ⟨hcs, _⟩ | ⟨a, len, cap, elems, rest, m, _, hcs, _, hb, hl, hm, hlen, hel, _, _⟩
  · simp [Value.cells] at hcs
    obtain ⟨rfl, rfl, rfl⟩ := hcs
    exact ⟨[], rfl, Nat.le_refl _, RC.nil _ _, by simp⟩
  · simp [Value.cells] at hcs
    obtain ⟨rfl, rfl, rfl⟩ := hcs
    have each : ∀ i, i < n → ∃ v, w.cell? (a.add i) = some v ∧ ∃ x, DataW.trod enc P w base spare held m e [v] = some x := by
      intro i hi
      have h1 := hel i hi
      rw [List.getElem?_eq_getElem (by omega), hs, Nat.mul_one, Option.bind_eq_some_iff] at h1
      obtain ⟨cs', hcs', hy⟩ := h1
      have hl1 := (World.cells?_some hcs').2.1
      cases cs' with
      | nil => simp at hl1
      | cons v r =>
        cases r with
        | cons v2 r2 => simp at hl1
        | nil => exact ⟨v, cell_of_cells?_one hcs', _, hy⟩
    refine ⟨(List.range n).map fun i => (w.cell? (a.add i)).getD undef, by simp, hl, ⟨fun _ => rfl, fun j v hj => ?_⟩, fun v hv => ?_⟩
    · rw [heapOf_cell]
      simp only [List.getElem?_map, Option.map_eq_some_iff] at hj
      obtain ⟨i, hi, rfl⟩ := hj
      have hjn : j < n ∧ j = i := by
        by_cases hjn : j < n
        · rw [List.getElem?_range hjn] at hi; exact ⟨hjn, by simpa using hi⟩
        · rw [List.getElem?_eq_none (by simpa using hjn)] at hi; cases hi
      obtain ⟨hjn, rfl⟩ := hjn
      obtain ⟨v, h1, _⟩ := each j hjn
      rw [adr, Option.getD_some, h1]; rfl
    · obtain ⟨i, hi, rfl⟩ := List.mem_map.1 hv
      obtain ⟨v, h1, x, h2⟩ := each i (by simpa using hi)
      rw [h1]
      exact ⟨m, x, h2⟩
end
end Go.Proofs.Ytdicpnnmhjgnbaa.FW
