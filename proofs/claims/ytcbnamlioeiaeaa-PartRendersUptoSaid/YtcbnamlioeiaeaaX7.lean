/- Arguments of bounded bulk, as plain data. -/
import Derived.Test.YtcbnamlioeiaeaaX4
import Derived.Test.YtcbnamlioeiaeaaRows
namespace Go.Proofs.Ytcbnamlioeiaeaa.FW
open Go Go.ChangeShapes Go.WideShapes Go.ChangeAt Go.RowKit Go.ChangeMaps
set_option linter.unusedVariables false
set_option linter.unusedSimpArgs false
/-- What plain data weigh. -/
class Wt (α : Type) where
  wt : α → Nat
instance : Wt Int := ⟨fun _ => 1⟩
instance : Wt Bool := ⟨fun _ => 1⟩
instance : Wt ByteArray := ⟨fun s => s.size + 1⟩
instance {α β : Type} [Wt α] [Wt β] : Wt (α × β) := ⟨fun x => Wt.wt x.1 + Wt.wt x.2⟩
instance {α : Type} [Wt α] : Wt (List α) := ⟨fun l => (l.map Wt.wt).sum + 1⟩
class OpensU (P : Program) (t : TypeId) (α : Type) [Dat α] [Rng α] [Wt α] : Prop where
  pos : ∀ a : α, 1 ≤ Wt.wt a
  opens : ∀ {H : Type} (enc : TypeId × Value → H) (w : World) (base : Nat) (spare : Nat → Bool) (held : Bool) (fuel : Nat) (cs : List Value) (x : DataW H × List MemPlace),
    DataW.trod enc P w base spare held fuel t cs = some x → ∃ a : α, Dat.rep (heapOf w) cs a ∧ (Wt.wt a ≤ 1048576 → Rng.ok a) ∧ Wt.wt a ≤ Rows.uptoBulk x.1
section
variable {P : Program} {t u : TypeId}
instance ouInt {sz bt : Nat} {zr : List Value} [ht : Ty P t (.int .i64) sz bt zr] : OpensU P t Int := by
  refine ⟨fun a => Nat.le_refl _, fun {H} enc w base spare held fuel cs x h => ?_⟩
  obtain ⟨n, rfl, hx, hw⟩ := DataW.trod_int ht.und h
  exact ⟨n, rfl, fun _ => by simpa [Rng.ok, Lit.wf, IntKind.min, IntKind.max, IntKind.signed, IntKind.bits] using hw, by rw [hx]; exact Nat.le_refl _⟩
instance ouBool {sz bt : Nat} {zr : List Value} [ht : Ty P t .bool sz bt zr] : OpensU P t Bool := by
  refine ⟨fun a => Nat.le_refl _, fun {H} enc w base spare held fuel cs x h => ?_⟩
  obtain ⟨b, rfl, hx⟩ := DataW.trod_bool ht.und h
  exact ⟨b, rfl, fun _ => trivial, by rw [hx]; exact Nat.le_refl _⟩
instance ouStr {sz bt : Nat} {zr : List Value} [ht : Ty P t .string sz bt zr] : OpensU P t ByteArray := by
  refine ⟨fun a => Nat.le_add_left _ _, fun {H} enc w base spare held fuel cs x h => ?_⟩
  obtain ⟨b, rfl, hb⟩ := DataW.trod_string ht.und h
  refine ⟨b, rfl, fun hw => ?_, ?_⟩
  · have : b.size + 1 ≤ 1048576 := hw
    show b.size ≤ 140737488351232
    omega
  · rw [hb.1]
    show b.size + 1 ≤ b.data.toList.length + 1
    rw [Array.length_toList]; exact Nat.le_refl _
theorem bulkAll_app {H : Type} : ∀ a b : List (DataW H), Rows.uptoBulkAll (a ++ b) = Rows.uptoBulkAll a + Rows.uptoBulkAll b
  | [], b => by simp [Rows.uptoBulkAll]
  | x :: a, b => by simp only [List.cons_append, Rows.uptoBulkAll, bulkAll_app a b]; omega
theorem ouSl {α : Type} [Dat α] [Rng α] [Wt α] {d : TypeDesc} {sz bt size bytes : Nat} {zr zr' : List Value} [ht : Ty P t (.slice u) sz bt zr] [hu : Ty P u d size bytes zr'] [ho : OpensU P u α] (hsz : Dat.size α = size) : OpensU P t (List α) := by
  refine ⟨fun a => Nat.le_add_left _ _, fun {H} enc w base spare held fuel cs x h => ?_⟩
  have hc := cells_of hu
  rcases DataW.trod_slice ht.und h with ⟨rfl, rfl⟩ | ⟨a, len, cap, elems, rest, m, _, rfl, rfl, hb, hl, hm, hlen, hel, _, _⟩
  · exact ⟨[], ⟨none, 0, rfl, Nat.le_refl _, SlR.nil _ _⟩, fun _ => by simp [Rng.ok], by show 0 + 1 ≤ 1; decide⟩
  · have each : ∀ i (hi : i < len), ∃ cs' x', Dat.rep (heapOf w) cs' x' ∧ (Wt.wt x' ≤ 1048576 → Rng.ok (α := α) x') ∧ Wt.wt x' ≤ Rows.uptoBulk (elems[i]'(by omega)).1 ∧ ∀ j v, cs'[j]? = some v → w.cell? ((a.add (i * size)).add j) = some v := by
      intro i hi
      have h1 := hel i hi
      rw [List.getElem?_eq_getElem (by omega), hc, Option.bind_eq_some_iff] at h1
      obtain ⟨cs', hcs', hy⟩ := h1
      obtain ⟨_, h2, h3⟩ := World.cells?_some hcs'
      obtain ⟨x', hr, hok, hwt⟩ := ho.opens enc w base spare held m cs' _ hy
      refine ⟨cs', x', hr, hok, hwt, fun j v hj => ?_⟩
      have : j < size := by
        have := (List.getElem?_eq_some_iff.1 hj).1
        omega
      rw [h3 j this]; exact hj
    have all : ∀ n, n ≤ len → ∃ (es : List Value) (l : List α), l.length = n ∧ repL (heapOf w) es l ∧ (∀ x ∈ l, Wt.wt x ≤ 1048576 → Rng.ok x) ∧ (l.map Wt.wt).sum ≤ Rows.uptoBulkAll ((elems.take n).map (·.1)) ∧ ∀ j v, es[j]? = some v → w.cell? (a.add j) = some v := by
      intro n
      induction n with
      | zero => intro _; exact ⟨[], [], rfl, rfl, by simp, by simp, by simp⟩
      | succ n ih =>
        intro hn
        obtain ⟨es, l, h1, h2, h3, h5, h4⟩ := ih (by omega)
        obtain ⟨cs', x', hr, hok, hwt, hcell⟩ := each n (by omega)
        have hel := repL_len h2
        refine ⟨es ++ cs', l ++ [x'], by simp [h1], repL_app h2 (repL_single hr), fun y hy => ?_, ?_, fun j v hj => ?_⟩
        · rcases List.mem_append.1 hy with h | h
          · exact h3 y h
          · rw [List.mem_singleton.1 h]; exact hok
        · rw [List.take_succ_eq_append_getElem (by omega), List.map_append, List.map_append, List.sum_append, bulkAll_app]
          simp only [List.map_cons, List.map_nil, List.sum_cons, List.sum_nil, Rows.uptoBulkAll]
          omega
        · rw [List.getElem?_append] at hj
          split at hj
          · exact h4 j v hj
          · have h5 := hcell _ v hj
            rw [add_add] at h5
            rw [hel, h1, hsz] at h5
            have h6 : n * size + (j - n * size) = j := by
              have : ¬ j < n * size := by rw [hel, h1, hsz] at *; assumption
              omega
            rw [h6] at h5; exact h5
    obtain ⟨es, l, h1, h2, h3, h5, h4⟩ := all len (Nat.le_refl _)
    rw [List.take_of_length_le (by omega)] at h5
    have hle : ∀ l' : List α, l'.length ≤ (l'.map Wt.wt).sum := fun l' => by
      induction l' with
      | nil => simp
      | cons y l' ih => have := ho.pos y; simp only [List.map_cons, List.sum_cons, List.length_cons]; omega
    have hmem : ∀ (l' : List α) (y : α), y ∈ l' → Wt.wt y ≤ (l'.map Wt.wt).sum := fun l' => by
      induction l' with
      | nil => intro y hy; simp at hy
      | cons z l' ih =>
        intro y hy
        simp only [List.map_cons, List.sum_cons]
        rcases List.mem_cons.1 hy with rfl | h
        · omega
        · have := ih y h; omega
    refine ⟨l, ⟨some a, cap, by rw [h1], by omega, es, ⟨fun _ => rfl, fun j v hj => ?_⟩, h2⟩, fun hw => ?_, ?_⟩
    · rw [heapOf_cell]; exact h4 j v hj
    · have hw' : (l.map Wt.wt).sum + 1 ≤ 1048576 := hw
      have := hle l
      exact ⟨by omega, fun y hy => h3 y hy (by have := hmem l y hy; omega)⟩
    · show (l.map Wt.wt).sum + 1 ≤ Rows.uptoBulkAll (elems.map (·.1)) + Rows.uptoBulkAll (rest.map (·.1)) + 1
      omega
theorem ouPair {α β : Type} [Dat α] [Dat β] [Rng α] [Rng β] [Wt α] [Wt β] {fs : Array Field} {f0 f1 : Field} {s1 t0 t1 : Nat} (ht : P.underlying t = some (.struct fs)) (hf : fs = #[f0, f1]) (e0 : f0.type = t0) (e1 : f1.type = t1) (h0 : f0.offset = 0) (h1 : f1.offset = Dat.size α)
    (hc : P.cellsOf t = Dat.size α + s1) (hc0 : P.cellsOf t0 = Dat.size α) (hc1 : P.cellsOf t1 = s1) [o0 : OpensU P t0 α] [o1 : OpensU P t1 β] : OpensU P t (α × β) := by
  subst hf e0 e1
  refine ⟨fun a => Nat.le_trans (o0.pos a.1) (Nat.le_add_right _ _), fun {H} enc w base spare held fuel cs x h => ?_⟩
  obtain ⟨xs, n, _, rfl, hl, hx, hff⟩ := DataW.trod_struct ht h
  obtain ⟨x0, x1, rfl⟩ : ∃ x0 x1, xs = [x0, x1] := by
    match xs, hx with
    | [a, b], _ => exact ⟨a, b, rfl⟩
  have k0 := hff 0 f0 rfl
  have k1 := hff 1 f1 rfl
  rw [h0, hc0] at k0
  rw [h1, hc1] at k1
  obtain ⟨a0, r0, q0, w0⟩ := o0.opens enc w base spare held n _ _ k0
  obtain ⟨a1, r1, q1, w1⟩ := o1.opens enc w base spare held n _ _ k1
  rw [List.take_of_length_le (by rw [List.length_drop, hl, hc]; omega)] at r1
  refine ⟨(a0, a1), ⟨cs.take (Dat.size α), cs.drop (Dat.size α), (List.take_append_drop _ _).symm, by simpa using r0, r1⟩, fun hw => ?_, ?_⟩
  · have hw' : Wt.wt a0 + Wt.wt a1 ≤ 1048576 := hw
    exact ⟨q0 (by omega), q1 (by omega)⟩
  · show Wt.wt a0 + Wt.wt a1 ≤ _
    simp only [List.map_cons, List.map_nil, Rows.uptoBulk, Rows.uptoBulkAll]
    omega
end
end Go.Proofs.Ytcbnamlioeiaeaa.FW
