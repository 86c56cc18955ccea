/- More rules: append of make, of a string's bytes; a row frozen inside a region. -/
import Derived.Test.YtdicpnnmhjgnbaaX2
import Derived.Deep.AppendSrc
import Derived.Lib.AppendStr
namespace Go.Proofs.Ytdicpnnmhjgnbaa.FW
open Go Go.RowKit
set_option linter.unusedVariables false
set_option linter.unusedSimpArgs false
section
variable {P : Program} {n : Nat} {W0 : World} {e : Env} {s : St} {R R' : IM} {hs hs' : List Chunk} {op : Op} {ty : TypeId} {v : Value} {K : Value → St → Prop}
variable {x y z : Operand} {t t' : TypeId} {k : IntKind} {i j : Int}
theorem HoldJ.freeze {l : List Oper} {s0 : St} {done : List Nat} {KK : Env → St → Prop} {ch : Chunk} (hp : hs.Perm (ch :: hs')) (h : ∀ D, IM.dis R D → ch.inR D → HoldJ P n W0 l s0 done e ⟨R.or D, hs'⟩ KK) : HoldJ P n W0 l s0 done e ⟨R, hs⟩ KK := by
  intro f hf a w ha hw
  obtain ⟨D, h1, h2, h3⟩ := (hw.perm hp).freeze
  exact h D h1 h2 f hf a w ha h3
theorem run_append_make0 (w : World) (t tx ty u : TypeId) (i : TypeInfo) (zv : Value) (ht : P.underlying t = some (.slice u)) (hx : P.underlying tx = some (.int .i64)) (hi : P.info? u = some i) (hz : i.zero = some zv) (m : Int) (h0 : 0 < m) (h1 : m * i.bytes ≤ 140737488355328) (h2 : m ≤ 140737488355328) (hs : 0 < i.size) :
    (Builtin.append_ #[t, tx] ty #[.slice none 0 0, .int .i64 m]).run P w = .ok (.slice (some ⟨w.heap.size, 0, none⟩) m.toNat (grownCap w m.toNat 0 u)) (w.drew.alloc (.cells (Builtin.zeroCells zv.cells m.toNat ++ Builtin.zeroCells zv.cells (grownCap w m.toNat 0 u - m.toNat)) u)) := by
  have hw : IntKind.i64.wrap m = m := IntWalk.i64_in _ (by omega)
  have hm : ¬ m < 0 := by omega
  have hm3 : ¬ (m * (i.bytes : Int) > 281474976710656) := by omega
  have hn : ¬ (m.toNat = 0) := by omega
  have h63 : ¬ (9223372036854775807 < ((m.toNat : Nat) : Int)) := by omega
  have h48 : ¬ (281474976710656 < Builtin.nextslicecap m.toNat 0 * i.bytes) := by
    have e1 : Builtin.nextslicecap m.toNat 0 = m.toNat := by unfold Builtin.nextslicecap; rw [if_pos (by omega)]
    rw [e1]
    have e2 : ((m.toNat * i.bytes : Nat) : Int) = m * i.bytes := by rw [Int.natCast_mul, Int.toNat_of_nonneg (by omega)]
    omega
  have hns : ¬ (m.toNat * i.size = 0) := by
    intro e0
    rcases Nat.mul_eq_zero.1 e0 with h | h <;> omega
  have hns2 : ¬ (m.toNat = 0 ∨ i.size = 0) := by omega
  simp [Builtin.append_, run_underlying ht, run_underlying hx, sizeOf, typeInfo, zeroValue, hi, hz, asInt, hw, hm, hm3, hn, h63, h48, Question.forced, newRow, grownCap, hns2, run_firstCells_none, asIntOf, show ¬ m ≤ 0 by omega, show ¬ (9223372036854775807 < max m 0) by omega, hns]
theorem zeroCells_size (zc : Array Value) (m : Nat) : (Builtin.zeroCells zc m).size = m * zc.size := by simp [Builtin.zeroCells]
/-- append(nil, make(..)...), all of it cut off again: a row of no element, with room. -/
theorem OpJ.appMake {d : TypeDesc} {u tx : TypeId} {sz bt bytes size szx btx : Nat} {zr zr' zrx : List Value} [ht : Ty P t (.slice u) sz bt zr] [hu : Ty P u d size bytes zr'] [hxt : Ty P tx (.int .i64) szx btx zrx] {m : Int}
    (hx : ev e x = some (.slice none 0 0)) (hy : ev e y = some (.int .i64 m)) (h0 : 0 < m) (h1 : m * bytes ≤ 140737488355328) (hb : Nat.blt 0 bytes = true) (hsz : Nat.blt 0 size = true) (hz : zr'.length = size)
    (hk : ∀ g c cs, cs.length = m.toNat * size → K (.slice (some ⟨g, 0, none⟩) m.toNat c) ⟨R, .row u size (some ⟨g, 0, none⟩) m.toNat c cs :: hs⟩) : OpJ P n W0 (.call ⟨.builtin .append, #[x, y], #[t, tx]⟩) ty e ⟨R, hs⟩ K := by
  intro o ho hty a w ha hw next Q hn
  obtain ⟨i, zv, hi1, hi2, hi3, hi4, hi5⟩ := hu.info
  have hs' : 0 < size := by simpa using hsz
  have hb' : 0 < bytes := by simpa using hb
  have h2 : m ≤ 140737488355328 := by
    have : m * 1 ≤ m * bytes := Int.mul_le_mul_of_nonneg_left (by omega) (by omega)
    omega
  have hrun := run_append_make0 (P := P) w t tx ty u i zv ht.und hxt.und hi1 hi4 m h0 (by rw [hi3]; exact h1) h2 (by rw [hi2]; exact hs')
  unfold Oper.wp
  have h3 : (execOp a.eval o).run P w = .ok (.value (.slice (some ⟨w.heap.size, 0, none⟩) m.toNat (grownCap w m.toNat 0 u))) (w.drew.alloc (.cells (Builtin.zeroCells zv.cells m.toNat ++ Builtin.zeroCells zv.cells (grownCap w m.toNat 0 u - m.toNat)) u)) := by
    simp [execOp, ho, ha.ev hx, ha.ev hy, resolve, invoke, builtin, hty, hrun]
  rw [h3]
  have hge := grownCap_ge w m.toNat 0 u
  have hle := grownCap_le_maxLen w m.toNat 0 u (by unfold maxLen; omega)
  have hzs : zv.cells.size = size := by rw [hi5]; simpa using hz
  refine hn _ _ _ (hw.drew.alloc (c := .row u size (some ⟨w.heap.size, 0, none⟩) m.toNat (grownCap w m.toNat 0 u) (Builtin.zeroCells zv.cells m.toNat).toList) rfl ?_) (hk _ _ _ (by rw [Array.length_toList, zeroCells_size, hzs]))
  refine ⟨by rw [Array.length_toList, zeroCells_size, hzs], .inr ⟨w.heap.size, _, _, rfl, Nat.zero_le _, heap_alloc_new w.drew _, hge, hle, ?_, ?_⟩⟩
  · rw [Array.size_append, zeroCells_size, zeroCells_size, hzs, ← Nat.add_mul]; congr 1; omega
  · rw [Array.toList_append, List.take_append_of_le_length (by rw [Array.length_toList, zeroCells_size, hzs]; exact Nat.le_refl _), List.take_of_length_le (by rw [Array.length_toList, zeroCells_size, hzs]; exact Nat.le_refl _)]
end
end Go.Proofs.Ytdicpnnmhjgnbaa.FW
