/- Reslicing; conversions between strings and bytes; calls; a function's contract out of its code. -/
import Derived.Test.YtdicpnnmhjgnbaaF4
namespace Go.Proofs.Ytdicpnnmhjgnbaa.FW
open Go Go.RowKit
set_option linter.unusedVariables false
set_option linter.unusedSimpArgs false
section
variable {P : Program} {n : Nat} {W0 : World} {e : Env} {s : St} {R : IM} {hs hs' : List Chunk} {op : Op} {ty : TypeId} {v : Value} {K : Value → St → Prop}
variable {x y z : Operand} {t t' : TypeId} {k : IntKind} {i j : Int}

/-! ### Reslicing -/
/-- Where a slice that is cut from l on begins. -/
def cutA (A : Option Addr) (l c size : Nat) : Option Addr := if c = l then A else A.map (·.add (l * size))
theorem OpP.slice_lo {d : TypeDesc} {u : TypeId} {sz bt size bytes : Nat} {zr zr' : List Value} [ht : Ty P t (.slice u) sz bt zr] [hu : Ty P u d size bytes zr'] {A : Option Addr} {m c : Nat} (hx : ev e x = some (.slice A m c)) (hy : ev e y = some (.int k i)) (h0 : 0 ≤ i) (h1 : i ≤ m) :
    OpP P n W0 (.slice t x (some y) none none) ty e s (.slice (cutA A i.toNat c size) (m - i.toNat) (c - i.toNat)) := by
  intro o ho hty a w ha hw
  have hsz := hu.size_run w
  simp [execOp, ho, ha.ev hx, ha.ev hy, Instr.sliceAt, Instr.slice, run_underlying ht.und, Instr.sliceBounds, Instr.sliceBound, asIntOf, h0, h1, hsz, cutA]
theorem OpP.slice_hi {d : TypeDesc} {u : TypeId} {sz bt size bytes : Nat} {zr zr' : List Value} [ht : Ty P t (.slice u) sz bt zr] [hu : Ty P u d size bytes zr'] {A : Option Addr} {m c : Nat} (hx : ev e x = some (.slice A m c)) (hy : ev e y = some (.int k i)) (h0 : 0 ≤ i) (h1 : i ≤ c) :
    OpP P n W0 (.slice t x none (some y) none) ty e s (.slice A i.toNat c) := by
  intro o ho hty a w ha hw
  have hsz := hu.size_run w
  have hA : (if c = 0 then A else Option.map (fun x => x.add (0 * size)) A) = A := by
    split
    · rfl
    · cases A <;> simp [Addr.add]
  simp [execOp, ho, ha.ev hx, ha.ev hy, Instr.sliceAt, Instr.slice, run_underlying ht.und, Instr.sliceBounds, Instr.sliceBound, asIntOf, h0, h1, hsz]
  intro hc
  cases A <;> simp [Addr.add]
theorem OpP.slice_lohi {d : TypeDesc} {u : TypeId} {sz bt size bytes : Nat} {zr zr' : List Value} [ht : Ty P t (.slice u) sz bt zr] [hu : Ty P u d size bytes zr'] {A : Option Addr} {m c : Nat} {k' : IntKind} (hx : ev e x = some (.slice A m c)) (hy : ev e y = some (.int k i)) (hz : ev e z = some (.int k' j)) (h0 : 0 ≤ i) (h1 : i ≤ j) (h2 : j ≤ c) :
    OpP P n W0 (.slice t x (some y) (some z) none) ty e s (.slice (cutA A i.toNat c size) (j.toNat - i.toNat) (c - i.toNat)) := by
  intro o ho hty a w ha hw
  have hsz := hu.size_run w
  have h3 : 0 ≤ j := by omega
  have h4 : (j.toNat : Int) = j := Int.toNat_of_nonneg h3
  have h5 : Max.max j 0 = j := by omega
  simp [execOp, ho, ha.ev hx, ha.ev hy, ha.ev hz, Instr.sliceAt, Instr.slice, run_underlying ht.und, Instr.sliceBounds, Instr.sliceBound, asIntOf, h0, h1, h2, h3, h4, h5, hsz, cutA]
theorem OpP.slice_str_lo {sz bt : Nat} {zr : List Value} [ht : Ty P t .string sz bt zr] {b : ByteArray} (hx : ev e x = some (.string b)) (hy : ev e y = some (.int k i)) (h0 : 0 ≤ i) (h1 : i ≤ b.size) :
    OpP P n W0 (.slice t x (some y) none none) ty e s (.string (b.extract i.toNat b.size)) := by
  intro o ho hty a w ha hw
  simp [execOp, ho, ha.ev hx, ha.ev hy, Instr.sliceAt, Instr.slice, run_underlying ht.und, Instr.sliceBounds, Instr.sliceBound, asIntOf, h0, h1]
theorem Src.cut {s : St} {A : Option Addr} {cs : List Value} (h : Src s A cs) (l c size : Nat) (hl : l * size ≤ cs.length) (hlc : c = l → cs.drop (l * size) = []) : Src s (cutA A l c size) (cs.drop (l * size)) := by
  intro W0 w hw
  obtain ⟨h1, h2⟩ := h W0 w hw
  unfold cutA
  by_cases hc : c = l
  · rw [if_pos hc, hlc hc]
    exact ⟨fun h => absurd rfl h, fun j v hj => by simp at hj⟩
  · rw [if_neg hc]
    refine ⟨fun hn => ?_, fun j v hj => ?_⟩
    · have := h1 (fun e => hn (by simp [e]))
      simpa using this
    · rw [List.getElem?_drop] at hj
      have hA := h1 (fun e => by simp [e] at hj)
      obtain ⟨ad, rfl⟩ := Option.isSome_iff_exists.1 hA
      have := h2 _ _ hj
      simpa [adr, add_add] using this
theorem RC.cut {R : IM} {A : Option Addr} {cs : List Value} (h : RC R A cs) (l c size : Nat) (hl : l * size ≤ cs.length) (hlc : c = l → cs.drop (l * size) = []) : RC R (cutA A l c size) (cs.drop (l * size)) := by
  obtain ⟨h1, h2⟩ := h
  unfold cutA
  by_cases hc : c = l
  · rw [if_pos hc, hlc hc]
    exact RC.nil _ _
  · rw [if_neg hc]
    refine ⟨fun hn => ?_, fun j v hj => ?_⟩
    · have := h1 (fun e => hn (by simp [e]))
      simpa using this
    · rw [List.getElem?_drop] at hj
      have hA := h1 (fun e => by simp [e] at hj)
      obtain ⟨ad, rfl⟩ := Option.isSome_iff_exists.1 hA
      have := h2 _ _ hj
      simpa [adr, add_add] using this

/-! ### Strings and bytes -/
/-- Bytes as cells. -/
def bcells (l : List UInt8) : List Value := l.map fun b => .int .u8 (b.toNat : Int)
theorem OpP.conv_bytes_string {src dst u : TypeId} {sz bt sz' bt' sz2 bt2 : Nat} {zr zr' zr2 : List Value} [hs1 : Ty P src (.slice u) sz bt zr] [hu : Ty P u (.int .u8) sz' bt' zr'] [hd : Ty P dst .string sz2 bt2 zr2] {A : Option Addr} {m c : Nat} {l : List UInt8}
    (hx : ev e x = some (.slice A m c)) (hA : Src s A (bcells l)) (hl : l.length = m) : OpP P n W0 (.convert src dst x) ty e s (.string ⟨l.toArray⟩) := by
  intro o ho hty a w ha hw
  obtain ⟨h1, h2⟩ := hA W0 w hw
  cases A with
  | none =>
    have : l = [] := by
      rcases Decidable.em (l = []) with h | h
      · exact h
      · have := h1 (by simpa [bcells] using h); cases this
    subst this
    have h3 := run_convert_bytes_nil (P := P) w src u hs1.und hu.und m c dst hd.und
    simp [execOp, ho, ha.ev hx, h3]
    rfl
  | some ad =>
    have h3 : (loadCells ad m).run P w = .ok ((l.map fun b => (b.toNat : Int)).map (Value.int .u8)).toArray w := by
      have h4 := run_loadCells_list (P := P) w ad (bcells l) (fun j v hj => h2 j v hj)
      simpa [bcells, hl, Function.comp_def] using h4
    have h5 : (convert src dst (.slice (some ad) m c)).run P w = .ok (.string ⟨l.toArray⟩) w := by
      rw [run_convert_bytes_string w src dst u _ m c hs1.und hu.und hd.und, run_bytesToString w _ m c _ h3, foldl_push_bytes]
      have e1 : (l.map fun b => (b.toNat : Int)).map (fun n => UInt8.ofNat n.toNat) = l := by
        rw [List.map_map]
        conv => rhs; rw [← List.map_id l]
        exact List.map_congr_left fun b _ => by simp
      simp only [ByteArray.empty, ByteArray.emptyWithCapacity, e1]
      simp
      rfl
    simp [execOp, ho, ha.ev hx, h5]
theorem OpJ.conv_string_bytes {src dst u : TypeId} {sz bt sz' bt' sz2 bt2 : Nat} {zr zr' zr2 : List Value} [hs1 : Ty P src .string sz bt zr] [hu : Ty P u (.int .u8) sz' bt' zr'] [hd : Ty P dst (.slice u) sz2 bt2 zr2] {b : ByteArray}
    (hx : ev e x = some (.string b)) (hk : ∀ A c D, IM.dis R D → RC D A (bcells b.data.toList) → b.size ≤ c → K (.slice A b.size c) ⟨R.or D, hs⟩) : OpJ P n W0 (.convert src dst x) ty e ⟨R, hs⟩ K := by
  intro o ho hty a w ha hw next Q hn
  have h1 := Lib.run_convert_string_bytes w src dst u b hs1.und hd.und hu.und
  have this : (execOp a.eval o).run P w = .ok (.value (.slice (some ⟨w.heap.size, 0, none⟩) b.size (grownCap w b.size 0 u))) (Lib.bytesWorld w u b) := by
    simp [execOp, ho, ha.ev hx, h1]
  unfold Oper.wp
  rw [this]
  have hnew := Lib.bytesWorld_at_new w u b
  have hR : R w.heap.size = none := by
    cases hr : R w.heap.size with
    | none => rfl
    | some o => exact absurd (Array.getElem?_eq_some_iff.1 (hw.im _ o hr)).1 (by omega)
  let D : IM := fun q => if q = w.heap.size then (Lib.bytesWorld w u b).heap[w.heap.size]? else none
  have hdis : IM.dis R D := fun q o hq => by
    by_cases hqe : q = w.heap.size
    · subst hqe; exact hR
    · simp [D, hqe] at hq
  refine hn _ ⟨R.or D, hs⟩ _ ?_ (hk _ _ D hdis ⟨fun _ => rfl, fun j v hj => ?_⟩ (grownCap_ge _ _ _ _))
  · have hold := fun q (hq : q < w.heap.size) => Lib.bytesWorld_at_old w u b q hq
    have h0 : Sat W0 ⟨R, hs⟩ (Lib.bytesWorld w u b) := Sat.more (cs' := []) hw rfl rfl rfl (by rw [Lib.bytesWorld_size]; omega) (fun q hq => hold q hq) (fun c hc => by cases hc) (by simp [Own]) (fun q hq => by simp [Own] at hq)
    refine ⟨h0.os, h0.tape, h0.output, h0.size, fun q o hq => ?_, h0.own, h0.nodup, fun q hq => ?_⟩
    · simp only [IM.or] at hq
      cases hr : R q with
      | some o' => rw [hr] at hq; simp at hq; subst hq; exact h0.im q _ hr
      | none =>
        rw [hr] at hq
        by_cases hqe : q = w.heap.size
        · subst hqe; simpa [D] using hq
        · simp [D, hqe] at hq
    · have hap : R q = none := h0.apart q hq
      simp only [IM.or, hap]
      have hqlt : q < w.heap.size := by
        obtain ⟨c1, hc1, hb1⟩ := mem_Own.1 hq
        exact Chunk.ok_lt (hw.own c1 hc1) q hb1
      have : q ≠ w.heap.size := by omega
      simp [D, this]
  · have h2 : j < b.size := by
      rcases Nat.lt_or_ge j b.size with h | h
      · exact h
      · have : (bcells b.data.toList).length ≤ j := by simp [bcells]; exact h
        rw [List.getElem?_eq_none this] at hj; cases hj
    have h3 := Lib.bytesWorld_cell w u b j h2
    have h4 : D.cell? ((adr (some ⟨w.heap.size, 0, none⟩)).add j) = (Lib.bytesWorld w u b).cell? ⟨w.heap.size, j, none⟩ := by
      simp only [adr, Option.getD_some, add_plain, IM.cell?, World.cell?, D, if_true]
      generalize (Lib.bytesWorld w u b).heap[w.heap.size]? = q
      cases q with
      | none => rfl
      | some q => cases q <;> rfl
    rw [h4, h3]
    have h5 : j < b.data.toList.length := by simpa using h2
    simp only [bcells, List.getElem?_map, List.getElem?_eq_getElem h5, Option.map_some, Option.some.injEq] at hj
    rw [← hj, List.getD_eq_getElem?_getD, List.getElem?_eq_getElem h5]
    rfl
end
end Go.Proofs.Ytdicpnnmhjgnbaa.FW
