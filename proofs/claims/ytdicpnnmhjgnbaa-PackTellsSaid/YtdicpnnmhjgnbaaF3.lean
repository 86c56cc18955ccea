/- The operations that read memory, make it and write it; calls; a function's contract out of its code. -/
import Derived.Test.YtdicpnnmhjgnbaaF2
import Derived.Lib.ConvBytes
import Derived.Laws.BytesArg
import Derived.Laws.AppendOwn
import Derived.Laws.OwnMore
namespace Go.Proofs.Ytdicpnnmhjgnbaa.FW
open Go Go.RowKit
set_option linter.unusedVariables false
set_option linter.unusedSimpArgs false

/-! ### What is read -/
/-- Whatever world this is known of, the cells from an address on hold these values. -/
def Src (s : St) (A : Option Addr) (cs : List Value) : Prop :=
  ∀ W0 w, Sat W0 s w → (cs ≠ [] → A.isSome = true) ∧ ∀ j v, cs[j]? = some v → w.cell? ((adr A).add j) = some v
/-- The same of what never changes. -/
def RC (R : IM) (A : Option Addr) (cs : List Value) : Prop :=
  (cs ≠ [] → A.isSome = true) ∧ ∀ j v, cs[j]? = some v → R.cell? ((adr A).add j) = some v
theorem RC.mono {R R' : IM} {A : Option Addr} {cs : List Value} (h : RC R A cs) (hr : IM.le R R') : RC R' A cs :=
  ⟨h.1, fun j v hj => IM.cell_mono hr (h.2 j v hj)⟩
theorem RC.nil (R : IM) (A : Option Addr) : RC R A [] := ⟨fun h => absurd rfl h, fun j v hj => by simp at hj⟩
theorem Src.ofR {R : IM} {hs : List Chunk} {A : Option Addr} {cs : List Value} (h : RC R A cs) : Src ⟨R, hs⟩ A cs :=
  fun W0 w hw => ⟨h.1, fun j v hj => hw.cell (h.2 j v hj)⟩
theorem Src.nil (s : St) (A : Option Addr) : Src s A [] := fun _ _ _ => ⟨fun h => absurd rfl h, fun j v hj => by simp at hj⟩
theorem add_plain (g j : Nat) : (⟨g, 0, none⟩ : Addr).add j = ⟨g, j, none⟩ := by unfold Addr.add; split <;> simp_all
theorem add_lit (g o j : Nat) : (⟨g, o, none⟩ : Addr).add j = ⟨g, o + j, none⟩ := by unfold Addr.add; split <;> simp_all
theorem add_add (a : Addr) (m j : Nat) : (a.add m).add j = a.add (m + j) := by
  unfold Addr.add
  by_cases hm : m = 0
  · subst hm; simp
  · by_cases hj : j = 0
    · subst hj; simp [hm]
    · simp [hm, hj, Nat.add_assoc]
theorem own_cell {w : World} {t size n c : Nat} {A : Option Addr} {cs : List Value} (h : w.ownsRow 0 t size (.slice A n c) n cs) : (cs ≠ [] → A.isSome = true) ∧ ∀ j v, cs[j]? = some v → w.cell? ((adr A).add j) = some v := by
  rcases h.2 with ⟨h1, h2⟩ | ⟨g, cap, cur, h1, _⟩
  · have : cs = [] := List.eq_nil_of_length_eq_zero (by rw [h.1, h2]; simp)
    subst this
    exact ⟨fun h => absurd rfl h, fun j v hj => by simp at hj⟩
  · simp only [Value.slice.injEq] at h1
    obtain ⟨rfl, _, rfl⟩ := h1
    exact ⟨fun _ => rfl, fun j v hj => h.cells (g := g) rfl j v hj⟩
theorem Src.ofRow {R : IM} {hs : List Chunk} {t size n c : Nat} {A : Option Addr} {cs : List Value} (h : .row t size A n c cs ∈ hs) : Src ⟨R, hs⟩ A cs :=
  fun W0 w hw => own_cell (hw.own _ h)
theorem Src.ofBlk {R : IM} {hs : List Chunk} {g t : Nat} {cs : List Value} (h : .blk g cs t ∈ hs) : Src ⟨R, hs⟩ (some ⟨g, 0, none⟩) cs :=
  fun W0 w hw => ⟨fun _ => rfl, fun j v hj => by
    have h1 : w.heap[g]? = some (.cells cs.toArray t (0, 0)) := hw.own _ h
    rw [adr, Option.getD_some, add_plain, cell_of_row w g j _ t _ h1]
    simpa using hj⟩
theorem Src.some {s : St} {A : Option Addr} {cs : List Value} (h : Src s A cs) (hn : cs ≠ []) : ∀ W0 w, Sat W0 s w → A.isSome = true := fun W0 w hw => (h W0 w hw).1 hn
theorem Src.take {s : St} {A : Option Addr} {cs : List Value} (h : Src s A cs) (m : Nat) : Src s A (cs.take m) := fun W0 w hw =>
  ⟨fun hn => (h W0 w hw).1 (fun e => hn (by simp [e])), fun j v hj => by
    rw [List.getElem?_take] at hj
    split at hj
    · exact (h W0 w hw).2 j v hj
    · cases hj⟩
theorem RC.take {R : IM} {A : Option Addr} {cs : List Value} (h : RC R A cs) (m : Nat) : RC R A (cs.take m) :=
  ⟨fun hn => h.1 (fun e => hn (by simp [e])), fun j v hj => by
    rw [List.getElem?_take] at hj
    split at hj
    · exact h.2 j v hj
    · cases hj⟩

section
variable {P : Program} {n : Nat} {W0 : World} {e : Env} {s : St} {R : IM} {hs hs' : List Chunk} {op : Op} {ty : TypeId} {v : Value} {K : Value → St → Prop}
variable {x y z : Operand} {t t' : TypeId} {k : IntKind} {i j : Int}

/-! ### Loads -/
def notAgg (d : TypeDesc) : Bool := match d with | .struct _ | .array _ _ => false | _ => true
theorem run_isAgg {t : TypeId} {d : TypeDesc} (h : P.underlying t = some d) (w : World) : (isAgg t).run P w = .ok (!notAgg d) w := by
  unfold isAgg
  rw [Sem.run_bind, run_underlying h w]
  cases d <;> simp [notAgg]
theorem OpP.load1 {d : TypeDesc} {bt sz : Nat} {zr : List Value} [ht : Ty P t d sz bt zr] (hd : notAgg d = true) {ad : Addr} (hx : ev e x = some (.pointer (some ad)))
    {A : Option Addr} {cs : List Value} {m : Nat} (h : Src s A cs) (had : ad = (adr A).add m) (hv : cs[m]? = some v) : OpP P n W0 (.load t x) ty e s v := by
  intro o ho hty a w ha hw
  have h1 := run_isAgg (P := P) ht.und w
  have h2 := (h W0 w hw).2 m v hv
  subst had
  simp [execOp, ho, ha.ev hx, Instr.loadAt, Instr.sureAddr, loadVar, h1, hd, h2]
theorem OpP.loadN {d : TypeDesc} {bt sz : Nat} {zr : List Value} [ht : Ty P t d sz bt zr] (hd : notAgg d = false) {ad : Addr} (hx : ev e x = some (.pointer (some ad)))
    {A : Option Addr} {cs us : List Value} {m : Nat} (h : Src s A cs) (had : ad = (adr A).add m) (hv : ∀ j, j < sz → cs[m + j]? = us[j]?) (hl : us.length = sz) : OpP P n W0 (.load t x) ty e s (.agg us.toArray) := by
  intro o ho hty a w ha hw
  have h1 := run_isAgg (P := P) ht.und w
  have hs := ht.size_run w
  subst had
  have h2 : (loadCells ((adr A).add m) us.length).run P w = .ok us.toArray w := run_loadCells_list w _ us fun j u hj => by
    have hj' : j < us.length := by
      rcases Nat.lt_or_ge j us.length with h | h
      · exact h
      · rw [List.getElem?_eq_none h] at hj; cases hj
    rw [add_add]
    exact (h W0 w hw).2 (m + j) u ((hv j (by omega)).trans hj)
  rw [hl] at h2
  simp [execOp, ho, ha.ev hx, Instr.loadAt, Instr.sureAddr, loadVar, h1, hd, hs, h2]

/-! ### New memory -/
theorem Sat.alloc {w : World} {c : Chunk} {o : Obj} (h : Sat W0 ⟨R, hs⟩ w) (hb : c.blocks = [w.heap.size]) (hc : c.ok (w.alloc o)) : Sat W0 ⟨R, c :: hs⟩ (w.alloc o) := by
  refine Sat.more (cs' := [c]) h rfl rfl rfl (by simp) (fun b hb => Below.heap_alloc w _ b hb) (fun c' hc' => ?_) ?_ (fun b hb' => ?_)
  · rw [List.mem_singleton.1 hc']; exact hc
  · simp [Own, hb]
  · simp [Own, hb] at hb'; omega
theorem OpJ.alloc {d : TypeDesc} {bt sz : Nat} {zr : List Value} [ht : Ty P t d sz bt zr] (hk : ∀ g, K (.pointer (some ⟨g, 0, none⟩)) ⟨R, .blk g zr t :: hs⟩) : OpJ P n W0 (.alloc t) ty e ⟨R, hs⟩ K := by
  intro o ho hty a w ha hw next Q hn
  obtain ⟨i, z, h1, _, _, h2, h3⟩ := ht.info
  unfold Oper.wp
  have : (execOp a.eval o).run P w = .ok (.value (.pointer (some ⟨w.heap.size, 0, none⟩))) (w.alloc (.cells zr.toArray t)) := by
    simp [execOp, ho, Instr.alloc, zeroValue, typeInfo, h1, h2, newVar, newRow, h3]
  rw [this]
  exact hn _ _ _ (hw.alloc (c := .blk w.heap.size zr t) rfl (heap_alloc_new w _)) (hk _)
theorem OpJ.box {u : Value} {us : List Value} (hx : ev e x = some u) (hu : u.cells = us.toArray) (hk : ∀ g, K (.pointer (some ⟨g, 0, none⟩)) ⟨R, .blk g us t :: hs⟩) : OpJ P n W0 (.box t x) ty e ⟨R, hs⟩ K := by
  intro o ho hty a w ha hw next Q hn
  unfold Oper.wp
  have : (execOp a.eval o).run P w = .ok (.value (.pointer (some ⟨w.heap.size, 0, none⟩))) (w.alloc (.cells us.toArray t)) := by
    simp [execOp, ho, ha.ev hx, Instr.box, newVar, newRow, hu]
  rw [this]
  exact hn _ _ _ (hw.alloc (c := .blk w.heap.size us t) rfl (heap_alloc_new w _)) (hk _)
def evs (e : Env) : List (Nat × Operand) → Option (List (Nat × Value))
  | [] => some []
  | p :: r => match ev e p.2, evs e r with
    | some v, some l => some ((p.1, v) :: l)
    | _, _ => none
theorem Sub.evs {a : Act} (ha : Sub n e a) : ∀ {ps : List (Nat × Operand)} {vs : List (Nat × Value)}, evs e ps = some vs → ps.map (fun p => (p.1, a.eval p.2)) = vs
  | [], vs, h => by simp [FW.evs] at h; simp [h]
  | p :: r, vs, h => by
    simp only [FW.evs] at h
    cases h1 : FW.ev e p.2 with
    | none => rw [h1] at h; simp at h
    | some v =>
      cases h2 : FW.evs e r with
      | none => rw [h1, h2] at h; simp at h
      | some l =>
        rw [h1, h2] at h
        simp only [Option.some.injEq] at h
        subst h
        simp [ha.ev h1, ha.evs h2]
theorem foldl_lay : ∀ (us : List Value) (arr : Array Value) (off k : Nat),
    ((us.zipIdx k).foldl (fun (cs : Array Value) (p : Value × Nat) => cs.setIfInBounds (off + p.2) p.1) arr).size = arr.size ∧
    ∀ m, ((us.zipIdx k).foldl (fun (cs : Array Value) (p : Value × Nat) => cs.setIfInBounds (off + p.2) p.1) arr)[m]? =
      if off + k ≤ m ∧ m < off + k + us.length ∧ m < arr.size then us[m - (off + k)]? else arr[m]?
  | [], arr, off, k => ⟨rfl, fun m => by rw [if_neg (by simp; omega)]; rfl⟩
  | u :: r, arr, off, k => by
    obtain ⟨h1, h2⟩ := foldl_lay r (arr.setIfInBounds (off + k) u) off (k + 1)
    simp only [List.zipIdx_cons, List.foldl_cons]
    refine ⟨by rw [h1]; simp, fun m => ?_⟩
    rw [h2 m]
    simp only [Array.size_setIfInBounds, List.length_cons]
    by_cases hm : m = off + k
    · subst hm
      rw [if_neg (by omega)]
      by_cases hs : off + k < arr.size
      · rw [if_pos (by omega)]
        simp [hs]
      · rw [if_neg (by omega)]
        simp [hs]
    · by_cases hc : off + (k + 1) ≤ m ∧ m < off + (k + 1) + r.length ∧ m < arr.size
      · rw [if_pos hc, if_pos (by omega)]
        have : m - (off + k) = (m - (off + (k + 1))) + 1 := by omega
        rw [this, List.getElem?_cons_succ]
      · rw [if_neg hc, if_neg (by omega), Array.getElem?_setIfInBounds_ne (by omega)]
def lsplice (cs : List Value) (off : Nat) (us : List Value) : List Value := cs.take off ++ us ++ cs.drop (off + us.length)
theorem lay_splice (us cs : List Value) (off : Nat) (h : off + us.length ≤ cs.length) :
    (us.toArray.zipIdx.foldl (fun (cs : Array Value) (p : Value × Nat) => cs.setIfInBounds (off + p.2) p.1) cs.toArray) = (lsplice cs off us).toArray := by
  obtain ⟨h1, h2⟩ := foldl_lay us cs.toArray off 0
  have e : us.toArray.zipIdx.foldl (fun (cs : Array Value) (p : Value × Nat) => cs.setIfInBounds (off + p.2) p.1) cs.toArray = (us.zipIdx 0).foldl (fun (cs : Array Value) (p : Value × Nat) => cs.setIfInBounds (off + p.2) p.1) cs.toArray := by
    simp
  rw [e]
  refine Array.ext_getElem? fun m => ?_
  rw [h2 m]
  simp only [lsplice, List.getElem?_toArray, List.size_toArray, Nat.add_zero]
  rw [List.getElem?_append, List.getElem?_append]
  simp only [List.length_append, List.length_take]
  by_cases hc : off ≤ m ∧ m < off + us.length ∧ m < cs.length
  · rw [if_pos hc, if_pos (by omega), if_neg (by omega)]
    congr 1
    omega
  · rw [if_neg hc]
    by_cases h3 : m < off
    · rw [if_pos (by omega), if_pos (by omega), List.getElem?_take, if_pos h3]
    · rw [if_neg (by omega), List.getElem?_drop]
      congr 1
      omega
def fillOk (place : Nat → Option (Nat × Nat)) (m : Nat) : List (Nat × Value) → Bool
  | [] => true
  | p :: r => match place p.1 with
    | some q => Nat.beq p.2.cells.size q.2 && Nat.ble (q.1 + q.2) m && fillOk place m r
    | none => false
def fillL (place : Nat → Option (Nat × Nat)) (cs : List Value) : List (Nat × Value) → List Value
  | [] => cs
  | p :: r => fillL place (lsplice cs ((place p.1).getD (0, 0)).1 p.2.cells.toList) r
theorem fill_eq {place : Nat → Option (Nat × Nat)} : ∀ (vs : List (Nat × Value)) (cs : List Value), fillOk place cs.length vs = true → Instr.fill place cs.toArray vs = some (fillL place cs vs).toArray
  | [], cs, _ => rfl
  | p :: r, cs, h => by
    obtain ⟨i, v⟩ := p
    simp only [fillOk] at h
    cases hp : place i with
    | none => rw [hp] at h; cases h
    | some q =>
      obtain ⟨off, size⟩ := q
      rw [hp] at h
      simp only [Bool.and_eq_true] at h
      obtain ⟨⟨h1, h2⟩, h3⟩ := h
      have h1' : v.cells.size = size := Nat.eq_of_beq_eq_true h1
      have h2' : off + size ≤ cs.length := Nat.le_of_ble_eq_true h2
      have hs := lay_splice v.cells.toList cs off (by simp [h1', h2'])
      simp only [Array.toArray_toList] at hs
      have hl : (lsplice cs off v.cells.toList).length = cs.length := by
        simp only [lsplice, List.length_append, List.length_take, List.length_drop, Array.length_toList, h1']
        omega
      simp only [Instr.fill, hp, fillL, Option.getD_some]
      rw [if_neg (by simp only [List.size_toArray, Bool.not_eq_true]; simp [h1']; omega)]
      rw [hs]
      exact fill_eq r _ (by rw [hl]; exact h3)
/-- The places of a struct's fields. -/
class Flds (P : Program) (t : TypeId) (pl : outParam (List (Nat × Nat))) : Prop where
  run : ∀ fs, P.underlying t = some (.struct fs) → ∀ w, (fs.mapM fun f => (do pure (f.offset, ← sizeOf f.type) : Sem (Nat × Nat))).run P w = .ok pl.toArray w
theorem OpP.build {fs : Array Field} {sz bt : Nat} {zr : List Value} {pl : List (Nat × Nat)} [ht : Ty P t (.struct fs) sz bt zr] [hf : Flds P t pl] {ps : List (Nat × Operand)} {vs : List (Nat × Value)} (hps : evs e ps = some vs)
    (hok : fillOk (fun i => pl[i]?) zr.length vs = true) : OpP P n W0 (.build t ps.toArray) ty e s (.agg (fillL (fun i => pl[i]?) zr vs).toArray) := by
  intro o ho hty a w ha hw
  obtain ⟨i, z, h1, _, _, h2, h3⟩ := ht.info
  have h4 := ha.evs hps
  have h5 := hf.run fs ht.und w
  simp only [bind_pure_comp] at h5
  have h6 := fill_eq vs zr hok
  have h7 : (fun i : Nat => pl.toArray[i]?) = (fun i : Nat => pl[i]?) := by funext i; simp
  simp [execOp, ho, Instr.build, zeroValue, typeInfo, h1, h2, run_underlying ht.und, h3, h5, h4, h7, h6]
/-! ### A slice written out -/
def sliceOk (size : Nat) : Nat → List (Nat × Value) → Bool
  | _, [] => true
  | i, p :: r => Nat.beq p.1 i && Nat.beq p.2.cells.size size && sliceOk size (i + 1) r
def sliceL : List (Nat × Value) → List Value
  | [] => []
  | p :: r => p.2.cells.toList ++ sliceL r
theorem sliceL_length {size : Nat} : ∀ (vs : List (Nat × Value)) (i : Nat), sliceOk size i vs = true → (sliceL vs).length = vs.length * size
  | [], _, _ => by simp [sliceL]
  | p :: r, i, h => by
    simp only [sliceOk, Bool.and_eq_true] at h
    have h1 : p.2.cells.size = size := Nat.eq_of_beq_eq_true h.1.2
    simp only [sliceL, List.length_append, Array.length_toList, h1, sliceL_length r (i + 1) h.2, List.length_cons, Nat.succ_mul]
    omega
theorem fillOk_slice {size : Nat} : ∀ (vs : List (Nat × Value)) (i m : Nat), sliceOk size i vs = true → (i + vs.length) * size ≤ m → fillOk (fun i => some (i * size, size)) m vs = true
  | [], _, _, _, _ => rfl
  | p :: r, i, m, h, hm => by
    simp only [sliceOk, Bool.and_eq_true] at h
    have h0 : p.1 = i := Nat.eq_of_beq_eq_true h.1.1
    have h1 : p.2.cells.size = size := Nat.eq_of_beq_eq_true h.1.2
    have hle : (i + 1) * size ≤ (i + (r.length + 1)) * size := Nat.mul_le_mul_right _ (by omega)
    simp only [List.length_cons] at hm
    simp only [fillOk, Bool.and_eq_true]
    refine ⟨⟨by simp [h1], Nat.ble_eq_true_of_le ?_⟩, fillOk_slice r (i + 1) m h.2 (by rw [show i + 1 + r.length = i + (r.length + 1) from by omega]; exact hm)⟩
    rw [h0]
    rw [Nat.succ_mul] at hle
    omega
theorem fillL_slice {size : Nat} : ∀ (vs : List (Nat × Value)) (i : Nat) (pre cs : List Value), pre.length = i * size → cs.length = vs.length * size → sliceOk size i vs = true →
    fillL (fun i => some (i * size, size)) (pre ++ cs) vs = pre ++ sliceL vs
  | [], _, pre, cs, _, hc, _ => by
    have : cs = [] := List.eq_nil_of_length_eq_zero (by simpa using hc)
    simp [fillL, sliceL, this]
  | p :: r, i, pre, cs, hp, hc, h => by
    simp only [sliceOk, Bool.and_eq_true] at h
    have h0 : p.1 = i := Nat.eq_of_beq_eq_true h.1.1
    have h1 : p.2.cells.size = size := Nat.eq_of_beq_eq_true h.1.2
    simp only [List.length_cons, Nat.succ_mul] at hc
    simp only [fillL, Option.getD_some, sliceL, h0]
    have hl : lsplice (pre ++ cs) (i * size) p.2.cells.toList = (pre ++ p.2.cells.toList) ++ cs.drop size := by
      simp only [lsplice, Array.length_toList, h1, ← hp, List.take_left, List.drop_append]
      congr 1
      rw [List.drop_of_length_le (by omega), List.nil_append]
      congr 1
      omega
    rw [hl, fillL_slice r (i + 1) _ _ (by simp [hp, h1, Nat.succ_mul]) (by simp; omega) h.2, List.append_assoc]
theorem OpJ.buildSlice {d : TypeDesc} {u : TypeId} {len sz bt sz' bt' : Nat} {zr zr' : List Value} [ht : Ty P t (.slice u) sz bt zr] [hu : Ty P u d sz' bt' zr'] {ps : List (Nat × Operand)} {vs : List (Nat × Value)} (hps : evs e ps = some vs)
    (hlen : Nat.beq vs.length len = true) (hok : sliceOk sz' 0 vs = true) (hb : Nat.ble (len * sz') 1000 = true) (hb1 : Nat.ble len 1000 = true) (hk : ∀ g, K (.slice (some ⟨g, 0, none⟩) len len) ⟨R, .row u sz' (some ⟨g, 0, none⟩) len len (sliceL vs) :: hs⟩) :
    OpJ P n W0 (.buildSlice t len ps.toArray) ty e ⟨R, hs⟩ K := by
  intro o ho hty a w ha hw next Q hn
  obtain ⟨i, z, h1, _, _, h2, h3⟩ := hu.info
  have h4 := ha.evs hps
  have hl : vs.length = len := Nat.eq_of_beq_eq_true hlen
  have hb' : len * sz' ≤ 1000 := Nat.le_of_ble_eq_true hb
  have hbig : ¬ len * sz' > 2 ^ 24 := by omega
  have hb1' : len ≤ 1000 := Nat.le_of_ble_eq_true hb1
  have hz : (zeroValue u).run P w = .ok z w := by simp [zeroValue, typeInfo, h1, h2]
  have hsz := hu.size_run w
  unfold Oper.wp
  have hfill : ∀ cs : List Value, cs.length = len * sz' → Instr.fill (fun i => some (i * sz', sz')) cs.toArray vs = some (sliceL vs).toArray := fun cs hcs => by
    rw [fill_eq vs cs (fillOk_slice vs 0 _ hok (by rw [hcs, hl]; simp))]
    have := fillL_slice vs 0 [] cs (by simp) (by rw [hcs, hl]) hok
    simp only [List.nil_append] at this
    rw [this]
  have : (execOp a.eval o).run P w = .ok (.value (.slice (some ⟨w.heap.size, 0, none⟩) len len)) (w.alloc (.cells (sliceL vs).toArray u)) := by
    by_cases h0 : len * sz' = 0
    · have hf := hfill [] (by simp [h0])
      simp only [execOp, ho, Instr.buildSlice, Sem.run_bind, run_underlying ht.und, Result.andThen_ok, hsz, if_neg hbig, if_pos h0, Sem.run_pure, List.map_toArray, h4]
      have e1 : ((Array.range (len * sz')).map fun x => (#[] : Array Value)[x % (#[] : Array Value).size]!) = ([] : List Value).toArray := by simp [h0]
      rw [e1, hf]
      simp [newRow]
    · have hf := hfill ((List.range (len * sz')).map fun x => zr'.toArray[x % zr'.toArray.size]!) (by simp)
      simp only [execOp, ho, Instr.buildSlice, Sem.run_bind, run_underlying ht.und, Result.andThen_ok, hsz, if_neg hbig, if_neg h0, Sem.run_pure, List.map_toArray, h4, hz]
      have e1 : ((Array.range (len * sz')).map fun x => z.cells[x % z.cells.size]!) = ((List.range (len * sz')).map fun x => zr'.toArray[x % zr'.toArray.size]!).toArray := by
        rw [h3]
        exact Array.ext (by simp) (fun m _ _ => by simp)
      rw [e1, hf]
      simp [newRow]
  rw [this]
  refine hn _ _ _ (hw.alloc (c := .row u sz' (some ⟨w.heap.size, 0, none⟩) len len (sliceL vs)) rfl ?_) (hk _)
  exact ⟨by rw [sliceL_length vs 0 hok, hl], .inr ⟨w.heap.size, len, _, rfl, Nat.zero_le _, heap_alloc_new w _, Nat.le_refl _, by simp only [maxLen]; omega, by simp [sliceL_length vs 0 hok, hl], by rw [← hl, ← sliceL_length vs 0 hok]; simp⟩⟩
end
end Go.Proofs.Ytdicpnnmhjgnbaa.FW
