/- More rules for the printed walks: structs that are compared, strings that are joined, maps. -/
import Derived.Test.YtdicpnnmhjgnbaaX1
import Derived.Laws.StructEq
import Derived.Laws.Concat
import Derived.MapKept
import Derived.Carry
namespace Go.Proofs.Ytdicpnnmhjgnbaa.FW
open Go Go.RowKit
set_option linter.unusedVariables false
set_option linter.unusedSimpArgs false
theorem toList_inj (b b' : ByteArray) : b.toList = b'.toList ↔ b = b' := by
  refine ⟨fun h => ?_, fun h => by rw [h]⟩
  rw [ByteArray.toList_eq, ByteArray.toList_eq] at h
  exact ByteArray.ext (Array.toList_inj.1 h)
/-- Structs that may be compared. -/
class EqA (P : Program) (t : TypeId) (α : Type) [DecidableEq α] (enc : outParam (α → List Value)) : Prop where
  guard : P.eqGuardType P.depth t = false
  eq : ∀ (w : World) (x y : α), (Op.equalIn 10000 t (.agg (enc x).toArray) (.agg (enc y).toArray)).run P w = .ok (decide (x = y)) w
section
variable {P : Program} {n : Nat} {W0 : World} {e : Env} {s : St} {R R' : IM} {hs hs' : List Chunk} {op : Op} {ty : TypeId} {v : Value} {K : Value → St → Prop}
variable {x y z : Operand} {t t' : TypeId} {k : IntKind} {i j : Int}
theorem OpP.eqlA {α : Type} [DecidableEq α] {enc : α → List Value} [he : EqA P t α enc] (a b : α) (hx : ev e x = some (.agg (enc a).toArray)) (hy : ev e y = some (.agg (enc b).toArray)) : OpP P n W0 (.binOp .eql t x y t') ty e s (.bool (decide (a = b))) := by
  intro o ho hty a' w ha hw
  simp only [execOp, ho, ha.ev hx, ha.ev hy, run_eqGuard_agg _ _ _ _ _ _ _ he.guard, run_eql_struct, he.eq, Sem.run_bind, Sem.run_pure, Result.andThen_ok]
theorem OpP.neqA {α : Type} [DecidableEq α] {enc : α → List Value} [he : EqA P t α enc] (a b : α) (hx : ev e x = some (.agg (enc a).toArray)) (hy : ev e y = some (.agg (enc b).toArray)) : OpP P n W0 (.binOp .neq t x y t') ty e s (.bool (decide (a ≠ b))) := by
  intro o ho hty a' w ha hw
  simp only [execOp, ho, ha.ev hx, ha.ev hy, run_eqGuard_agg _ _ _ _ _ _ _ he.guard, run_neq_struct, he.eq, Sem.run_bind, Sem.run_pure, Result.andThen_ok, decide_not, ne_eq]
theorem OpP.catS {a b c : ByteArray} (h : cat? a b = some c) (hx : ev e x = some (.string a)) (hy : ev e y = some (.string b)) : OpP P n W0 (.binOp .add t x y t') ty e s (.string c) := by
  intro o ho hty a' w ha hw
  obtain ⟨h1, rfl⟩ := cat?_ok h
  have h2 := run_string_add_sum (P := P) (w := w) a b (by omega)
  have h3 : (eqGuard .add t x y (.string a) (.string b)).run P w = .ok () w := by simp [eqGuard_add]
  simp only [execOp, ho, ha.ev hx, ha.ev hy, binOp_string_add, h2, h3, Sem.run_bind, Sem.run_pure, Result.andThen_ok]

/-! ### Maps -/
/-- Keys, and how they are found. -/
class Key (P : Program) (t : TypeId) (κ : Type) [DecidableEq κ] (enc : outParam (κ → Value)) : Prop where
  check : ∀ (w : World) (b : Bool) (k : κ), (Instr.checkKey b 10000 t (enc k)).run P w = .ok () w
  find : ∀ (w : World) (k : κ) (es : List MapEntry) (ks : List κ), es.map (·.key) = ks.map enc → (Instr.findKey t (enc k) es).run P w = .ok ((ks.zip (es.map (·.val))).findIdx? (fun p => p.1 = k) |>.map fun i => (i, ((es[i]?).map (·.val)).getD undef)) w
  stays : ∀ (k : κ), Instr.sameBits 10000 (enc k) (enc k) = true
def MapR {κ ν : Type} (ek : κ → Value) (ev : ν → Value) (es : Array MapEntry) (m : List (κ × ν)) : Prop := es.toList.map (·.key) = m.map (fun p => ek p.1) ∧ es.toList.map (·.val) = m.map (fun p => ev p.2)
theorem findNow_gen {κ : Type} [DecidableEq κ] {d : TypeDesc} {enc : κ → Value} (hsame : ∀ a b, Instr.sameNow d (enc a) (enc b) = some (decide (a = b))) (k : κ) :
    ∀ (es : List MapEntry) (ks : List κ) (i : Nat), es.map (·.key) = ks.map enc → Instr.findNow d (enc k) es i = some ((ks.zip (es.map (·.val))).findIdx? (fun p => p.1 = k) |>.map fun j => (i + j, ((es[j]?).map (·.val)).getD undef))
  | [], ks, i, h => by
    have : ks = [] := by cases ks <;> simp_all
    subst this; simp [Instr.findNow]
  | e :: es, [], i, h => by simp at h
  | e :: es, q :: ks, i, h => by
    simp only [List.map_cons, List.cons.injEq] at h
    simp only [Instr.findNow, h.1, hsame]
    by_cases hk : k = q
    · subst hk; simp [List.findIdx?_cons]
    · have hk' : ¬ q = k := fun e => hk e.symm
      simp only [hk, decide_false]
      rw [findNow_gen hsame k es ks (i + 1) h.2]
      simp only [List.map_cons, List.zip_cons_cons, List.findIdx?_cons, hk', decide_false, Bool.false_eq_true, if_false, Option.map_map]
      congr 2
      funext j
      simp [Nat.add_assoc, Nat.add_comm 1 j]
theorem Key.of_now {κ : Type} [DecidableEq κ] {d : TypeDesc} {enc : κ → Value} (hu : P.underlying t = some d) (hsame : ∀ a b, Instr.sameNow d (enc a) (enc b) = some (decide (a = b))) (hchk : ∀ (w : World) (b : Bool) (k : κ), (Instr.checkKey b 10000 t (enc k)).run P w = .ok () w) (hst : ∀ k : κ, Instr.sameBits 10000 (enc k) (enc k) = true) : Key P t κ enc := by
  refine ⟨hchk, fun w k es ks h => ?_, hst⟩
  have h1 := findNow_gen hsame k es ks 0 h
  simp only [Nat.zero_add] at h1
  simp only [Instr.findKey, Sem.run_bind, run_underlying hu, Result.andThen_ok, h1, Sem.run_pure]
theorem check_plain {d : TypeDesc} (hu : P.underlying t = some d) (hd : (match d with | .interface _ | .array _ _ | .struct _ => false | _ => true) = true) (m : Nat) (w : World) (b : Bool) (v : Value) : (Instr.checkKey b (m + 1) t v).run P w = .ok () w := by
  unfold Instr.checkKey
  rw [Sem.run_bind, run_underlying hu]
  cases d <;> simp_all
theorem bytes_beq (a b : ByteArray) : (a == b) = decide (a = b) := by rw [beq_toListBytes, bytes_dec]
instance keyInt {sz bt : Nat} {zr : List Value} [ht : Ty P t (.int .i64) sz bt zr] : Key P t Int (fun k => .int .i64 k) :=
  Key.of_now ht.und (fun a b => by simp [Instr.sameNow, beq_dec]) (fun w b k => check_plain ht.und rfl 9999 w b _) (fun k => by show (IntKind.i64 == IntKind.i64 && k == k) = true; simp)
instance keyStr {sz bt : Nat} {zr : List Value} [ht : Ty P t .string sz bt zr] : Key P t ByteArray (fun k => .string k) :=
  Key.of_now ht.und (fun a b => by simp only [Instr.sameNow, bytes_beq]) (fun w b k => check_plain ht.und rfl 9999 w b _) (fun k => by show (k == k) = true; rw [bytes_beq]; simp)
theorem MapR.find {κ ν : Type} [DecidableEq κ] {ek : κ → Value} {evv : ν → Value} {es : Array MapEntry} {m : List (κ × ν)} (h : MapR ek evv es m) (k : κ) :
    (((m.map (·.1)).zip (es.toList.map (·.val))).findIdx? (fun p => p.1 = k) |>.map fun i => ((es.toList[i]?).map (·.val)).getD undef) = (mget m k).map evv := by
  obtain ⟨h1, h2⟩ := h
  generalize es.toList = l at h1 h2
  induction m generalizing l with
  | nil => simp [mget]
  | cons p m ih =>
    cases l with
    | nil => simp at h1
    | cons e l =>
      simp only [List.map_cons, List.cons.injEq] at h1 h2
      simp only [List.map_cons, List.zip_cons_cons, List.findIdx?_cons, mget]
      by_cases hk : p.1 = k
      · simp [hk, h2.1]
      · simp only [hk, decide_false, Bool.false_eq_true, if_false]
        rw [← ih l h1.2 h2.2]
        simp [Option.map_map, Function.comp_def]
theorem run_getMap {w : World} {g : Nat} {es : Array MapEntry} {clock : Nat} (h : w.heap[g]? = some (.map es clock)) : (getObj g).run P w = .ok (.map es clock) w := MapKept.run_getObj_map h
theorem OpP.mlook {κ ν : Type} [DecidableEq κ] {kt vt : TypeId} {ek : κ → Value} {evv : ν → Value} {sz bt sz' bt' : Nat} {d' : TypeDesc} {zr : List Value} {zv : Value} [ht : Ty P t (.map kt vt) sz bt zr] [hv : Ty P vt d' sz' bt' [zv]] (hnagg : notAgg d' = true) [hk : Key P kt κ ek] {g : Nat} {es : Array MapEntry} {clock : Nat} {m : List (κ × ν)} {key : κ} {z : ν}
    (hm : .obj g (.map es clock) ∈ hs) (hr : MapR ek evv es m) (hz : zv = evv z) (hzr : ∀ w, (zeroValue vt).run P w = .ok zv w) (hx : ev e x = some (.map (some g))) (hy : ev e y = some (ek key)) : OpP P n W0 (.lookup t x y false) ty e ⟨R, hs⟩ (evv ((mget m key).getD z)) := by
  intro o ho hty a w ha hw
  have hg : w.heap[g]? = some (.map es clock) := hw.own _ hm
  have hf := hk.find w key es.toList (m.map (·.1)) (by rw [hr.1]; simp)
  have hmf := hr.find key
  simp only [execOp, ho, ha.ev hx, ha.ev hy, Instr.lookup, Sem.run_bind, run_underlying ht.und, Result.andThen_ok, run_getMap hg, Sem.run_pure, hk.check, hf]
  cases hidx : ((m.map (·.1)).zip (es.toList.map (·.val))).findIdx? (fun p => p.1 = key) with
  | none =>
    rw [hidx] at hmf
    have h2 : mget m key = none := by
      cases hq : mget m key with
      | none => rfl
      | some q => rw [hq] at hmf; simp at hmf
    simp [h2, hzr, hz]
  | some i =>
    rw [hidx] at hmf
    cases hq : mget m key with
    | none => rw [hq] at hmf; simp at hmf
    | some q =>
      rw [hq] at hmf
      simp only [Option.map_some, Option.some.injEq] at hmf
      simpa using hmf
theorem OpP.mlook2 {κ ν : Type} [DecidableEq κ] {kt vt : TypeId} {ek : κ → Value} {evv : ν → Value} {sz bt sz' bt' : Nat} {d' : TypeDesc} {zr : List Value} {zv : Value} [ht : Ty P t (.map kt vt) sz bt zr] [hv : Ty P vt d' sz' bt' [zv]] (hnagg : notAgg d' = true) [hk : Key P kt κ ek] {g : Nat} {es : Array MapEntry} {clock : Nat} {m : List (κ × ν)} {key : κ} {z : ν}
    (hm : .obj g (.map es clock) ∈ hs) (hr : MapR ek evv es m) (hz : zv = evv z) (hzr : ∀ w, (zeroValue vt).run P w = .ok zv w) (hx : ev e x = some (.map (some g))) (hy : ev e y = some (ek key)) : OpP P n W0 (.lookup t x y true) ty e ⟨R, hs⟩ (.tuple #[evv ((mget m key).getD z), .bool (mget m key).isSome]) := by
  intro o ho hty a w ha hw
  have hg : w.heap[g]? = some (.map es clock) := hw.own _ hm
  have hf := hk.find w key es.toList (m.map (·.1)) (by rw [hr.1]; simp)
  have hmf := hr.find key
  simp only [execOp, ho, ha.ev hx, ha.ev hy, Instr.lookup, Sem.run_bind, run_underlying ht.und, Result.andThen_ok, run_getMap hg, Sem.run_pure, hk.check, hf]
  cases hidx : ((m.map (·.1)).zip (es.toList.map (·.val))).findIdx? (fun p => p.1 = key) with
  | none =>
    rw [hidx] at hmf
    have h2 : mget m key = none := by
      cases hq : mget m key with
      | none => rfl
      | some q => rw [hq] at hmf; simp at hmf
    simp [h2, hzr, hz]
  | some i =>
    rw [hidx] at hmf
    cases hq : mget m key with
    | none => rw [hq] at hmf; simp at hmf
    | some q =>
      rw [hq] at hmf
      simp only [Option.map_some, Option.some.injEq] at hmf
      simpa using hmf
theorem OpJ.makeMap (hk : ∀ g, K (.map (some g)) ⟨R, .obj g (.map #[] 0) :: hs⟩) : OpJ P n W0 (.makeMap t none) ty e ⟨R, hs⟩ K := by
  intro o ho hty a w ha hw next Q hn
  unfold Oper.wp
  have : (execOp a.eval o).run P w = .ok (.value (.map (some w.heap.size))) (w.alloc (.map #[] 0)) := by
    simp [execOp, ho, run_makeMap]
  rw [this]
  exact hn _ _ _ (hw.alloc (c := .obj w.heap.size (.map #[] 0)) rfl (heap_alloc_new w _)) (hk _)
theorem MapR.nil {κ ν : Type} (ek : κ → Value) (evv : ν → Value) : MapR ek evv #[] ([] : List (κ × ν)) := ⟨rfl, rfl⟩
theorem Sat.setObj {w : World} {g : Nat} {o o' : Obj} (h : Sat W0 ⟨R, .obj g o :: hs⟩ w) : Sat W0 ⟨R, .obj g o' :: hs⟩ { w with heap := w.heap.setIfInBounds g o' } := by
  have hg : w.heap[g]? = some o := h.own _ (List.mem_cons_self ..)
  have hlt := (Array.getElem?_eq_some_iff.1 hg).1
  refine Sat.turn (cs' := [.obj g o']) h rfl rfl rfl (by simp) (fun b hb hbc => ?_) (fun c' hc' => ?_) (by simp [Own, Chunk.blocks]) (fun b hb => .inl (by simpa [Own, Chunk.blocks] using hb))
  · exact Array.getElem?_setIfInBounds_ne (fun e => hbc (by simp [Chunk.blocks, e]))
  · rw [List.mem_singleton.1 hc']
    show (w.heap.setIfInBounds g o')[g]? = some o'
    simp [hlt]
theorem findIdx_mset {κ ν : Type} [DecidableEq κ] (m : List (κ × ν)) (k : κ) (v : ν) : mset m k v = match m.findIdx? (fun p => p.1 = k) with
    | some i => m.set i (k, v)
    | none => m ++ [(k, v)] := by
  induction m with
  | nil => simp [mset]
  | cons p m ih =>
    simp only [mset, List.findIdx?_cons]
    by_cases h : p.1 = k
    · simp [h]
    · simp only [h, if_false, decide_false, Bool.false_eq_true]
      rw [ih]
      cases m.findIdx? (fun p => p.1 = k) <;> simp
theorem zip_findIdx {κ ν : Type} (q : κ → Bool) (m : List (κ × ν)) (vs : List Value) (h : vs.length = m.length) : ((m.map (·.1)).zip vs).findIdx? (fun p => q p.1) = m.findIdx? (fun p => q p.1) := by
  induction m generalizing vs with
  | nil => simp
  | cons p m ih =>
    cases vs with
    | nil => simp at h
    | cons v vs => simp only [List.map_cons, List.zip_cons_cons, List.findIdx?_cons]; rw [ih vs (by simpa using h)]
theorem OpJ.mset {κ ν : Type} [DecidableEq κ] {kt vt : TypeId} {ek : κ → Value} {evv : ν → Value} {sz bt : Nat} {zr : List Value} [ht : Ty P t (.map kt vt) sz bt zr] [hk : Key P kt κ ek] {g : Nat} {es : Array MapEntry} {clock : Nat} {m : List (κ × ν)} {key : κ} {val : ν}
    (hp : hs.Perm (.obj g (.map es clock) :: hs')) (hr : MapR ek evv es m) (hx : ev e x = some (.map (some g))) (hy : ev e y = some (ek key)) (hz : ev e z = some (evv val))
    (hK : ∀ es' clock', MapR ek evv es' (mset m key val) → K undef ⟨R, .obj g (.map es' clock') :: hs'⟩) : OpJ P n W0 (.mapUpdate t x y z) ty e ⟨R, hs⟩ K := by
  intro o ho hty a w ha hw next Q hn
  have hw' := hw.perm hp
  have hg : w.heap[g]? = some (.map es clock) := hw'.own _ (List.mem_cons_self ..)
  have hf := hk.find w key es.toList (m.map (·.1)) (by rw [hr.1]; simp)
  have hlen : es.toList.length = m.length := by have := congrArg List.length hr.1; simpa using this
  rw [zip_findIdx (fun q => decide (q = key)) m _ (by simpa using hlen)] at hf
  have hms := findIdx_mset m key val
  obtain ⟨h1, h2⟩ := hr
  cases hidx : m.findIdx? (fun p => p.1 = key) with
  | none =>
    rw [hidx] at hf hms
    have hrun : (execOp a.eval o).run P w = .ok .skip { w with heap := w.heap.setIfInBounds g (.map (es.push { key := ek key, val := evv val, born := clock }) (clock + 1)) } := by
      simp only [execOp, ho, ha.ev hx, ha.ev hy, ha.ev hz, Instr.mapUpdate, Sem.run_bind, run_underlying ht.und, Result.andThen_ok, run_getMap hg, hk.check, hf, Option.map_none, MapKept.run_setObj_map _ hg, Sem.run_pure]
    unfold Oper.wp
    rw [hrun]
    refine hn _ _ _ hw'.setObj (hK _ _ ⟨?_, ?_⟩)
    · rw [hms]; simp only [Array.toList_push, List.map_append, h1]; rfl
    · rw [hms]; simp only [Array.toList_push, List.map_append, h2]; rfl
  | some i =>
    rw [hidx] at hf hms
    have hi := List.findIdx?_eq_some_iff_getElem.1 hidx
    obtain ⟨hi1, hi2, _⟩ := hi
    have hie : i < es.size := by rw [← hlen] at hi1; simpa using hi1
    have hkey : ((es[i]?).map (·.key)).getD (ek key) = ek key := by
      have h3 : (es.toList.map (·.key))[i]? = some (ek key) := by
        rw [h1]; simp [hi1]; simp at hi2; rw [hi2]
      simp only [List.getElem?_map, Array.getElem?_toList] at h3
      rw [h3]; rfl
    have hrun : (execOp a.eval o).run P w = .ok .skip { w with heap := w.heap.setIfInBounds g (.map (es.modify i fun e => { e with key := ek key, val := evv val }) clock) } := by
      simp only [execOp, ho, ha.ev hx, ha.ev hy, ha.ev hz, Instr.mapUpdate, Sem.run_bind, run_underlying ht.und, Result.andThen_ok, run_getMap hg, hk.check, hf, Option.map_some, hkey, Instr.keyThatStays, hk.stays, if_true, MapKept.run_setObj_map _ hg, Sem.run_pure]
    unfold Oper.wp
    rw [hrun]
    refine hn _ _ _ hw'.setObj (hK _ _ ⟨?_, ?_⟩)
    · rw [hms]
      refine List.ext_getElem? fun q => ?_
      have hq := congrArg (·[q]?) h1
      simp only [List.getElem?_map, Array.getElem?_toList] at hq ⊢
      rw [Array.getElem?_modify, List.getElem?_set]
      by_cases hqi : i = q
      · subst hqi; simp [hie, hi1]
      · rw [if_neg hqi, if_neg hqi]; exact hq
    · rw [hms]
      refine List.ext_getElem? fun q => ?_
      have hq := congrArg (·[q]?) h2
      simp only [List.getElem?_map, Array.getElem?_toList] at hq ⊢
      rw [Array.getElem?_modify, List.getElem?_set]
      by_cases hqi : i = q
      · subst hqi; simp [hie, hi1]
      · rw [if_neg hqi, if_neg hqi]; exact hq
end
/-! ### Regions in which several acts are ready -/
section
variable {P : Program} {n : Nat} {W0 : World} {l : List Oper} {s0 s : St} {done : List Nat} {e : Env} {K : Env → St → Prop}
theorem HoldJ.take_u (i : Nat) {d j dj : Nat} {want : Bool} {o : Oper} {op : Op} {ty : TypeId} {pos : String} {af : Array Edge} (hi : l[i]? = some ⟨some d, op, ty, pos, af, some (j, want)⟩) (hB : nowB l done i = true) (hd : Nat.blt d n = true)
    (ho : l[j]? = some o) (hdj : o.dst = some dj) (hb : eget e dj = some undef)
    (hst : StLe s0 s) (h : HoldJ P n W0 l s0 (i :: done) ((d, undef) :: e) s K) : HoldJ P n W0 l s0 done e s K := by
  intro f hf a w ha hsat
  simp only [nowB, Bool.and_eq_true] at hB
  obtain ⟨hlt, hB⟩ := hB
  have hlt : done.length < l.length := by simpa using hlt
  obtain ⟨f, rfl⟩ : ∃ f', f = f' + 1 := ⟨f - 1, by omega⟩
  have hy : yielded l.toArray a.tmps j = none := by
    have h1 : l.toArray[j]? = .some o := by simpa using ho
    have h2 := ha.get _ _ hb
    simp [yielded, h1, hdj, h2, undef]
  refine wpAnyH_take (i := i) (oi := ⟨some d, op, ty, pos, af, some (j, want)⟩) (v := undef) (by simpa using hi) hB.1.1 hB.1.2 hB.2 (fun c a w hq => by cases hq.1) (.inr ⟨by simp [Region.wanted, hy], rfl⟩) (hst.sat hsat) ?_
  exact h _ (by simp only [List.length_cons]; omega) _ w (ha.put hd undef) hsat
/-- One of the acts that are ready. -/
def StepAt (P : Program) (n : Nat) (W0 : World) (l : List Oper) (s0 : St) (done : List Nat) (e : Env) (s : St) (K : Env → St → Prop) (i : Nat) : Prop :=
  ∀ f, l.length ≤ f + (i :: done).length → ∀ a w, Sub n e a → Sat W0 s w → wpOp P l.toArray (QK n W0 K) i (fun a' w' => Sat W0 s0 w' ∧ wpAnyH P .any l.toArray (QK n W0 K) (Sat W0 s0) f (upTo l.length (i :: done)) a' w') a w
def readyB (l : List Oper) (done : List Nat) (rs : List Nat) : Bool := Nat.blt done.length l.length && (Region.ready .any l.toArray (upTo l.length done) == rs && !rs.isEmpty)
theorem HoldJ.steps (rs : List Nat) (hB : readyB l done rs = true) (h : ∀ j ∈ rs, StepAt P n W0 l s0 done e s K j) : HoldJ P n W0 l s0 done e s K := by
  intro f hf a w ha hw
  simp only [readyB, Bool.and_eq_true, beq_iff_eq] at hB
  obtain ⟨hlt, hB, hne⟩ := hB
  have hlt : done.length < l.length := by simpa using hlt
  obtain ⟨f, rfl⟩ : ∃ f', f = f' + 1 := ⟨f - 1, by omega⟩
  refine wpAnyH_all hB (by intro e0; rw [e0] at hne; simp at hne) fun j hj => ?_
  exact h j hj f (by simp only [List.length_cons]; omega) a w ha hw
theorem StepAt.put {i : Nat} {d : Nat} {op : Op} {ty : TypeId} {pos : String} {af : Array Edge} (hi : l[i]? = some ⟨some d, op, ty, pos, af, none⟩) (hd : Nat.blt d n = true)
    (h : OpJ P n W0 op ty e s fun v s' => StLe s0 s' ∧ HoldJ P n W0 l s0 (i :: done) ((d, v) :: e) s' K) : StepAt P n W0 l s0 done e s K i := by
  intro f hf a w ha hw
  have hi' : l.toArray[i]? = some ⟨some d, op, ty, pos, af, none⟩ := by simpa using hi
  unfold wpOp
  simp only [hi']
  rw [if_pos (by simp [Region.wanted])]
  exact .inl (h _ rfl rfl a w ha hw _ _ fun v s' w' hs' hk => ⟨hk.1.sat hs', hk.2 _ hf _ w' (ha.put hd v) hs'⟩)
theorem StepAt.act {i : Nat} {op : Op} {ty : TypeId} {pos : String} {af : Array Edge} (hi : l[i]? = some ⟨none, op, ty, pos, af, none⟩)
    (h : OpJ P n W0 op ty e s fun v s' => StLe s0 s' ∧ HoldJ P n W0 l s0 (i :: done) e s' K) : StepAt P n W0 l s0 done e s K i := by
  intro f hf a w ha hw
  have hi' : l.toArray[i]? = some ⟨none, op, ty, pos, af, none⟩ := by simpa using hi
  unfold wpOp
  simp only [hi']
  rw [if_pos (by simp [Region.wanted])]
  exact .inl (h _ rfl rfl a w ha hw _ _ fun v s' w' hs' hk => ⟨hk.1.sat hs', hk.2 _ hf _ w' (ha.put_none v) hs'⟩)
theorem StepAt.put_y {i : Nat} {d j dj : Nat} {want b : Bool} {o : Oper} {op : Op} {ty : TypeId} {pos : String} {af : Array Edge} (hi : l[i]? = some ⟨some d, op, ty, pos, af, some (j, want)⟩) (hd : Nat.blt d n = true)
    (ho : l[j]? = some o) (hdj : o.dst = some dj) (hb : eget e dj = some (.bool b)) (hw : b = want)
    (h : OpJ P n W0 op ty e s fun v s' => StLe s0 s' ∧ HoldJ P n W0 l s0 (i :: done) ((d, v) :: e) s' K) : StepAt P n W0 l s0 done e s K i := by
  intro f hf a w ha hsat
  have hi' : l.toArray[i]? = some ⟨some d, op, ty, pos, af, some (j, want)⟩ := by simpa using hi
  have hy : yielded l.toArray a.tmps j = .some b := by
    have h1 : l.toArray[j]? = .some o := by simpa using ho
    have h2 := ha.get _ _ hb
    simp [yielded, h1, hdj, h2]
  unfold wpOp
  simp only [hi']
  rw [if_pos (by simp [Region.wanted, hy, hw])]
  exact .inl (h _ rfl rfl a w ha hsat _ _ fun v s' w' hs' hk => ⟨hk.1.sat hs', hk.2 _ hf _ w' (ha.put hd v) hs'⟩)
theorem all1 {p : Nat → Prop} {a : Nat} (h : p a) : ∀ j ∈ [a], p j := by simpa using h
theorem all2 {p : Nat → Prop} {a b : Nat} (h : p a) (h2 : p b) : ∀ j ∈ [a, b], p j := by simp [h, h2]
theorem all3 {p : Nat → Prop} {a b c : Nat} (h : p a) (h2 : p b) (h3 : p c) : ∀ j ∈ [a, b, c], p j := by simp [h, h2, h3]
theorem all4 {p : Nat → Prop} {a b c d : Nat} (h : p a) (h2 : p b) (h3 : p c) (h4 : p d) : ∀ j ∈ [a, b, c, d], p j := by simp [h, h2, h3, h4]
end
end Go.Proofs.Ytdicpnnmhjgnbaa.FW
