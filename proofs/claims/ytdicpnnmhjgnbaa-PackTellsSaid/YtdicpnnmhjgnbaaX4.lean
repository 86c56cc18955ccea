/- Arguments that came in, as plain data. -/
import Derived.Test.YtdicpnnmhjgnbaaX3
import Derived.Test.YtdicpnnmhjgnbaaOpen
namespace Go.Proofs.Ytdicpnnmhjgnbaa.FW
open Go Go.ChangeShapes Go.WideShapes Go.ChangeAt Go.RowKit Go.ChangeMaps
set_option linter.unusedVariables false
set_option linter.unusedSimpArgs false
/-- What plain data that came in keep to. -/
class Rng (α : Type) where
  ok : α → Prop
instance : Rng Int := ⟨fun x => -9223372036854775808 ≤ x ∧ x ≤ 9223372036854775807⟩
instance : Rng Bool := ⟨fun _ => True⟩
instance : Rng UInt8 := ⟨fun _ => True⟩
instance : Rng UInt32 := ⟨fun _ => True⟩
instance : Rng UInt64 := ⟨fun _ => True⟩
instance : Rng ByteArray := ⟨fun s => s.size ≤ 140737488351232⟩
instance {α β : Type} [Rng α] [Rng β] : Rng (α × β) := ⟨fun x => Rng.ok x.1 ∧ Rng.ok x.2⟩
instance {α : Type} [Rng α] : Rng (List α) := ⟨fun l => l.length ≤ 140737488351232 ∧ ∀ x ∈ l, Rng.ok x⟩
/-- How a type's data read. -/
class Opens (P : Program) (t : TypeId) (α : Type) [Dat α] [Rng α] : Prop where
  opens : ∀ {H : Type} (enc : TypeId × Value → H) (w : World) (base : Nat) (spare : Nat → Bool) (held : Bool) (fuel : Nat) (cs : List Value) (x : DataW H × List MemPlace),
    DataW.trod enc P w base spare held fuel t cs = some x → (∀ n ∈ x.1.weights P t, n ≤ 140737488351232) → ∃ a : α, Dat.rep (heapOf w) cs a ∧ Rng.ok a
section
variable {P : Program} {t u : TypeId}
instance opInt {sz bt : Nat} {zr : List Value} [ht : Ty P t (.int .i64) sz bt zr] : Opens P t Int := by
  refine ⟨fun {H} enc w base spare held fuel cs x h hz => ?_⟩
  obtain ⟨n, rfl, _, hw⟩ := DataW.trod_int ht.und h
  exact ⟨n, rfl, by simpa [Rng.ok, Lit.wf, IntKind.min, IntKind.max, IntKind.signed, IntKind.bits] using hw⟩
instance opU8 {sz bt : Nat} {zr : List Value} [ht : Ty P t (.int .u8) sz bt zr] : Opens P t UInt8 := by
  refine ⟨fun {H} enc w base spare held fuel cs x h hz => ?_⟩
  obtain ⟨m, rfl, _, hw⟩ := DataW.trod_int ht.und h
  have h2 : 0 ≤ m ∧ m ≤ 255 := by simpa [Lit.wf, IntKind.min, IntKind.max, IntKind.signed, IntKind.bits] using hw
  refine ⟨UInt8.ofNat m.toNat, ?_, trivial⟩
  show [Value.int .u8 m] = [Value.int .u8 ((UInt8.ofNat m.toNat).toNat : Int)]
  rw [UInt8.toNat_ofNat']
  congr 2
  omega
instance opU32 {sz bt : Nat} {zr : List Value} [ht : Ty P t (.int .u32) sz bt zr] : Opens P t UInt32 := by
  refine ⟨fun {H} enc w base spare held fuel cs x h hz => ?_⟩
  obtain ⟨m, rfl, _, hw⟩ := DataW.trod_int ht.und h
  have h2 : 0 ≤ m ∧ m ≤ 4294967295 := by simpa [Lit.wf, IntKind.min, IntKind.max, IntKind.signed, IntKind.bits] using hw
  refine ⟨UInt32.ofNat m.toNat, ?_, trivial⟩
  show [Value.int .u32 m] = [Value.int .u32 ((UInt32.ofNat m.toNat).toNat : Int)]
  rw [UInt32.toNat_ofNat']
  congr 2
  omega
instance opU64 {sz bt : Nat} {zr : List Value} [ht : Ty P t (.int .u64) sz bt zr] : Opens P t UInt64 := by
  refine ⟨fun {H} enc w base spare held fuel cs x h hz => ?_⟩
  obtain ⟨m, rfl, _, hw⟩ := DataW.trod_int ht.und h
  have h2 : 0 ≤ m ∧ m ≤ 18446744073709551615 := by simpa [Lit.wf, IntKind.min, IntKind.max, IntKind.signed, IntKind.bits] using hw
  refine ⟨UInt64.ofNat m.toNat, ?_, trivial⟩
  show [Value.int .u64 m] = [Value.int .u64 ((UInt64.ofNat m.toNat).toNat : Int)]
  rw [UInt64.toNat_ofNat']
  congr 2
  omega
instance opBool {sz bt : Nat} {zr : List Value} [ht : Ty P t .bool sz bt zr] : Opens P t Bool := by
  refine ⟨fun {H} enc w base spare held fuel cs x h hz => ?_⟩
  obtain ⟨b, rfl, _⟩ := DataW.trod_bool ht.und h
  exact ⟨b, rfl, trivial⟩
instance opStr {sz bt : Nat} {zr : List Value} [ht : Ty P t .string sz bt zr] : Opens P t ByteArray := by
  refine ⟨fun {H} enc w base spare held fuel cs x h hz => ?_⟩
  obtain ⟨b, rfl, hb⟩ := DataW.trod_string ht.und h
  exact ⟨b, rfl, by have := hz b.data.toList.length (by rw [hb.1]; simp [DataW.weights]); rwa [Array.length_toList] at this⟩
theorem weightsAll_mem {H : Type} {P : Program} {e : TypeId} {d : DataW H} {n : Nat} (hn : n ∈ d.weights P e) : ∀ {l : List (DataW H)} {i : Nat}, l[i]? = some d → n ∈ DataW.weightsAll P e l
  | [], i, h => by simp at h
  | x :: l, 0, h => by
    simp only [List.getElem?_cons_zero, Option.some.injEq] at h
    subst h
    simp only [DataW.weightsAll, List.mem_append]
    exact .inl hn
  | x :: l, i + 1, h => by
    simp only [List.getElem?_cons_succ] at h
    simp only [DataW.weightsAll, List.mem_append]
    exact .inr (weightsAll_mem hn h)
theorem bytes_of {d : TypeDesc} {size bt : Nat} {zr : List Value} (hu : Ty P u d size bt zr) : P.bytesOf u = bt := by
  obtain ⟨i, z, h1, h2, h3, h4, _⟩ := hu.info
  simp [Program.bytesOf, h1, h2, h3, h4]
theorem cells_of {d : TypeDesc} {size bt : Nat} {zr : List Value} (hu : Ty P u d size bt zr) : P.cellsOf u = size := by
  obtain ⟨i, z, h1, h2, _⟩ := hu.info
  simp [Program.cellsOf, h1, h2]
theorem opSl {α : Type} [Dat α] [Rng α] {d : TypeDesc} {sz bt size bytes : Nat} {zr zr' : List Value} [ht : Ty P t (.slice u) sz bt zr] [hu : Ty P u d size bytes zr'] [ho : Opens P u α] (hsz : Dat.size α = size) (hbt : 1 ≤ bytes := by decide) : Opens P t (List α) := by
  refine ⟨fun {H} enc w base spare held fuel cs x h hz => ?_⟩
  have hc := cells_of hu
  have hy' := bytes_of hu
  rcases DataW.trod_slice ht.und h with ⟨rfl, _⟩ | ⟨a, len, cap, elems, rest, m, _, rfl, rfl, hb, hl, hm, hlen, hel, _, _⟩
  · exact ⟨[], ⟨none, 0, rfl, Nat.le_refl _, SlR.nil _ _⟩, by simp [Rng.ok]⟩
  · have each : ∀ i, i < len → ∃ cs' x', Dat.rep (heapOf w) cs' x' ∧ Rng.ok (α := α) x' ∧ ∀ j v, cs'[j]? = some v → w.cell? ((a.add (i * size)).add j) = some v := by
      intro i hi
      have h1 := hel i hi
      rw [List.getElem?_eq_getElem (by omega), hc, Option.bind_eq_some_iff] at h1
      obtain ⟨cs', hcs', hy⟩ := h1
      obtain ⟨_, h2, h3⟩ := World.cells?_some hcs'
      obtain ⟨x', hr, hok⟩ := ho.opens enc w base spare held m cs' _ hy (fun n hn => hz n (by
        simp only [DataW.weights, ht.und, List.mem_cons, List.mem_append]
        exact .inr (.inl (weightsAll_mem hn (i := i) (by rw [List.getElem?_map, List.getElem?_eq_getElem (by omega)]; rfl)))))
      refine ⟨cs', x', hr, hok, fun j v hj => ?_⟩
      have : j < size := by
        have := (List.getElem?_eq_some_iff.1 hj).1
        omega
      rw [h3 j this]; exact hj
    have all : ∀ n, n ≤ len → ∃ (es : List Value) (l : List α), l.length = n ∧ repL (heapOf w) es l ∧ (∀ x ∈ l, Rng.ok x) ∧ ∀ j v, es[j]? = some v → w.cell? (a.add j) = some v := by
      intro n
      induction n with
      | zero => intro _; exact ⟨[], [], rfl, rfl, by simp, by simp⟩
      | succ n ih =>
        intro hn
        obtain ⟨es, l, h1, h2, h3, h4⟩ := ih (by omega)
        obtain ⟨cs', x', hr, hok, hcell⟩ := each n (by omega)
        have hel := repL_len h2
        refine ⟨es ++ cs', l ++ [x'], by simp [h1], repL_app h2 (repL_single hr), fun y hy => ?_, fun j v hj => ?_⟩
        · rcases List.mem_append.1 hy with h | h
          · exact h3 y h
          · rw [List.mem_singleton.1 h]; exact hok
        · rw [List.getElem?_append] at hj
          split at hj
          · exact h4 j v hj
          · have h5 := hcell _ v hj
            rw [add_add] at h5
            rw [hel, h1, hsz] at h5
            have h6 : n * size + (j - n * size) = j := by
              have : ¬ j < n * size := by rw [hel, h1, hsz] at *; assumption
              omega
            rw [h6] at h5; exact h5
    obtain ⟨es, l, h1, h2, h3, h4⟩ := all len (Nat.le_refl _)
    refine ⟨l, ⟨some a, cap, by rw [h1], by omega, es, ⟨fun _ => rfl, fun j v hj => ?_⟩, h2⟩, ⟨by
      have := hz ((elems.length + rest.length) * P.bytesOf u) (by simp only [DataW.weights, ht.und, List.length_map]; exact List.mem_cons_self)
      rw [hy'] at this
      have h6 := Nat.le_mul_of_pos_right (elems.length + rest.length) hbt
      omega, h3⟩⟩
    rw [heapOf_cell]; exact h4 j v hj
end
theorem CallJ.imp {P : Program} {f : FuncId} {args : Array Value} {s : St} {post post' : Value → IM → List Chunk → Prop} (h : CallJ P f args s post) (k : ∀ v D hs, post v D hs → post' v D hs) : CallJ P f args s post' := by
  intro w hw
  refine (h w hw).mono ?_
  rintro e' w' ⟨v, D, hs', h0, h1, h2, h3⟩
  exact ⟨v, D, hs', h0, h1, h2, k _ _ _ h3⟩
theorem CallJ.yes {P : Program} {f : FuncId} {args : Array Value} {w : World} (h : CallJ P f args ⟨heapOf w, []⟩ fun v D hs' => v = .bool true ∧ hs' = []) : CallJ P f args ⟨fun b => w.heap[b]?, []⟩ fun v _ _ => v = .bool true :=
  CallJ.imp h fun _ _ _ h => h.1
theorem tk_all {l : List Value} {a b : Nat} (h : l.length = a + b) : (l.drop a).take b = l.drop a := List.take_of_length_le (by rw [List.length_drop]; omega)
theorem dd_take {l : List Value} {a b c : Nat} : ((l.drop a).drop b).take c = (l.drop (a + b)).take c := by rw [List.drop_drop]
theorem dd_last {l : List Value} {a b c : Nat} (h : l.length = a + b + c) : (l.drop (a + b)).take c = (l.drop a).drop b := by rw [List.take_of_length_le (by rw [List.length_drop]; omega), List.drop_drop]
end Go.Proofs.Ytdicpnnmhjgnbaa.FW
