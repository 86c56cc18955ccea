/- What plain data are in memory; rules that the printed walks use. -/
import Derived.Test.YtdicpnnmhjgnbaaF8
import Derived.Test.YtdicpnnmhjgnbaaP0
import Derived.IntWalk
namespace Go.Proofs.Ytdicpnnmhjgnbaa.FW
open Go Go.RowKit
set_option linter.unusedVariables false
set_option linter.unusedSimpArgs false

/-! ### Plain data in cells -/
class Dat (α : Type) where
  size : Nat
  rep : IM → List Value → α → Prop
  len : ∀ {R : IM} {cs : List Value} {x : α}, rep R cs x → cs.length = size
  mono : ∀ {R R' : IM} {cs : List Value} {x : α}, IM.le R R' → rep R cs x → rep R' cs x
  one : ∀ {R : IM} {cs : List Value} {x : α}, rep R cs x → cs.all (·.oneCell') = true
/-- Data without slices: their cells are told by themselves. -/
class Flat (α : Type) [Dat α] (enc : outParam (α → List Value)) : Prop where
  is : ∀ {R : IM} {cs : List Value} {x : α}, Dat.rep R cs x ↔ cs = enc x
instance : Dat Int := ⟨1, fun _ cs x => cs = [.int .i64 x], by rintro _ _ _ rfl; rfl, fun _ h => h, by rintro _ _ _ rfl; rfl⟩
instance : Flat Int (fun x => [.int .i64 x]) := ⟨Iff.rfl⟩
instance : Dat Bool := ⟨1, fun _ cs x => cs = [.bool x], by rintro _ _ _ rfl; rfl, fun _ h => h, by rintro _ _ _ rfl; rfl⟩
instance : Flat Bool (fun x => [.bool x]) := ⟨Iff.rfl⟩
instance : Dat ByteArray := ⟨1, fun _ cs x => cs = [.string x], by rintro _ _ _ rfl; rfl, fun _ h => h, by rintro _ _ _ rfl; rfl⟩
instance : Flat ByteArray (fun x => [.string x]) := ⟨Iff.rfl⟩
instance : Dat UInt8 := ⟨1, fun _ cs x => cs = [.int .u8 (x.toNat : Int)], by rintro _ _ _ rfl; rfl, fun _ h => h, by rintro _ _ _ rfl; rfl⟩
instance : Flat UInt8 (fun x => [.int .u8 (x.toNat : Int)]) := ⟨Iff.rfl⟩
instance : Dat UInt32 := ⟨1, fun _ cs x => cs = [.int .u32 (x.toNat : Int)], by rintro _ _ _ rfl; rfl, fun _ h => h, by rintro _ _ _ rfl; rfl⟩
instance : Flat UInt32 (fun x => [.int .u32 (x.toNat : Int)]) := ⟨Iff.rfl⟩
instance : Dat UInt64 := ⟨1, fun _ cs x => cs = [.int .u64 (x.toNat : Int)], by rintro _ _ _ rfl; rfl, fun _ h => h, by rintro _ _ _ rfl; rfl⟩
instance : Flat UInt64 (fun x => [.int .u64 (x.toNat : Int)]) := ⟨Iff.rfl⟩
instance {α β : Type} [Dat α] [Dat β] : Dat (α × β) where
  size := Dat.size α + Dat.size β
  rep R cs x := ∃ c1 c2, cs = c1 ++ c2 ∧ Dat.rep R c1 x.1 ∧ Dat.rep R c2 x.2
  len := by
    rintro R cs x ⟨c1, c2, rfl, h1, h2⟩
    rw [List.length_append, Dat.len h1, Dat.len h2]
  mono := by
    rintro R R' cs x h ⟨c1, c2, rfl, h1, h2⟩
    exact ⟨c1, c2, rfl, Dat.mono h h1, Dat.mono h h2⟩
  one := by
    rintro R cs x ⟨c1, c2, rfl, h1, h2⟩
    rw [List.all_append, Dat.one h1, Dat.one h2]; rfl
instance {α β : Type} [Dat α] [Dat β] {ea : α → List Value} {eb : β → List Value} [ha : Flat α ea] [hb : Flat β eb] : Flat (α × β) (fun x => ea x.1 ++ eb x.2) := by
  refine ⟨fun {R cs x} => ⟨?_, ?_⟩⟩
  · rintro ⟨c1, c2, rfl, h1, h2⟩
    rw [ha.is.1 h1, hb.is.1 h2]
  · rintro rfl
    exact ⟨_, _, rfl, ha.is.2 rfl, hb.is.2 rfl⟩
section
variable {α β : Type} [Dat α] [Dat β]
/-- Rows of data: the cells of each, one behind the other. -/
def repL (R : IM) : List Value → List α → Prop
  | es, [] => es = []
  | es, x :: l => ∃ c1 c2, es = c1 ++ c2 ∧ Dat.rep R c1 x ∧ repL R c2 l
theorem repL_nil (R : IM) : repL R [] ([] : List α) := rfl
theorem repL_len {R : IM} : ∀ {l : List α} {es : List Value}, repL R es l → es.length = l.length * Dat.size α
  | [], es, h => by simp only [repL] at h; subst h; simp
  | x :: l, es, h => by
    obtain ⟨c1, c2, rfl, h1, h2⟩ := h
    rw [List.length_append, Dat.len h1, repL_len h2, List.length_cons, Nat.succ_mul]; omega
theorem repL_mono {R R' : IM} (hr : IM.le R R') : ∀ {l : List α} {es : List Value}, repL R es l → repL R' es l
  | [], es, h => h
  | x :: l, es, ⟨c1, c2, h0, h1, h2⟩ => ⟨c1, c2, h0, Dat.mono hr h1, repL_mono hr h2⟩
theorem repL_one {R : IM} : ∀ {l : List α} {es : List Value}, repL R es l → es.all (·.oneCell') = true
  | [], es, h => by simp only [repL] at h; subst h; rfl
  | x :: l, es, ⟨c1, c2, h0, h1, h2⟩ => by rw [h0, List.all_append, Dat.one h1, repL_one h2]; rfl
theorem repL_app {R : IM} : ∀ {l m : List α} {es fs : List Value}, repL R es l → repL R fs m → repL R (es ++ fs) (l ++ m)
  | [], m, es, fs, h, k => by simp only [repL] at h; subst h; exact k
  | x :: l, m, es, fs, ⟨c1, c2, h0, h1, h2⟩, k => ⟨c1, c2 ++ fs, by rw [h0, List.append_assoc], h1, repL_app h2 k⟩
theorem repL_cons {R : IM} {x : α} {l : List α} {c1 c2 : List Value} (h1 : Dat.rep R c1 x) (h2 : repL R c2 l) : repL R (c1 ++ c2) (x :: l) := ⟨c1, c2, rfl, h1, h2⟩
theorem repL_single {R : IM} {x : α} {c1 : List Value} (h1 : Dat.rep R c1 x) : repL R c1 [x] := ⟨c1, [], by simp, h1, rfl⟩
theorem repL_get {R : IM} : ∀ {l : List α} {es : List Value} {i : Nat} {x : α}, repL R es l → l[i]? = some x → ∃ cs, Dat.rep R cs x ∧ ∀ j v, cs[j]? = some v → es[i * Dat.size α + j]? = some v
  | [], es, i, x, h, hx => by simp at hx
  | y :: l, es, 0, x, ⟨c1, c2, h0, h1, h2⟩, hx => by
    simp only [List.getElem?_cons_zero, Option.some.injEq] at hx
    subst hx
    refine ⟨c1, h1, fun j v hj => ?_⟩
    have : j < c1.length := (List.getElem?_eq_some_iff.1 hj).1
    rw [h0, Nat.zero_mul, Nat.zero_add, List.getElem?_append_left this]; exact hj
  | y :: l, es, i + 1, x, ⟨c1, c2, h0, h1, h2⟩, hx => by
    simp only [List.getElem?_cons_succ] at hx
    obtain ⟨cs, hr, hc⟩ := repL_get h2 hx
    refine ⟨cs, hr, fun j v hj => ?_⟩
    have h3 := Dat.len h1
    rw [h0, List.getElem?_append_right (by rw [h3, Nat.succ_mul]; omega), h3, Nat.succ_mul, show i * Dat.size α + Dat.size α + j - Dat.size α = i * Dat.size α + j from by omega]
    exact hc j v hj
theorem repL_take {R : IM} : ∀ {l : List α} {es : List Value} (i : Nat), repL R es l → repL R (es.take (i * Dat.size α)) (l.take i)
  | [], es, i, h => by simp only [repL] at h; subst h; simp [repL]
  | y :: l, es, 0, h => by simp [repL]
  | y :: l, es, i + 1, ⟨c1, c2, h0, h1, h2⟩ => by
    have h3 := Dat.len h1
    refine ⟨c1, c2.take (i * Dat.size α), ?_, h1, repL_take i h2⟩
    rw [h0, List.take_append, h3, List.take_of_length_le (by rw [h3, Nat.succ_mul]; omega)]
    congr 2
    rw [Nat.succ_mul]; omega
theorem repL_drop {R : IM} : ∀ {l : List α} {es : List Value} (i : Nat), repL R es l → repL R (es.drop (i * Dat.size α)) (l.drop i)
  | [], es, i, h => by simp only [repL] at h; subst h; simp [repL]
  | y :: l, es, 0, h => by simpa using h
  | y :: l, es, i + 1, ⟨c1, c2, h0, h1, h2⟩ => by
    have h3 := Dat.len h1
    have h4 := repL_drop i h2
    rw [h0, List.drop_append, h3, List.drop_of_length_le (by rw [h3, Nat.succ_mul]; omega), List.nil_append, List.drop_succ_cons]
    have : (i + 1) * Dat.size α - Dat.size α = i * Dat.size α := by rw [Nat.succ_mul]; omega
    rw [this]; exact h4
theorem repL_set {R : IM} : ∀ {l : List α} {es : List Value} {i : Nat} {x : α} {cs : List Value}, repL R es l → i < l.length → Dat.rep R cs x → repL R (lsplice es (i * Dat.size α) cs) (l.set i x)
  | [], es, i, x, cs, h, hi, hx => by simp at hi
  | y :: l, es, 0, x, cs, ⟨c1, c2, h0, h1, h2⟩, hi, hx => by
    refine ⟨cs, c2, ?_, hx, h2⟩
    have h3 := Dat.len h1
    have h4 := Dat.len hx
    rw [h0]; simp only [lsplice, Nat.zero_mul, List.take_zero, List.nil_append, Nat.zero_add]
    rw [h4, ← h3, List.drop_left]
  | y :: l, es, i + 1, x, cs, ⟨c1, c2, h0, h1, h2⟩, hi, hx => by
    have h3 := Dat.len h1
    have ih := repL_set (i := i) h2 (by simpa using hi) hx
    refine ⟨c1, _, ?_, h1, ih⟩
    rw [h0]
    have e : (i + 1) * Dat.size α = c1.length + i * Dat.size α := by rw [h3, Nat.succ_mul]; omega
    simp only [lsplice, e]
    rw [List.take_append, List.take_of_length_le (by omega), List.append_assoc, List.append_assoc, List.append_assoc]
    congr 1
    rw [show c1.length + i * Dat.size α - c1.length = i * Dat.size α from by omega]
    congr 2
    rw [List.drop_append, List.drop_of_length_le (by omega), List.nil_append]
    congr 1
    omega
/-- A slice's data in memory that never changes. -/
def SlR (R : IM) (A : Option Addr) (l : List α) : Prop := ∃ es, RC R A es ∧ repL R es l
theorem SlR.out {R : IM} {A : Option Addr} {l : List α} (h : SlR R A l) : ∃ es, RC R A es ∧ repL R es l := h
theorem SlR.mono {R R' : IM} {A : Option Addr} {l : List α} (h : SlR R A l) (hr : IM.le R R') : SlR R' A l := let ⟨es, h1, h2⟩ := h; ⟨es, h1.mono hr, repL_mono hr h2⟩
theorem SlR.nil (R : IM) (A : Option Addr) : SlR R A ([] : List α) := ⟨[], RC.nil _ _, rfl⟩
theorem SlR.get {R : IM} {A : Option Addr} {l : List α} {i : Nat} {x : α} (h : SlR R A l) (hx : l[i]? = some x) : ∃ cs, Dat.rep R cs x ∧ RC R (some ((adr A).add (i * Dat.size α))) cs := by
  obtain ⟨es, h1, h2⟩ := h
  obtain ⟨cs, h3, h4⟩ := repL_get h2 hx
  exact ⟨cs, h3, fun _ => rfl, fun j v hj => by rw [adr, Option.getD_some, add_add]; exact h1.2 _ v (h4 j v hj)⟩
theorem SlR.getF {R : IM} {A : Option Addr} {l : List α} {i : Int} {x : α} {enc : α → List Value} [hf : Flat α enc] (h : SlR R A l) (hx : at? l i = some x) : RC R (some ((adr A).add (i.toNat * Dat.size α))) (enc x) := by
  obtain ⟨cs, h1, h2⟩ := h.get (at?_ok hx).2.2
  rw [hf.is.1 h1] at h2; exact h2
theorem SlR.getN {R : IM} {A : Option Addr} {l : List α} {i : Int} {x : α} (h : SlR R A l) (hx : at? l i = some x) : ∃ cs, Dat.rep R cs x ∧ RC R (some ((adr A).add (i.toNat * Dat.size α))) cs := h.get (at?_ok hx).2.2
theorem SlR.isSome {R : IM} {A : Option Addr} {l : List α} {i : Int} {x : α} (h : SlR R A l) (hx : at? l i = some x) (hsz : Nat.blt 0 (Dat.size α) = true) : A.isSome = true := by
  obtain ⟨es, h1, h2⟩ := h
  refine h1.1 fun e => ?_
  have h3 := repL_len h2
  have h4 := (at?_ok hx).2.1
  have h5 := (at?_ok hx).1
  have h6 : 0 < l.length := by omega
  have h7 : 0 < Dat.size α := by simpa using hsz
  have := Nat.mul_pos h6 h7
  rw [e] at h3; simp at h3; omega
theorem SlR.none_nil {R : IM} {l : List α} (h : SlR R none l) (hsz : Nat.blt 0 (Dat.size α) = true) : l = [] := by
  cases l with
  | nil => rfl
  | cons x l =>
    have := SlR.isSome (i := 0) (x := x) h (by simp [at?]) hsz
    cases this
theorem SlR.cut {R : IM} {A : Option Addr} {l m : List α} {c : Nat} {i j : Int} (h : SlR R A l) (hs : sub? l i j = some m) (hc : l.length ≤ c) : SlR R (cutA A i.toNat c (Dat.size α)) m := by
  obtain ⟨es, h1, h2⟩ := h
  obtain ⟨h3, h4, h5, rfl⟩ := sub?_ok hs
  have h6 := repL_drop i.toNat (repL_take j.toNat h2)
  have h7 := repL_len (repL_take j.toNat h2)
  refine ⟨_, (h1.take (j.toNat * Dat.size α)).cut i.toNat c (Dat.size α) ?_ (fun hci => ?_), h6⟩
  · rw [h7, List.length_take]
    exact Nat.mul_le_mul_right _ (by omega)
  · have := repL_len h6
    apply List.eq_nil_of_length_eq_zero
    rw [this]
    have h8 : ((l.take j.toNat).drop i.toNat).length = 0 := by simp only [List.length_drop, List.length_take]; omega
    rw [h8, Nat.zero_mul]
end
instance {α : Type} [Dat α] : Dat (List α) where
  size := 1
  rep R cs l := ∃ A c, cs = [.slice A l.length c] ∧ l.length ≤ c ∧ SlR R A l
  len := by rintro R cs x ⟨A, c, rfl, _, _⟩; rfl
  mono := by rintro R R' cs x h ⟨A, c, h0, h1, h2⟩; exact ⟨A, c, h0, h1, h2.mono h⟩
  one := by rintro R cs x ⟨A, c, rfl, _, _⟩; rfl
/-! ### Rows of the call's own -/
section
variable {α : Type} [Dat α]
/-- Cells of an element of an own row. -/
theorem row_getF {R : IM} {cs : List Value} {l : List α} {i : Int} {x : α} {enc : α → List Value} [hf : Flat α enc] (h : repL R cs l) (hx : at? l i = some x) : ∀ j v, (enc x)[j]? = some v → cs[i.toNat * Dat.size α + j]? = some v := by
  obtain ⟨es, h1, h2⟩ := repL_get h (at?_ok hx).2.2
  rw [hf.is.1 h1] at h2; exact h2
theorem row_getN {R : IM} {cs : List Value} {l : List α} {i : Int} {x : α} (h : repL R cs l) (hx : at? l i = some x) : ∃ es, Dat.rep R es x ∧ ∀ j v, es[j]? = some v → cs[i.toNat * Dat.size α + j]? = some v := repL_get h (at?_ok hx).2.2
theorem row_ne {R : IM} {cs : List Value} {l : List α} {i : Int} {x : α} (h : repL R cs l) (hx : at? l i = some x) (hsz : Nat.blt 0 (Dat.size α) = true) : cs ≠ [] := by
  intro e
  have h3 := repL_len h
  have h4 := (at?_ok hx).2.1
  have h5 := (at?_ok hx).1
  have h6 : 0 < l.length := by omega
  have h7 : 0 < Dat.size α := by simpa using hsz
  have := Nat.mul_pos h6 h7
  rw [e] at h3; simp at h3; omega
theorem SlR.of_row {R R' : IM} {A : Option Addr} {cs : List Value} {l : List α} (h : RC R A cs) (hl : repL R' cs l) (hr : IM.le R' R) : SlR R A l := ⟨cs, h, repL_mono hr hl⟩
end

theorem hcap {α : Type} {l : List α} {n c : Nat} (h : l.length = n) (h2 : n ≤ c) : l.length ≤ c := h ▸ h2
theorem rowcap_ {R : IM} {l : List Chunk} {t size n c : Nat} {A : Option Addr} {cs : List Value} (hin : ∀ c ∈ l, c.inR R) (h : .row t size A n c cs ∈ l) : True := trivial
/-! ### Rules -/
theorem w64_wrap (n : Int) : IntKind.i64.wrap n = w64 n := by rw [IntKind.wrap_i64]; rfl
theorem SubL.trans' {a b c : List Chunk} (h : SubL a b) (k : SubL b c) : SubL a c := by
  obtain ⟨l1, h1⟩ := h.perm
  obtain ⟨l2, h2⟩ := k.perm
  have h3 : c.Perm (a ++ (l1 ++ l2)) := by
    rw [← List.append_assoc]
    exact h2.trans (h1.append_right l2)
  clear h1 h2 h k
  induction a generalizing c with
  | nil => exact .nil _
  | cons x r ih => exact .cons h3 (ih (List.Perm.refl _))
section
variable {P : Program} {n : Nat} {W0 : World} {e : Env} {s : St} {R R' : IM} {hs hs' : List Chunk} {op : Op} {ty : TypeId} {v : Value} {K : Value → St → Prop}
variable {x y z : Operand} {t t' : TypeId} {k : IntKind} {i j : Int}
theorem OpP.add64 (hx : ev e x = some (.int .i64 i)) (hy : ev e y = some (.int .i64 j)) : OpP P n W0 (.binOp .add t x y t') ty e s (.int .i64 (w64 (i + j))) := by
  have := OpP.add (P := P) (n := n) (W0 := W0) (s := s) (ty := ty) (t := t) (t' := t') hx hy
  rwa [w64_wrap] at this
theorem OpP.sub64 (hx : ev e x = some (.int .i64 i)) (hy : ev e y = some (.int .i64 j)) : OpP P n W0 (.binOp .sub t x y t') ty e s (.int .i64 (w64 (i - j))) := by
  have := OpP.sub (P := P) (n := n) (W0 := W0) (s := s) (ty := ty) (t := t) (t' := t') hx hy
  rwa [w64_wrap] at this
theorem OpP.mul64 (hx : ev e x = some (.int .i64 i)) (hy : ev e y = some (.int .i64 j)) : OpP P n W0 (.binOp .mul t x y t') ty e s (.int .i64 (w64 (i * j))) := by
  have := OpP.mul (P := P) (n := n) (W0 := W0) (s := s) (ty := ty) (t := t) (t' := t') hx hy
  rwa [w64_wrap] at this
/-- An element's address: of a slice in memory that never changes; of an own row. -/
theorem OpP.ixR {α : Type} [Dat α] {A : Option Addr} {m c size : Nat} {l : List α} {a : α} {u : TypeId} {sz bt bt' : Nat} {zr zr' : List Value} {d : TypeDesc} [ht : Ty P t (.slice u) sz bt zr] [hu : Ty P u d size bt' zr']
    (hA : SlR R' A l) (hn : l.length = m) (ha : at? l i = some a) (hsize : Dat.size α = size) (hsz : Nat.blt 0 size = true) (hx : ev e x = some (.slice A m c)) (hy : ev e y = some (.int k i)) :
    OpP P n W0 (.indexAddr t x y) ty e s (.pointer (some ((adr A).add (i.toNat * Dat.size α)))) := by
  subst hsize
  exact OpP.indexAddr hx hy (at?_ok ha).1 (by rw [← hn]; simpa using (at?_ok ha).2.1) (fun _ _ _ => hA.isSome ha hsz)
theorem OpP.ixW {α : Type} [Dat α] {A : Option Addr} {m c sz0 size : Nat} {cs : List Value} {t0 : TypeId} {l : List α} {a : α} {u : TypeId} {sz bt bt' : Nat} {zr zr' : List Value} {d : TypeDesc} [ht : Ty P t (.slice u) sz bt zr] [hu : Ty P u d size bt' zr']
    (hm : .row t0 sz0 A m c cs ∈ hs) (hl : repL R' cs l) (hn : l.length = m) (ha : at? l i = some a) (hsize : Dat.size α = size) (hsz : Nat.blt 0 size = true) (hx : ev e x = some (.slice A m c)) (hy : ev e y = some (.int k i)) :
    OpP P n W0 (.indexAddr t x y) ty e ⟨R, hs⟩ (.pointer (some ((adr A).add (i.toNat * Dat.size α)))) := by
  subst hsize
  exact OpP.indexAddr hx hy (at?_ok ha).1 (by rw [← hn]; simpa using (at?_ok ha).2.1) (Src.some (Src.ofRow hm) (row_ne hl ha hsz))
theorem add_zero' (a : Addr) : a.add 0 = a := rfl
/-- One cell of an element. -/
theorem OpP.ldR {d : TypeDesc} {bt sz : Nat} {zr : List Value} [ht : Ty P t d sz bt zr] {ad : Addr} {m : Nat} {cs : List Value} (hd : notAgg d = true) (h : RC R' (some ad) cs) (hr : IM.le R' R) (hx : ev e x = some (.pointer (some (ad.add m)))) (hv : cs[m]? = some v) :
    OpP P n W0 (.load t x) ty e ⟨R, hs⟩ v := OpP.load1 hd hx (Src.ofR (h.mono hr)) rfl hv
theorem OpP.ldR0 {d : TypeDesc} {bt sz : Nat} {zr : List Value} [ht : Ty P t d sz bt zr] {ad : Addr} {cs : List Value} (hd : notAgg d = true) (h : RC R' (some ad) cs) (hr : IM.le R' R) (hx : ev e x = some (.pointer (some ad))) (hv : cs[0]? = some v) :
    OpP P n W0 (.load t x) ty e ⟨R, hs⟩ v := OpP.load1 hd hx (Src.ofR (h.mono hr)) (m := 0) (add_zero' ad).symm hv
/-- A whole element. -/
theorem OpP.ldRN {d : TypeDesc} {bt sz : Nat} {zr : List Value} [ht : Ty P t d sz bt zr] {ad : Addr} {cs : List Value} (hd : notAgg d = false) (h : RC R' (some ad) cs) (hr : IM.le R' R) (hx : ev e x = some (.pointer (some ad))) (hl : cs.length = sz) :
    OpP P n W0 (.load t x) ty e ⟨R, hs⟩ (.agg cs.toArray) := OpP.loadN hd hx (Src.ofR (h.mono hr)) (m := 0) (add_zero' ad).symm (fun j _ => by rw [Nat.zero_add]) hl
theorem OpP.ldW {d : TypeDesc} {bt sz sz0 n0 c m q : Nat} {zr cs us : List Value} {t0 : TypeId} {A : Option Addr} [ht : Ty P t d sz bt zr] (hd : notAgg d = true) (hm : .row t0 sz0 A n0 c cs ∈ hs) (h : ∀ j v, us[j]? = some v → cs[q + j]? = some v) (hx : ev e x = some (.pointer (some (((adr A).add q).add m)))) (hv : us[m]? = some v) :
    OpP P n W0 (.load t x) ty e ⟨R, hs⟩ v := OpP.load1 hd hx (Src.ofRow hm) (add_add _ _ _) (h m v hv)
theorem OpP.ldW0 {d : TypeDesc} {bt sz sz0 n0 c q : Nat} {zr cs us : List Value} {t0 : TypeId} {A : Option Addr} [ht : Ty P t d sz bt zr] (hd : notAgg d = true) (hm : .row t0 sz0 A n0 c cs ∈ hs) (h : ∀ j v, us[j]? = some v → cs[q + j]? = some v) (hx : ev e x = some (.pointer (some ((adr A).add q)))) (hv : us[0]? = some v) :
    OpP P n W0 (.load t x) ty e ⟨R, hs⟩ v := OpP.load1 hd hx (Src.ofRow hm) (m := q) rfl (by simpa using h 0 v hv)
theorem OpP.ldWN {d : TypeDesc} {bt sz sz0 n0 c q : Nat} {zr cs us : List Value} {t0 : TypeId} {A : Option Addr} [ht : Ty P t d sz bt zr] (hd : notAgg d = false) (hm : .row t0 sz0 A n0 c cs ∈ hs) (h : ∀ j v, us[j]? = some v → cs[q + j]? = some v) (hx : ev e x = some (.pointer (some ((adr A).add q)))) (hl : us.length = sz) :
    OpP P n W0 (.load t x) ty e ⟨R, hs⟩ (.agg us.toArray) := OpP.loadN hd hx (Src.ofRow hm) (m := q) rfl (fun j hj => by
      have h1 : us[j]? = some us[j] := by simp [show j < us.length by omega]
      rw [h1]; exact h j _ h1) hl
/-- Append, to a row of the call's own. -/
theorem OpJ.appW {α : Type} [Dat α] {d : TypeDesc} {u : TypeId} {sz bt bytes size m1 m2 : Nat} {zr zr' : List Value} [ht : Ty P t (.slice u) sz bt zr] [hu : Ty P u d size bytes zr'] {A B : Option Addr} {c c' : Nat} {cs news : List Value} {l m q : List α}
    (ha : app? bytes l m = some q) (hn1 : l.length = m1) (hn2 : m.length = m2) (hB : Src ⟨R, hs⟩ B news) (hl : repL R' news m) (hsize : Dat.size α = size)
    (hp : hs.Perm (.row u size A m1 c cs :: hs')) (hz : zr'.length = size) (hsz : Nat.blt 0 size = true) (hbt : Nat.blt 0 bytes = true) (hx : ev e x = some (.slice A m1 c)) (hy : ev e y = some (.slice B m2 c'))
    (hk : ∀ A' c', K (.slice A' q.length c') ⟨R, .row u size A' q.length c' (cs ++ news) :: hs'⟩) : OpJ P n W0 (.call ⟨.builtin .append, #[x, y], #[t, t]⟩) ty e ⟨R, hs⟩ K := by
  obtain ⟨h1, rfl⟩ := app?_ok ha
  subst hsize hn1 hn2
  have hb : 0 < bytes := by simpa using hbt
  have hc : l.length + m.length ≤ 140737488355328 := Nat.le_trans (Nat.le_mul_of_pos_right _ hb) h1
  refine OpJ.append hx hy hp hB (repL_len hl) hz hsz (repL_one hl) h1 hc (fun A' c' => ?_)
  have := hk A' c'
  rwa [List.length_append] at this
theorem app_rep {α : Type} [Dat α] {R : IM} {bytes : Nat} {cs news : List Value} {l m q : List α} (ha : app? bytes l m = some q) (h1 : repL R cs l) (h2 : repL R news m) : repL R (cs ++ news) q := by
  obtain ⟨_, rfl⟩ := app?_ok ha
  exact repL_app h1 h2
/-- A part of a slice. -/
theorem OpP.cutHi {α : Type} [Dat α] {d : TypeDesc} {u : TypeId} {sz bt size bytes m1 : Nat} {zr zr' : List Value} [ht : Ty P t (.slice u) sz bt zr] [hu : Ty P u d size bytes zr'] {A : Option Addr} {c : Nat} {l m : List α} (hs : sub? l 0 j = some m) (hn : l.length = m1) (hc : l.length ≤ c) (hx : ev e x = some (.slice A m1 c)) (hy : ev e y = some (.int k j)) :
    OpP P n W0 (.slice t x none (some y) none) ty e s (.slice A m.length c) := by
  obtain ⟨h1, h2, h3, rfl⟩ := sub?_ok hs
  have := OpP.slice_hi (P := P) (n := n) (W0 := W0) (s := s) (ty := ty) (t := t) hx hy (by omega) (by omega)
  have e1 : ((l.take j.toNat).drop (0 : Int).toNat).length = j.toNat := by simp; omega
  rw [e1]; exact this
theorem OpP.cutLo {α : Type} [Dat α] {d : TypeDesc} {u : TypeId} {sz bt size bytes m1 : Nat} {zr zr' : List Value} [ht : Ty P t (.slice u) sz bt zr] [hu : Ty P u d size bytes zr'] {A : Option Addr} {c : Nat} {l m : List α} (hs : sub? l i m1 = some m) (hn : l.length = m1) (hx : ev e x = some (.slice A m1 c)) (hy : ev e y = some (.int k i)) :
    OpP P n W0 (.slice t x (some y) none none) ty e s (.slice (cutA A i.toNat c size) m.length (c - i.toNat)) := by
  obtain ⟨h1, h2, h3, rfl⟩ := sub?_ok hs
  have := OpP.slice_lo (P := P) (n := n) (W0 := W0) (s := s) (ty := ty) (t := t) hx hy (by omega) (by omega)
  have e1 : ((l.take ((m1 : Nat) : Int).toNat).drop i.toNat).length = m1 - i.toNat := by simp [hn]
  rw [e1]; exact this
theorem OpP.cutLoHi {α : Type} [Dat α] {d : TypeDesc} {u : TypeId} {sz bt size bytes m1 : Nat} {zr zr' : List Value} [ht : Ty P t (.slice u) sz bt zr] [hu : Ty P u d size bytes zr'] {A : Option Addr} {c : Nat} {l m : List α} {k' : IntKind} (hs : sub? l i j = some m) (hn : l.length = m1) (hc : l.length ≤ c) (hx : ev e x = some (.slice A m1 c)) (hy : ev e y = some (.int k i)) (hz : ev e z = some (.int k' j)) :
    OpP P n W0 (.slice t x (some y) (some z) none) ty e s (.slice (cutA A i.toNat c size) m.length (c - i.toNat)) := by
  obtain ⟨h1, h2, h3, rfl⟩ := sub?_ok hs
  have := OpP.slice_lohi (P := P) (n := n) (W0 := W0) (s := s) (ty := ty) (t := t) hx hy hz (by omega) (by omega) (by omega)
  have e1 : ((l.take j.toNat).drop i.toNat).length = j.toNat - i.toNat := by simp; omega
  rw [e1]; exact this
theorem sub_cap {α : Type} {l m : List α} {c : Nat} {i j : Int} (hs : sub? l i j = some m) (hc : l.length ≤ c) : m.length ≤ c - i.toNat := by
  obtain ⟨h1, h2, h3, rfl⟩ := sub?_ok hs
  simp; omega
theorem cutA0 {α : Type} [Dat α] {R : IM} {A : Option Addr} {l m : List α} {j : Int} (h : SlR R A l) (hs : sub? l 0 j = some m) : SlR R A m := by
  obtain ⟨es, h1, h2⟩ := h
  obtain ⟨h3, h4, h5, rfl⟩ := sub?_ok hs
  have h6 := repL_take j.toNat h2
  simp only [Int.toNat_zero, List.drop_zero]
  exact ⟨_, h1.take _, h6⟩
theorem OpP.notdec {p : Prop} [Decidable p] (hx : ev e x = some (.bool (decide p))) : OpP P n W0 (.unOp .not t x) ty e s (.bool (decide (¬ p))) := by
  have := OpP.not (P := P) (n := n) (W0 := W0) (s := s) (ty := ty) (t := t) hx
  rwa [← decide_not] at this
theorem OpP.neqS {b b' : ByteArray} (hx : ev e x = some (.string b)) (hy : ev e y = some (.string b')) : OpP P n W0 (.binOp .neq t x y t') ty e s (.bool (decide (b ≠ b'))) := by
  have := OpP.neq_string (P := P) (n := n) (W0 := W0) (s := s) (ty := ty) (t := t) (t' := t') hx hy
  rwa [← decide_not] at this
/-- A call that hands nothing back but its value. -/
theorem OpJ.call0 {f : FuncId} [hf : Fn1 P f] {xs : List Operand} {vs : List Value} {ats : Array TypeId} {post : Value → IM → List Chunk → Prop} (hxs : opts e xs = some vs)
    (hc : ∀ R', IM.le R R' → (∀ c ∈ hs, c.inR R') → CallJ P f vs.toArray ⟨R', []⟩ post)
    (hk : ∀ v D hs1, post v D hs1 → K v ⟨R, hs⟩) : OpJ P n W0 (.call ⟨.value (.func f), xs.toArray, ats⟩) ty e ⟨R, hs⟩ K := by
  intro o ho hty a w ha hw next Q hn
  exact (OpJ.call (P := P) (n := n) (W0 := W0) (K := fun v s' => (∃ D hs1, post v D hs1) ∧ IM.le R s'.R ∧ SubL hs s'.hs) (pass := []) (ats := ats) (ty := ty) hxs Split.nil hc
    (fun v D hs1 hd hp => ⟨⟨D, hs1, hp⟩, IM.le_or _ _, SubL.of_perm List.perm_append_comm |> SubL.trans' (SubL.app hs hs1)⟩)) o ho hty a w ha hw next Q
    (fun v s' w' hs' hk' => by
      obtain ⟨⟨D, hs1, hp⟩, h1, h2⟩ := hk'
      exact hn v ⟨R, hs⟩ w' ((Sat.sub (R := s'.R) hs' h2).le h1) (hk v D hs1 hp))
/-- A call that hands back rows. -/
theorem OpJ.call1 {f : FuncId} [hf : Fn1 P f] {xs : List Operand} {vs : List Value} {ats : Array TypeId} {post : Value → IM → List Chunk → Prop} (hxs : opts e xs = some vs)
    (hc : ∀ R', IM.le R R' → (∀ c ∈ hs, c.inR R') → CallJ P f vs.toArray ⟨R', []⟩ post)
    (hk : ∀ v D hs1, post v D hs1 → K v ⟨R, hs1 ++ hs⟩) : OpJ P n W0 (.call ⟨.value (.func f), xs.toArray, ats⟩) ty e ⟨R, hs⟩ K := by
  intro o ho hty a w ha hw next Q hn
  exact (OpJ.call (P := P) (n := n) (W0 := W0) (K := fun v s' => ∃ D hs1, post v D hs1 ∧ IM.le R s'.R ∧ s'.hs = hs1 ++ hs) (pass := []) (ats := ats) (ty := ty) hxs Split.nil hc
    (fun v D hs1 hd hp => ⟨D, hs1, hp, IM.le_or _ _, rfl⟩)) o ho hty a w ha hw next Q
    (fun v s' w' hs' hk' => by
      obtain ⟨D, hs1, hp, h1, h2⟩ := hk'
      have h3 : Sat W0 ⟨s'.R, hs1 ++ hs⟩ w' := by rw [← h2]; exact hs'
      exact hn v ⟨R, hs1 ++ hs⟩ w' (h3.le h1) (hk v D hs1 hp))
theorem OpJ.buildSliceC {d : TypeDesc} {u : TypeId} {len sz bt sz' bt' : Nat} {zr zr' cs : List Value} [ht : Ty P t (.slice u) sz bt zr] [hu : Ty P u d sz' bt' zr'] {ps : List (Nat × Operand)} {vs : List (Nat × Value)} (hps : evs e ps = some vs)
    (hlen : Nat.beq vs.length len = true) (hok : sliceOk sz' 0 vs = true) (hb : Nat.ble (len * sz') 1000 = true) (hb1 : Nat.ble len 1000 = true) (hcs : sliceL vs = cs) (hk : ∀ g, K (.slice (some ⟨g, 0, none⟩) len len) ⟨R, .row u sz' (some ⟨g, 0, none⟩) len len cs :: hs⟩) :
    OpJ P n W0 (.buildSlice t len ps.toArray) ty e ⟨R, hs⟩ K := by
  subst hcs
  exact OpJ.buildSlice hps hlen hok hb hb1 hk
theorem OpP.buildC {fs : Array Field} {sz bt : Nat} {zr cs : List Value} {pl : List (Nat × Nat)} [ht : Ty P t (.struct fs) sz bt zr] [hf : Flds P t pl] {ps : List (Nat × Operand)} {vs : List (Nat × Value)} (hps : evs e ps = some vs)
    (hok : fillOk (fun i => pl[i]?) zr.length vs = true) (hcs : fillL (fun i => pl[i]?) zr vs = cs) : OpP P n W0 (.build t ps.toArray) ty e s (.agg cs.toArray) := by
  subst hcs
  exact OpP.build hps hok
theorem OpJ.storeC {d : TypeDesc} {sz bt : Nat} {zr : List Value} [ht : Ty P t d sz bt zr] {g off : Nat} {t' : TypeId} {cur us cs : List Value} {u : Value} (hx : ev e x = some (.pointer (some ⟨g, off, none⟩))) (hy : ev e y = some u) (hu : u.cells = us.toArray)
    (hp : hs.Perm (.blk g cur t' :: hs')) (hl : us.length = sz) (hfit : Nat.ble (off + us.length) cur.length = true) (h1 : us.all (·.oneCell') = true) (hcs : lsplice cur off us = cs)
    (hk : K undef ⟨R, .blk g cs t' :: hs'⟩) : OpJ P n W0 (.store t x y) ty e ⟨R, hs⟩ K := by
  subst hcs
  exact OpJ.store hx hy hu hp hl hfit h1 hk
/-- An element of an own row is written. -/
theorem OpJ.stW {α : Type} [Dat α] {d : TypeDesc} {sz bt : Nat} {zr : List Value} [ht : Ty P t d sz bt zr] {A : Option Addr} {m c size : Nat} {t' : TypeId} {cur us : List Value} {u : Value} {l l' : List α} {a : α}
    (ha : set? l i a = some l') (hl : repL R' cur l) (hr : Dat.rep R' us a) (hsize : Dat.size α = sz) (hsz : Nat.blt 0 sz = true) (hu : u.cells = us.toArray)
    (hp : hs.Perm (.row t' size A m c cur :: hs')) (hx : ev e x = some (.pointer (some ((adr A).add (i.toNat * Dat.size α))))) (hy : ev e y = some u)
    (hk : K undef ⟨R, .row t' size A m c (lsplice cur (i.toNat * Dat.size α) us) :: hs'⟩) : OpJ P n W0 (.store t x y) ty e ⟨R, hs⟩ K := by
  obtain ⟨h1, h2, rfl⟩ := set?_ok ha
  have h3 := repL_len hl
  have h4 := Dat.len hr
  have h5 : 0 < Dat.size α := by rw [hsize]; simpa using hsz
  have h6 : i.toNat + 1 ≤ l.length := by omega
  have h7 : (i.toNat + 1) * Dat.size α ≤ l.length * Dat.size α := Nat.mul_le_mul_right _ h6
  rw [Nat.succ_mul] at h7
  refine OpJ.store_row hx hy hu hp rfl (fun e => ?_) (by rw [h4, hsize]) (by rw [h4, h3]; exact h7) (Dat.one hr) hk
  rw [e] at h3; simp at h3; omega
theorem set_rep {α : Type} [Dat α] {R : IM} {cur us : List Value} {l l' : List α} {a : α} (ha : set? l i a = some l') (hl : repL R cur l) (hr : Dat.rep R us a) : repL R (lsplice cur (i.toNat * Dat.size α) us) l' := by
  obtain ⟨h1, h2, rfl⟩ := set?_ok ha
  exact repL_set hl (by omega) hr
theorem set_len {α : Type} {l l' : List α} {a : α} {m : Nat} (ha : set? l i a = some l') (hn : l.length = m) : l'.length = m := by
  obtain ⟨_, _, rfl⟩ := set?_ok ha
  rw [List.length_set, hn]
theorem HoldJ.rowle {l : List Oper} {s0 : St} {done : List Nat} {KK : Env → St → Prop} {t size m c : Nat} {A : Option Addr} {cs : List Value} (hp : hs.Perm (.row t size A m c cs :: hs')) (h : m ≤ c → cs.length = m * size → HoldJ P n W0 l s0 done e ⟨R, hs⟩ KK) : HoldJ P n W0 l s0 done e ⟨R, hs⟩ KK :=
  fun f hf a w ha hw => h (hw.perm hp).row_le.1 (hw.perm hp).row_le.2 f hf a w ha hw
theorem flat_rep {α : Type} [Dat α] {enc : α → List Value} [hf : Flat α enc] {R R' : IM} : ∀ {l : List α} {cs : List Value}, repL R cs l → repL R' cs l
  | [], cs, h => h
  | x :: l, cs, ⟨c1, c2, h0, h1, h2⟩ => ⟨c1, c2, h0, hf.is.2 (hf.is.1 h1), flat_rep h2⟩
/-- The loop of the plain function goes ahead. -/
theorem CodeJ.loopM {S T : Type} {step : S → Option (S ⊕ T)} {s0 : S} {t : T} (h : FW.loopM step s0 = some t) (Inv : S → Env → St → Prop) {c : Code} {nor ret : Env → St → Prop} {exi : List (Nat × (Env → St → Prop))} {e0 : Env} {hs0 : List Chunk}
    (h0 : Inv s0 e0 ⟨R, hs0⟩) (he : SubE e0 e) (hh : SubL hs0 hs)
    (round : ∀ s e1 s1 out, Inv s e1 s1 → step s = some out → (∀ t', out = .inr t' → t' = t) →
      CodeJ P n W0 c e1 s1 ⟨fun e' s' => ∃ s2 e2 R2 hs2, out = .inl s2 ∧ Inv s2 e2 ⟨R2, hs2⟩ ∧ IM.le R2 s'.R ∧ SubE e2 e' ∧ SubL hs2 s'.hs, ret, exi⟩) : CodeJ P n W0 (.loop c) e ⟨R, hs⟩ ⟨nor, ret, exi⟩ := by
  obtain ⟨k, hk⟩ := loopM_some.1 h
  refine CodeJ.loop (fun m e s => ∃ st, Inv st e s ∧ iterM step m st = some t) k ⟨s0, h0, hk⟩ he hh ?_
  rintro m e1 s1 ⟨st, hI, hm⟩
  cases m with
  | zero => simp [iterM] at hm
  | succ m =>
    simp only [iterM] at hm
    cases hst : step st with
    | none => rw [hst] at hm; cases hm
    | some out =>
      rw [hst] at hm
      have hr := round st e1 s1 out hI hst (fun t' ht' => by rw [ht'] at hm; simpa using hm)
      intro a w ha hw
      refine wp_mono (hr a w ha hw) ?_
      rintro z a' w' ⟨e', s', ha', hs', hk'⟩
      refine ⟨e', s', ha', hs', ?_⟩
      cases z with
      | normal =>
        obtain ⟨s2, e2, R2, hs2, ho, h1, h2, h3, h4⟩ := hk'
        rw [ho] at hm
        exact ⟨m, e2, R2, hs2, Nat.lt_succ_self m, ⟨s2, h1, hm⟩, h2, h3, h4⟩
      | exit id => exact hk'
      | goto l => exact hk'
      | ret => exact hk'
      | panic ch => exact hk'
      | outgrown => exact hk'
end
end Go.Proofs.Ytdicpnnmhjgnbaa.FW
