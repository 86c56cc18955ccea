/- A region that draws its order and holds an operation that changes what is known: the quiet ones are taken first, on what stays all along. -/
import Derived.Test.YtdicpnnmhjgnbaaF7
import Derived.OrdersHeld
namespace Go.Proofs.Ytdicpnnmhjgnbaa.FW
open Go Go.RowKit
set_option linter.unusedVariables false
set_option linter.unusedSimpArgs false

theorem permm6 (x0 x1 x2 x3 x4 x5 y : Chunk) (l : List Chunk) : (x0 :: x1 :: x2 :: x3 :: x4 :: x5 :: y :: l).Perm (y :: x0 :: x1 :: x2 :: x3 :: x4 :: x5 :: l) := List.perm_middle (l₁ := [x0, x1, x2, x3, x4, x5])
theorem permm7 (x0 x1 x2 x3 x4 x5 x6 y : Chunk) (l : List Chunk) : (x0 :: x1 :: x2 :: x3 :: x4 :: x5 :: x6 :: y :: l).Perm (y :: x0 :: x1 :: x2 :: x3 :: x4 :: x5 :: x6 :: l) := List.perm_middle (l₁ := [x0, x1, x2, x3, x4, x5, x6])
theorem permm8 (x0 x1 x2 x3 x4 x5 x6 x7 y : Chunk) (l : List Chunk) : (x0 :: x1 :: x2 :: x3 :: x4 :: x5 :: x6 :: x7 :: y :: l).Perm (y :: x0 :: x1 :: x2 :: x3 :: x4 :: x5 :: x6 :: x7 :: l) := List.perm_middle (l₁ := [x0, x1, x2, x3, x4, x5, x6, x7])
theorem permm9 (x0 x1 x2 x3 x4 x5 x6 x7 x8 y : Chunk) (l : List Chunk) : (x0 :: x1 :: x2 :: x3 :: x4 :: x5 :: x6 :: x7 :: x8 :: y :: l).Perm (y :: x0 :: x1 :: x2 :: x3 :: x4 :: x5 :: x6 :: x7 :: x8 :: l) := List.perm_middle (l₁ := [x0, x1, x2, x3, x4, x5, x6, x7, x8])
theorem Split.whole (l : List Chunk) : Split l l [] := by unfold Split; rw [List.append_nil]
def StLe (s0 s : St) : Prop := IM.le s0.R s.R ∧ SubL s0.hs s.hs
theorem StLe.sat {W0 : World} {s0 s : St} {w : World} (h : StLe s0 s) (hw : Sat W0 s w) : Sat W0 s0 w :=
  Sat.sub (R := s0.R) (hs := s.hs) (Sat.le (R' := s.R) hw h.1) h.2
def upTo (m : Nat) (l : List Nat) : Array Bool := l.foldr (fun i a => a.setIfInBounds i true) (Array.replicate m false)
def nowB (l : List Oper) (done : List Nat) (i : Nat) : Bool :=
  Nat.blt done.length l.length && (Region.noSelect l.toArray && Region.free .any l.toArray (upTo l.length done) i && (Region.ready .any l.toArray (upTo l.length done)).contains i)
def onlyB (l : List Oper) (done : List Nat) (i : Nat) : Bool := Nat.blt done.length l.length && Region.ready .any l.toArray (upTo l.length done) == [i]
def endB (l : List Oper) (done : List Nat) : Bool := (Region.ready .any l.toArray (upTo l.length done)).isEmpty
def QK (n : Nat) (W0 : World) (K : Env → St → Prop) : Exit → Act → World → Prop := fun x a w => x = .normal ∧ ∃ e s, Sub n e a ∧ Sat W0 s w ∧ K e s
def HoldJ (P : Program) (n : Nat) (W0 : World) (l : List Oper) (s0 : St) (done : List Nat) (e : Env) (s : St) (K : Env → St → Prop) : Prop :=
  ∀ f, l.length ≤ f + done.length → ∀ a w, Sub n e a → Sat W0 s w → wpAnyH P .any l.toArray (QK n W0 K) (Sat W0 s0) f (upTo l.length done) a w
section
variable {P : Program} {n : Nat} {W0 : World} {l : List Oper} {s0 s : St} {done : List Nat} {e : Env} {K nor ret : Env → St → Prop} {exi : List (Nat × (Env → St → Prop))}
theorem HoldJ.start {id : Nat} {R : IM} {hs : List Chunk} (hs0 : List Chunk) (hm : P.follows .mixedOrders = true) (h : HoldJ P n W0 l ⟨R, hs0⟩ [] e ⟨R, hs⟩ nor) :
    CodeJ P n W0 (.region id l.toArray true) e ⟨R, hs⟩ ⟨nor, ret, exi⟩ := by
  intro a w ha hw
  refine wp_mono (wp_region_held (Q := QK n W0 nor) (S := Sat W0 ⟨R, hs0⟩) hm ?_) ?_
  · exact h _ (Nat.le_refl _) a _ ha (hw.drawn _)
  · rintro x a' w' ⟨rfl, e', s', h1, h2, h3⟩
    exact ⟨e', s', h1, h2, h3⟩
theorem HoldJ.take (i : Nat) {d : Nat} {op : Op} {ty : TypeId} {pos : String} {af : Array Edge} {v : Value} (hi : l[i]? = some ⟨some d, op, ty, pos, af, none⟩) (hB : nowB l done i = true) (hd : Nat.blt d n = true)
    (hp : OpP P n W0 op ty e s0 v) (hst : StLe s0 s) (h : HoldJ P n W0 l s0 (i :: done) ((d, v) :: e) s K) : HoldJ P n W0 l s0 done e s K := by
  intro f hf a w ha hw
  simp only [nowB, Bool.and_eq_true] at hB
  obtain ⟨hlt, hB⟩ := hB
  have hlt : done.length < l.length := by simpa using hlt
  obtain ⟨f, rfl⟩ : ∃ f', f = f' + 1 := ⟨f - 1, by omega⟩
  refine wpAnyH_take (i := i) (oi := ⟨some d, op, ty, pos, af, none⟩) (v := v) (by simpa using hi) hB.1.1 hB.1.2 hB.2 (fun c a w hq => by cases hq.1) (.inl ⟨by simp [Region.wanted], fun w hS => hp _ rfl rfl a w ha hS⟩) (hst.sat hw) ?_
  exact h _ (by simp only [List.length_cons]; omega) _ w (ha.put hd v) hw
theorem HoldJ.take_y (i : Nat) {d j dj : Nat} {want b : Bool} {o : Oper} {op : Op} {ty : TypeId} {pos : String} {af : Array Edge} {v : Value} (hi : l[i]? = some ⟨some d, op, ty, pos, af, some (j, want)⟩) (hB : nowB l done i = true) (hd : Nat.blt d n = true)
    (ho : l[j]? = some o) (hdj : o.dst = some dj) (hb : eget e dj = some (.bool b)) (hw : b = want)
    (hp : OpP P n W0 op ty e s0 v) (hst : StLe s0 s) (h : HoldJ P n W0 l s0 (i :: done) ((d, v) :: e) s K) : HoldJ P n W0 l s0 done e s K := by
  intro f hf a w ha hsat
  simp only [nowB, Bool.and_eq_true] at hB
  obtain ⟨hlt, hB⟩ := hB
  have hlt : done.length < l.length := by simpa using hlt
  obtain ⟨f, rfl⟩ : ∃ f', f = f' + 1 := ⟨f - 1, by omega⟩
  have hy : yielded l.toArray a.tmps j = .some b := by
    have h1 : l.toArray[j]? = .some o := by simpa using ho
    have h2 := ha.get _ _ hb
    simp [yielded, h1, hdj, h2]
  refine wpAnyH_take (i := i) (oi := ⟨some d, op, ty, pos, af, some (j, want)⟩) (v := v) (by simpa using hi) hB.1.1 hB.1.2 hB.2 (fun c a w hq => by cases hq.1) (.inl ⟨by simp [Region.wanted, hy, hw], fun w hS => hp _ rfl rfl a w ha hS⟩) (hst.sat hsat) ?_
  exact h _ (by simp only [List.length_cons]; omega) _ w (ha.put hd v) hsat
theorem HoldJ.take_n (i : Nat) {d j dj : Nat} {want b : Bool} {o : Oper} {op : Op} {ty : TypeId} {pos : String} {af : Array Edge} (hi : l[i]? = some ⟨some d, op, ty, pos, af, some (j, want)⟩) (hB : nowB l done i = true) (hd : Nat.blt d n = true)
    (ho : l[j]? = some o) (hdj : o.dst = some dj) (hb : eget e dj = some (.bool b)) (hw : b = !want)
    (hst : StLe s0 s) (h : HoldJ P n W0 l s0 (i :: done) ((d, undef) :: e) s K) : HoldJ P n W0 l s0 done e s K := by
  intro f hf a w ha hsat
  simp only [nowB, Bool.and_eq_true] at hB
  obtain ⟨hlt, hB⟩ := hB
  have hlt : done.length < l.length := by simpa using hlt
  obtain ⟨f, rfl⟩ : ∃ f', f = f' + 1 := ⟨f - 1, by omega⟩
  have hy : yielded l.toArray a.tmps j = .some b := by
    have h1 : l.toArray[j]? = .some o := by simpa using ho
    have h2 := ha.get _ _ hb
    simp [yielded, h1, hdj, h2]
  refine wpAnyH_take (i := i) (oi := ⟨some d, op, ty, pos, af, some (j, want)⟩) (v := undef) (by simpa using hi) hB.1.1 hB.1.2 hB.2 (fun c a w hq => by cases hq.1) (.inr ⟨by cases want <;> simp_all [Region.wanted], rfl⟩) (hst.sat hsat) ?_
  exact h _ (by simp only [List.length_cons]; omega) _ w (ha.put hd undef) hsat
theorem HoldJ.step (i : Nat) {d : Nat} {op : Op} {ty : TypeId} {pos : String} {af : Array Edge} (hi : l[i]? = some ⟨some d, op, ty, pos, af, none⟩) (hB : onlyB l done i = true) (hd : Nat.blt d n = true)
    (h : OpJ P n W0 op ty e s fun v s' => StLe s0 s' ∧ HoldJ P n W0 l s0 (i :: done) ((d, v) :: e) s' K) : HoldJ P n W0 l s0 done e s K := by
  intro f hf a w ha hw
  simp only [onlyB, Bool.and_eq_true, beq_iff_eq] at hB
  obtain ⟨hlt, hB⟩ := hB
  have hlt : done.length < l.length := by simpa using hlt
  obtain ⟨f, rfl⟩ : ∃ f', f = f' + 1 := ⟨f - 1, by omega⟩
  refine wpAnyH_all hB (by simp) fun j hj => ?_
  obtain rfl : j = i := by simpa using hj
  have hi' : l.toArray[j]? = some ⟨some d, op, ty, pos, af, none⟩ := by simpa using hi
  unfold wpOp
  simp only [hi']
  rw [if_pos (by simp [Region.wanted])]
  exact .inl (h _ rfl rfl a w ha hw _ _ fun v s' w' hs' hk => ⟨hk.1.sat hs', hk.2 _ (by simp only [List.length_cons]; omega) _ w' (ha.put hd v) hs'⟩)
theorem HoldJ.step_act (i : Nat) {op : Op} {ty : TypeId} {pos : String} {af : Array Edge} (hi : l[i]? = some ⟨none, op, ty, pos, af, none⟩) (hB : onlyB l done i = true)
    (h : OpJ P n W0 op ty e s fun v s' => StLe s0 s' ∧ HoldJ P n W0 l s0 (i :: done) e s' K) : HoldJ P n W0 l s0 done e s K := by
  intro f hf a w ha hw
  simp only [onlyB, Bool.and_eq_true, beq_iff_eq] at hB
  obtain ⟨hlt, hB⟩ := hB
  have hlt : done.length < l.length := by simpa using hlt
  obtain ⟨f, rfl⟩ : ∃ f', f = f' + 1 := ⟨f - 1, by omega⟩
  refine wpAnyH_all hB (by simp) fun j hj => ?_
  obtain rfl : j = i := by simpa using hj
  have hi' : l.toArray[j]? = some ⟨none, op, ty, pos, af, none⟩ := by simpa using hi
  unfold wpOp
  simp only [hi']
  rw [if_pos (by simp [Region.wanted])]
  exact .inl (h _ rfl rfl a w ha hw _ _ fun v s' w' hs' hk => ⟨hk.1.sat hs', hk.2 _ (by simp only [List.length_cons]; omega) _ w' (ha.put_none v) hs'⟩)
theorem HoldJ.step_y (i : Nat) {d j dj : Nat} {want b : Bool} {o : Oper} {op : Op} {ty : TypeId} {pos : String} {af : Array Edge} (hi : l[i]? = some ⟨some d, op, ty, pos, af, some (j, want)⟩) (hB : onlyB l done i = true) (hd : Nat.blt d n = true)
    (ho : l[j]? = some o) (hdj : o.dst = some dj) (hb : eget e dj = some (.bool b)) (hw : b = want)
    (h : OpJ P n W0 op ty e s fun v s' => StLe s0 s' ∧ HoldJ P n W0 l s0 (i :: done) ((d, v) :: e) s' K) : HoldJ P n W0 l s0 done e s K := by
  intro f hf a w ha hsat
  simp only [onlyB, Bool.and_eq_true, beq_iff_eq] at hB
  obtain ⟨hlt, hB⟩ := hB
  have hlt : done.length < l.length := by simpa using hlt
  obtain ⟨f, rfl⟩ : ∃ f', f = f' + 1 := ⟨f - 1, by omega⟩
  refine wpAnyH_all hB (by simp) fun i' hj => ?_
  obtain rfl : i' = i := by simpa using hj
  have hi' : l.toArray[i']? = some ⟨some d, op, ty, pos, af, some (j, want)⟩ := by simpa using hi
  have hy : yielded l.toArray a.tmps j = .some b := by
    have h1 : l.toArray[j]? = .some o := by simpa using ho
    have h2 := ha.get _ _ hb
    simp [yielded, h1, hdj, h2]
  unfold wpOp
  simp only [hi']
  rw [if_pos (by simp [Region.wanted, hy, hw])]
  exact .inl (h _ rfl rfl a w ha hsat _ _ fun v s' w' hs' hk => ⟨hk.1.sat hs', hk.2 _ (by simp only [List.length_cons]; omega) _ w' (ha.put hd v) hs'⟩)
theorem HoldJ.fin (hB : endB l done = true) (h : K e s) : HoldJ P n W0 l s0 done e s K := by
  intro f hf a w ha hw
  simp only [endB, List.isEmpty_iff] at hB
  exact wpAnyH_done hB ⟨rfl, e, s, ha, hw, h⟩ f
end
end Go.Proofs.Ytdicpnnmhjgnbaa.FW
