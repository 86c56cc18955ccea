/- The ground of the walks: what a frame and a world are known to hold, told as lists; judgements on code, and their structural rules. -/
import Derived.WalkKit
import Derived.Deep.LoopGhost
import Derived.Deep.Quiet
namespace Go.Proofs.Ytdicpnnmhjgnbaa.FW
open Go Go.RowKit
set_option linter.unusedVariables false
set_option linter.unusedSimpArgs false

/-! ### What is known of a frame -/
abbrev Env := List (Nat × Value)
def eget : Env → Nat → Option Value
  | [], _ => none
  | (s, v) :: r, t => match Nat.beq s t with
    | true => some v
    | false => eget r t
def ev (e : Env) : Operand → Option Value
  | .tmp t => eget e t
  | .const v => some v
  | .global g => some (.pointer (some ⟨g, 0, none⟩))
  | .func f => some (.func (.func f) #[] #[])
structure Sub (n : Nat) (e : Env) (a : Act) : Prop where
  defers : a.defers = []
  size : a.tmps.size = n
  get : ∀ t v, eget e t = some v → a.tmps[t]? = some v
theorem Sub.ev {n : Nat} {e : Env} {a : Act} (h : Sub n e a) {x : Operand} {v : Value} (hx : ev e x = some v) : a.eval x = v := by
  cases x with
  | tmp t =>
    have := h.get t v hx
    simp [Act.eval, this]
  | const c => simpa [FW.ev, Act.eval] using hx
  | global g => simpa [FW.ev, Act.eval] using hx
  | func f => simpa [FW.ev, Act.eval] using hx
theorem Sub.put {n : Nat} {e : Env} {a : Act} (h : Sub n e a) {d : Nat} (hd : Nat.blt d n = true) (v : Value) : Sub n ((d, v) :: e) (a.put (some d) v) := by
  refine ⟨h.defers, by simp [Act.put, h.size], fun t u ht => ?_⟩
  have hdn : d < n := by simpa using hd
  simp only [eget] at ht
  by_cases hdt : d = t
  · subst hdt
    simp only [Nat.beq_refl] at ht
    have : v = u := by simpa using ht
    subst this
    simp [Act.put, h.size, hdn]
  · have hb : Nat.beq d t = false := by
      cases hb : Nat.beq d t with
      | false => rfl
      | true => exact absurd (Nat.eq_of_beq_eq_true hb) hdt
    rw [hb] at ht
    have := h.get t u ht
    simp only [Act.put]
    rw [Array.getElem?_setIfInBounds_ne hdt]
    exact this
theorem Sub.put_none {n : Nat} {e : Env} {a : Act} (h : Sub n e a) (v : Value) : Sub n e (a.put none v) := h
/-- What is known of fewer slots. -/
def SubE : Env → Env → Prop
  | [], _ => True
  | p :: r, e => eget e p.1 = some p.2 ∧ SubE r e
theorem SubE.nil (e : Env) : SubE [] e := trivial
theorem SubE.cons {t : Nat} {v : Value} {r e : Env} (h : eget e t = some v) (k : SubE r e) : SubE ((t, v) :: r) e := ⟨h, k⟩
theorem SubE.get {e1 e : Env} (h : SubE e1 e) : ∀ t v, eget e1 t = some v → eget e t = some v := by
  induction e1 with
  | nil => intro t v hv; simp [eget] at hv
  | cons p r ih =>
    obtain ⟨p1, p2⟩ := p
    intro t v hv
    simp only [eget] at hv
    cases hb : Nat.beq p1 t with
    | true =>
      rw [hb] at hv
      have := Nat.eq_of_beq_eq_true hb
      subst this
      have : p2 = v := by simpa using hv
      subst this
      exact h.1
    | false =>
      rw [hb] at hv
      exact ih h.2 t v hv
theorem Sub.weaken {n : Nat} {e1 e : Env} {a : Act} (h : Sub n e a) (k : SubE e1 e) : Sub n e1 a := ⟨h.defers, h.size, fun t v hv => h.get t v (k.get t v hv)⟩

/-! ### What is known of a world -/
abbrev IM := Nat → Option Obj
def IM.or (R D : IM) : IM := fun b => (R b).or (D b)
def IM.le (R R' : IM) : Prop := ∀ b o, R b = some o → R' b = some o
def IM.dis (R D : IM) : Prop := ∀ b o, D b = some o → R b = none
def IM.nil : IM := fun _ => none
theorem IM.le_refl (R : IM) : IM.le R R := fun _ _ h => h
theorem IM.le_trans {R R' R'' : IM} (h : IM.le R R') (k : IM.le R' R'') : IM.le R R'' := fun b o hb => k b o (h b o hb)
theorem IM.le_or (R D : IM) : IM.le R (IM.or R D) := fun b o hb => by simp [IM.or, hb]
theorem IM.le_or_right {R D : IM} (h : IM.dis R D) : IM.le D (IM.or R D) := fun b o hb => by simp [IM.or, h b o hb, hb]
theorem IM.le_nil (R : IM) : IM.le IM.nil R := fun b o hb => by simp [IM.nil] at hb
theorem IM.dis_nil (R : IM) : IM.dis R IM.nil := fun b o hb => by simp [IM.nil] at hb
theorem IM.dis_mono {R R' D : IM} (h : IM.dis R' D) (k : IM.le R R') : IM.dis R D := fun b o hb => by
  cases hr : R b with
  | none => rfl
  | some u => have := k b u hr; rw [h b o hb] at this; cases this
theorem IM.dis_or {R D D' : IM} (h : IM.dis R D) (k : IM.dis R D') : IM.dis R (IM.or D D') := fun b o hb => by
  simp only [IM.or] at hb
  cases hd : D b with
  | some u => exact h b u hd
  | none => rw [hd] at hb; exact k b o (by simpa using hb)
theorem IM.or_le {R D R' : IM} (h : IM.le R R') (k : IM.le D R') : IM.le (IM.or R D) R' := fun b o hb => by
  simp only [IM.or] at hb
  cases hd : R b with
  | some u => rw [hd] at hb; simp at hb; subst hb; exact h b u hd
  | none => rw [hd] at hb; exact k b o (by simpa using hb)
def IM.cell? (R : IM) (a : Addr) : Option Value :=
  match R a.block with
  | some (.cells c _ _) => if a.spot.isSome then none else c[a.off]?
  | _ => none
theorem IM.cell_mono {R R' : IM} (h : IM.le R R') {a : Addr} {v : Value} (hc : R.cell? a = some v) : R'.cell? a = some v := by
  unfold IM.cell? at *
  cases hr : R a.block with
  | none => rw [hr] at hc; cases hc
  | some o => rw [hr] at hc; rw [h _ _ hr]; exact hc

inductive Chunk where
  /-- A block of the call's own, written out. -/
  | blk (g : Nat) (cs : List Value) (t : TypeId)
  /-- A row of the call's own, to which may be appended. -/
  | row (t : TypeId) (size : Nat) (A : Option Addr) (n c : Nat) (cs : List Value)
  /-- Any object of the call's own. -/
  | obj (g : Nat) (o : Obj)
def Chunk.blocks : Chunk → List Nat
  | .blk g _ _ => [g]
  | .row _ _ A _ _ _ => match A with
    | some a => [a.block]
    | none => []
  | .obj g _ => [g]
def Chunk.ok (w : World) : Chunk → Prop
  | .blk g cs t => w.heap[g]? = some (.cells cs.toArray t (0, 0))
  | .row t size A n c cs => w.ownsRow 0 t size (.slice A n c) n cs
  | .obj g o => w.heap[g]? = some o
def Own (hs : List Chunk) : List Nat := hs.flatMap Chunk.blocks
structure St where
  R : IM
  hs : List Chunk
structure Sat (W0 : World) (s : St) (w : World) : Prop where
  os : w.os = W0.os
  tape : w.tape = W0.tape
  output : w.output = W0.output
  size : W0.heap.size ≤ w.heap.size
  im : ∀ b o, s.R b = some o → w.heap[b]? = some o
  own : ∀ c ∈ s.hs, c.ok w
  nodup : (Own s.hs).Nodup
  apart : ∀ b ∈ Own s.hs, s.R b = none
theorem Chunk.ok_lt {w : World} {c : Chunk} (h : c.ok w) : ∀ b ∈ c.blocks, b < w.heap.size := by
  intro b hb
  cases c with
  | blk g cs t =>
    simp only [Chunk.blocks, List.mem_singleton] at hb
    subst hb
    exact (Array.getElem?_eq_some_iff.1 h).1
  | obj g o =>
    simp only [Chunk.blocks, List.mem_singleton] at hb
    subst hb
    exact (Array.getElem?_eq_some_iff.1 h).1
  | row t size A n c cs =>
    rcases h.2 with ⟨h1, _⟩ | ⟨g, cap, cur, h1, _, h2, _⟩
    · simp only [Value.slice.injEq] at h1
      obtain ⟨rfl, _, _⟩ := h1
      simp [Chunk.blocks] at hb
    · simp only [Value.slice.injEq] at h1
      obtain ⟨rfl, _, _⟩ := h1
      simp only [Chunk.blocks, List.mem_singleton] at hb
      subst hb
      exact (Array.getElem?_eq_some_iff.1 h2).1
theorem Chunk.ok_same {w w' : World} {c : Chunk} (h : c.ok w) (hb : ∀ b ∈ c.blocks, w'.heap[b]? = w.heap[b]?) : c.ok w' := by
  cases c with
  | blk g cs t => exact (hb g (by simp [Chunk.blocks])).trans h
  | obj g o => exact (hb g (by simp [Chunk.blocks])).trans h
  | row t size A n c cs =>
    refine ⟨h.1, ?_⟩
    rcases h.2 with h1 | ⟨g, cap, cur, h1, h0, h2, rest⟩
    · exact .inl h1
    · refine .inr ⟨g, cap, cur, h1, h0, ?_, rest⟩
      simp only [Value.slice.injEq] at h1
      obtain ⟨rfl, _, _⟩ := h1
      exact (hb g (by simp [Chunk.blocks])).trans h2
theorem Own_cons (c : Chunk) (hs : List Chunk) : Own (c :: hs) = c.blocks ++ Own hs := rfl
theorem Own_append (hs hs' : List Chunk) : Own (hs ++ hs') = Own hs ++ Own hs' := by simp [Own]
theorem mem_Own {hs : List Chunk} {b : Nat} : b ∈ Own hs ↔ ∃ c ∈ hs, b ∈ c.blocks := by simp [Own]
theorem Own_perm {hs hs' : List Chunk} (h : hs.Perm hs') : (Own hs).Perm (Own hs') := h.flatMap_right _
theorem Sat.cell {W0 : World} {s : St} {w : World} (h : Sat W0 s w) {a : Addr} {v : Value} (hc : s.R.cell? a = some v) : w.cell? a = some v := by
  unfold IM.cell? at hc
  cases hr : s.R a.block with
  | none => rw [hr] at hc; cases hc
  | some o =>
    rw [hr] at hc
    have := h.im _ _ hr
    unfold World.cell?
    rw [this]
    exact hc
/-- The head chunk turned into others, all else as it was. -/
theorem Sat.turn {W0 : World} {R : IM} {c : Chunk} {cs' hs : List Chunk} {w w' : World} (h : Sat W0 ⟨R, c :: hs⟩ w)
    (hos : w'.os = w.os) (htape : w'.tape = w.tape) (hout : w'.output = w.output) (hsz : w.heap.size ≤ w'.heap.size)
    (hkeep : ∀ b, b < w.heap.size → b ∉ c.blocks → w'.heap[b]? = w.heap[b]?)
    (hown : ∀ c' ∈ cs', c'.ok w')
    (hnd : (Own cs').Nodup)
    (hnew : ∀ b ∈ Own cs', b ∈ c.blocks ∨ w.heap.size ≤ b) : Sat W0 ⟨R, cs' ++ hs⟩ w' := by
  have hnd0 := h.nodup
  simp only [Own_cons, List.nodup_append] at hnd0
  obtain ⟨hn1, hn2, hn3⟩ := hnd0
  have hrest : ∀ b ∈ Own hs, b < w.heap.size := fun b hb => by
    obtain ⟨c1, hc1, hb1⟩ := mem_Own.1 hb
    exact Chunk.ok_lt (h.own c1 (List.mem_cons_of_mem _ hc1)) b hb1
  refine ⟨hos.trans h.os, htape.trans h.tape, hout.trans h.output, Nat.le_trans h.size hsz, fun b o hb => ?_, fun c1 hc1 => ?_, ?_, fun b hb => ?_⟩
  · have h1 := h.im b o hb
    rw [hkeep b (Array.getElem?_eq_some_iff.1 h1).1 (fun hbc => ?_)]
    · exact h1
    · have := h.apart b (by rw [Own_cons]; exact List.mem_append_left _ hbc)
      rw [hb] at this
      cases this
  · rcases List.mem_append.1 hc1 with h1 | h1
    · exact hown c1 h1
    · refine Chunk.ok_same (h.own c1 (List.mem_cons_of_mem _ h1)) fun b hb => ?_
      have hbo : b ∈ Own hs := mem_Own.2 ⟨c1, h1, hb⟩
      exact hkeep b (hrest b hbo) (fun hbc => hn3 b hbc b hbo rfl)
  · show (Own (cs' ++ hs)).Nodup
    rw [Own_append, List.nodup_append]
    refine ⟨hnd, hn2, fun b hb b' hb' e => ?_⟩
    subst e
    rcases hnew b hb with h1 | h1
    · exact hn3 b h1 b hb' rfl
    · exact absurd (hrest b hb') (by omega)
  · have hb : b ∈ Own cs' ++ Own hs := by rw [← Own_append]; exact hb
    rcases List.mem_append.1 hb with h1 | h1
    · rcases hnew b h1 with h2 | h2
      · exact h.apart b (by rw [Own_cons]; exact List.mem_append_left _ h2)
      · cases hr : R b with
        | none => exact hr
        | some o => exact absurd (Array.getElem?_eq_some_iff.1 (h.im b o hr)).1 (by omega)
    · exact h.apart b (by rw [Own_cons]; exact List.mem_append_right _ h1)
/-- New chunks, all else as it was. -/
theorem Sat.more {W0 : World} {R : IM} {cs' hs : List Chunk} {w w' : World} (h : Sat W0 ⟨R, hs⟩ w)
    (hos : w'.os = w.os) (htape : w'.tape = w.tape) (hout : w'.output = w.output) (hsz : w.heap.size ≤ w'.heap.size)
    (hkeep : ∀ b, b < w.heap.size → w'.heap[b]? = w.heap[b]?)
    (hown : ∀ c' ∈ cs', c'.ok w')
    (hnd : (Own cs').Nodup)
    (hnew : ∀ b ∈ Own cs', w.heap.size ≤ b) : Sat W0 ⟨R, cs' ++ hs⟩ w' := by
  have h' : Sat W0 ⟨R, .row 0 1 none 0 0 [] :: hs⟩ w :=
    ⟨h.os, h.tape, h.output, h.size, h.im, fun c hc => by
      rcases List.mem_cons.1 hc with rfl | hc
      · exact ⟨by simp, .inl ⟨rfl, rfl⟩⟩
      · exact h.own c hc, by simpa [Own_cons, Chunk.blocks] using h.nodup, fun b hb => h.apart b (by simpa [Own_cons, Chunk.blocks] using hb)⟩
  exact h'.turn hos htape hout hsz (fun b hb _ => hkeep b hb) hown hnd (fun b hb => .inr (hnew b hb))
theorem Sat.perm {W0 : World} {R : IM} {hs hs' : List Chunk} {w : World} (h : Sat W0 ⟨R, hs⟩ w) (hp : hs.Perm hs') : Sat W0 ⟨R, hs'⟩ w :=
  ⟨h.os, h.tape, h.output, h.size, h.im, fun c hc => h.own c (hp.mem_iff.2 hc), (Own_perm hp).nodup_iff.1 h.nodup, fun b hb => h.apart b ((Own_perm hp).mem_iff.2 hb)⟩
theorem Sat.drop {W0 : World} {R : IM} {hs hs' : List Chunk} {w : World} (h : Sat W0 ⟨R, hs ++ hs'⟩ w) : Sat W0 ⟨R, hs⟩ w := by
  have hnd := h.nodup
  simp only [Own_append, List.nodup_append] at hnd
  exact ⟨h.os, h.tape, h.output, h.size, h.im, fun c hc => h.own c (List.mem_append_left _ hc), hnd.1, fun b hb => h.apart b (by rw [Own_append]; exact List.mem_append_left _ hb)⟩
theorem Sat.le {W0 : World} {R R' : IM} {hs : List Chunk} {w : World} (h : Sat W0 ⟨R', hs⟩ w) (hr : IM.le R R') : Sat W0 ⟨R, hs⟩ w :=
  ⟨h.os, h.tape, h.output, h.size, fun b o hb => h.im b o (hr b o hb), h.own, h.nodup, fun b hb => by
    cases hrb : R b with
    | none => exact hrb
    | some o => have h1 := hr b o hrb; have h2 : R' b = Option.none := h.apart b hb; rw [h2] at h1; cases h1⟩
theorem Sat.drew {W0 : World} {s : St} {w : World} (h : Sat W0 s w) : Sat W0 s w.drew :=
  ⟨h.os, h.tape, h.output, h.size, h.im, fun c hc => Chunk.ok_same (h.own c hc) fun _ _ => rfl, h.nodup, h.apart⟩
theorem Sat.drawn {W0 : World} {s : St} {w : World} (h : Sat W0 s w) (n : Nat) : Sat W0 s { w with drawn := n } :=
  ⟨h.os, h.tape, h.output, h.size, h.im, fun c hc => Chunk.ok_same (h.own c hc) fun _ _ => rfl, h.nodup, h.apart⟩

/-! ### Fewer chunks -/
inductive SubL : List Chunk → List Chunk → Prop
  | nil (l : List Chunk) : SubL [] l
  | cons {c : Chunk} {r l l' : List Chunk} (h : l.Perm (c :: l')) (k : SubL r l') : SubL (c :: r) l
theorem SubL.perm {r l : List Chunk} (h : SubL r l) : ∃ l', l.Perm (r ++ l') := by
  induction h with
  | nil l => exact ⟨l, List.Perm.refl _⟩
  | cons h k ih =>
    obtain ⟨l', hl⟩ := ih
    exact ⟨l', h.trans (List.Perm.cons _ hl)⟩
theorem Sat.sub {W0 : World} {R : IM} {hs hs' : List Chunk} {w : World} (h : Sat W0 ⟨R, hs⟩ w) (hp : SubL hs' hs) : Sat W0 ⟨R, hs'⟩ w := by
  obtain ⟨l, hl⟩ := hp.perm
  exact (h.perm hl).drop
section
variable {c c0 c1 c2 c3 c4 c5 c6 c7 : Chunk} {r l : List Chunk}
theorem SubL.p0 (k : SubL r l) : SubL (c :: r) (c :: l) := .cons (.refl _) k
theorem SubL.p1 (k : SubL r (c0 :: l)) : SubL (c :: r) (c0 :: c :: l) := .cons (.swap _ _ _) k
theorem SubL.p2 (k : SubL r (c0 :: c1 :: l)) : SubL (c :: r) (c0 :: c1 :: c :: l) := .cons ((List.Perm.cons _ (.swap _ _ _)).trans (.swap _ _ _)) k
theorem SubL.p3 (k : SubL r (c0 :: c1 :: c2 :: l)) : SubL (c :: r) (c0 :: c1 :: c2 :: c :: l) := .cons (List.perm_middle (l₁ := [c0, c1, c2])) k
theorem SubL.p4 (k : SubL r (c0 :: c1 :: c2 :: c3 :: l)) : SubL (c :: r) (c0 :: c1 :: c2 :: c3 :: c :: l) := .cons (List.perm_middle (l₁ := [c0, c1, c2, c3])) k
theorem SubL.p5 (k : SubL r (c0 :: c1 :: c2 :: c3 :: c4 :: l)) : SubL (c :: r) (c0 :: c1 :: c2 :: c3 :: c4 :: c :: l) := .cons (List.perm_middle (l₁ := [c0, c1, c2, c3, c4])) k
theorem SubL.p6 (k : SubL r (c0 :: c1 :: c2 :: c3 :: c4 :: c5 :: l)) : SubL (c :: r) (c0 :: c1 :: c2 :: c3 :: c4 :: c5 :: c :: l) := .cons (List.perm_middle (l₁ := [c0, c1, c2, c3, c4, c5])) k
theorem SubL.p7 (k : SubL r (c0 :: c1 :: c2 :: c3 :: c4 :: c5 :: c6 :: l)) : SubL (c :: r) (c0 :: c1 :: c2 :: c3 :: c4 :: c5 :: c6 :: c :: l) := .cons (List.perm_middle (l₁ := [c0, c1, c2, c3, c4, c5, c6])) k
end

/-! ### Judgements -/
structure Kont where
  nor : Env → St → Prop
  ret : Env → St → Prop
  exi : List (Nat × (Env → St → Prop))
def xget : List (Nat × (Env → St → Prop)) → Nat → Option (Env → St → Prop)
  | [], _ => none
  | (s, v) :: r, t => match Nat.beq s t with
    | true => some v
    | false => xget r t
def Kont.at (k : Kont) : Exit → Env → St → Prop
  | .normal, e, s => k.nor e s
  | .ret, e, s => k.ret e s
  | .exit id, e, s => ∃ J, xget k.exi id = some J ∧ J e s
  | _, _, _ => False
/-- From whatever is known, the code comes to one of the ends. -/
def CodeJ (P : Program) (n : Nat) (W0 : World) (c : Code) (e : Env) (s : St) (k : Kont) : Prop :=
  ∀ a w, Sub n e a → Sat W0 s w → c.wp P (fun x a' w' => ∃ e' s', Sub n e' a' ∧ Sat W0 s' w' ∧ k.at x e' s') a w
def OpsJ (P : Program) (n : Nat) (W0 : World) (ops : Array Oper) (l : List Oper) (e : Env) (s : St) (K : Env → St → Prop) : Prop :=
  ∀ a w, Sub n e a → Sat W0 s w → ∀ Q : Exit → Act → World → Prop, (∀ a' w' e' s', Sub n e' a' → Sat W0 s' w' → K e' s' → Q .normal a' w') → wpList P ops Q l a w
def OpJ (P : Program) (n : Nat) (W0 : World) (op : Op) (ty : TypeId) (e : Env) (s : St) (K : Value → St → Prop) : Prop :=
  ∀ o : Oper, o.op = op → o.type = ty → ∀ a w, Sub n e a → Sat W0 s w → ∀ (next : Act → World → Prop) (Q : Exit → Act → World → Prop), (∀ v s' w', Sat W0 s' w' → K v s' → next (a.put o.dst v) w') → o.wp P a w next Q
def CallJ (P : Program) (f : FuncId) (args : Array Value) (s : St) (post : Value → IM → List Chunk → Prop) : Prop :=
  ∀ w, Sat w s w → Calls P f args w fun e w' => ∃ v D hs', e = .returned v ∧ Sat w ⟨s.R.or D, hs'⟩ w' ∧ IM.dis s.R D ∧ post v D hs'

section
variable {P : Program} {n : Nat} {W0 : World} {ops : Array Oper} {l rest : List Oper} {e : Env} {s : St} {K : Env → St → Prop}

theorem OpsJ.nil (h : K e s) : OpsJ P n W0 ops [] e s K := fun a w ha hw Q hQ => wpList_nil (hQ a w e s ha hw h)
theorem OpsJ.put {d : Nat} {op : Op} {ty : TypeId} {pos : String} {af : Array Edge} (hd : Nat.blt d n = true)
    (h : OpJ P n W0 op ty e s fun v s' => OpsJ P n W0 ops rest ((d, v) :: e) s' K) : OpsJ P n W0 ops (⟨some d, op, ty, pos, af, none⟩ :: rest) e s K :=
  fun a w ha hw Q hQ => wpList_plain rfl fun K' hK => h _ rfl rfl a w ha hw K' Q fun v s' w' hs' hk => hK _ _ (hk _ _ (ha.put hd v) hs' Q hQ)
theorem OpsJ.act {op : Op} {ty : TypeId} {pos : String} {af : Array Edge}
    (h : OpJ P n W0 op ty e s fun _ s' => OpsJ P n W0 ops rest e s' K) : OpsJ P n W0 ops (⟨none, op, ty, pos, af, none⟩ :: rest) e s K :=
  fun a w ha hw Q hQ => wpList_plain rfl fun K' hK => h _ rfl rfl a w ha hw K' Q fun v s' w' hs' hk => hK _ _ (hk _ _ (ha.put_none v) hs' Q hQ)
/-- A guarded operation: the guard's slot holds a Bool. -/
theorem OpsJ.guard {d : Nat} {op : Op} {ty : TypeId} {pos : String} {af : Array Edge} {j : Nat} {want b : Bool} {o : Oper} {dj : Nat} (hd : Nat.blt d n = true)
    (ho : ops.toList[j]? = some o) (hdj : o.dst = some dj) (hb : eget e dj = some (.bool b))
    (h : b = want → OpsJ P n W0 ops (⟨some d, op, ty, pos, af, none⟩ :: rest) e s K)
    (h' : b = !want → OpsJ P n W0 ops rest ((d, undef) :: e) s K) : OpsJ P n W0 ops (⟨some d, op, ty, pos, af, some (j, want)⟩ :: rest) e s K := by
  intro a w ha hw Q hQ
  have hy : yielded ops a.tmps j = .some b := by
    have h1 : ops[j]? = .some o := by simpa using ho
    have h2 := ha.get _ _ hb
    simp [yielded, h1, hdj, h2]
  unfold wpList
  by_cases hbw : b = want
  · rw [if_pos (by simp [Region.wanted, hy, hbw])]
    have := h hbw a w ha hw Q hQ
    unfold wpList at this
    rw [if_pos (by simp [Region.wanted])] at this
    exact this
  · rw [if_neg (by simp [Region.wanted, hy, hbw])]
    exact h' (by cases b <;> cases want <;> simp_all) _ _ (ha.put hd undef) hw Q hQ
theorem OpsJ.guard_none {op : Op} {ty : TypeId} {pos : String} {af : Array Edge} {j : Nat} {want b : Bool} {o : Oper} {dj : Nat}
    (ho : ops.toList[j]? = some o) (hdj : o.dst = some dj) (hb : eget e dj = some (.bool b))
    (h : b = want → OpsJ P n W0 ops (⟨none, op, ty, pos, af, none⟩ :: rest) e s K)
    (h' : b = !want → OpsJ P n W0 ops rest e s K) : OpsJ P n W0 ops (⟨none, op, ty, pos, af, some (j, want)⟩ :: rest) e s K := by
  intro a w ha hw Q hQ
  have hy : yielded ops a.tmps j = .some b := by
    have h1 : ops[j]? = .some o := by simpa using ho
    have h2 := ha.get _ _ hb
    simp [yielded, h1, hdj, h2]
  unfold wpList
  by_cases hbw : b = want
  · rw [if_pos (by simp [Region.wanted, hy, hbw])]
    have := h hbw a w ha hw Q hQ
    unfold wpList at this
    rw [if_pos (by simp [Region.wanted])] at this
    exact this
  · rw [if_neg (by simp [Region.wanted, hy, hbw])]
    exact h' (by cases b <;> cases want <;> simp_all) _ _ (ha.put_none undef) hw Q hQ

theorem OpsJ.gund {d : Nat} {op : Op} {ty : TypeId} {pos : String} {af : Array Edge} {j : Nat} {want : Bool} {o : Oper} {dj : Nat} (hd : Nat.blt d n = true)
    (ho : ops.toList[j]? = some o) (hdj : o.dst = some dj) (hb : eget e dj = some undef)
    (h : OpsJ P n W0 ops rest ((d, undef) :: e) s K) : OpsJ P n W0 ops (⟨some d, op, ty, pos, af, some (j, want)⟩ :: rest) e s K := by
  intro a w ha hw Q hQ
  have hy : yielded ops a.tmps j = none := by
    have h1 : ops[j]? = .some o := by simpa using ho
    have h2 := ha.get _ _ hb
    simp [yielded, h1, hdj, h2, undef]
  unfold wpList
  rw [if_neg (by simp [Region.wanted, hy])]
  exact h _ _ (ha.put hd undef) hw Q hQ
def GuardJ (b want : Bool) (yes no : Prop) : Prop := (b = want → yes) ∧ (b = !want → no)
theorem GuardJ.yes {b want : Bool} {yes no : Prop} (hb : b = want) (h : yes) : GuardJ b want yes no := And.intro (fun _ => h) (fun h' => by rw [hb] at h'; cases want <;> cases h')
theorem GuardJ.no {b want : Bool} {yes no : Prop} (hb : b = !want) (h : no) : GuardJ b want yes no := And.intro (fun h' => by rw [hb] at h'; cases want <;> cases h') (fun _ => h)
theorem GuardJ.dt {q : Prop} [Decidable q] {want : Bool} {yes no : Prop} (hw : want = true) (hq : q) (h : yes) : GuardJ (decide q) want yes no := GuardJ.yes (by rw [hw]; exact decide_eq_true hq) h
theorem GuardJ.df {q : Prop} [Decidable q] {want : Bool} {yes no : Prop} (hw : want = false) (hq : ¬ q) (h : yes) : GuardJ (decide q) want yes no := GuardJ.yes (by rw [hw]; exact decide_eq_false hq) h
theorem GuardJ.nt {q : Prop} [Decidable q] {want : Bool} {yes no : Prop} (hw : want = false) (hq : q) (h : no) : GuardJ (decide q) want yes no := GuardJ.no (by rw [hw]; exact decide_eq_true hq) h
theorem GuardJ.nf {q : Prop} [Decidable q] {want : Bool} {yes no : Prop} (hw : want = true) (hq : ¬ q) (h : no) : GuardJ (decide q) want yes no := GuardJ.no (by rw [hw]; exact decide_eq_false hq) h
theorem OpsJ.gsel {d : Nat} {op : Op} {ty : TypeId} {pos : String} {af : Array Edge} {j : Nat} {want b : Bool} {o : Oper} {dj : Nat} (hd : Nat.blt d n = true)
    (ho : ops.toList[j]? = some o) (hdj : o.dst = some dj) (hb : eget e dj = some (.bool b))
    (h : GuardJ b want (OpsJ P n W0 ops (⟨some d, op, ty, pos, af, none⟩ :: rest) e s K) (OpsJ P n W0 ops rest ((d, undef) :: e) s K)) : OpsJ P n W0 ops (⟨some d, op, ty, pos, af, some (j, want)⟩ :: rest) e s K :=
  OpsJ.guard hd ho hdj hb h.1 h.2
/-- The guard's Bool is known. -/
theorem OpsJ.guard_y {d : Nat} {op : Op} {ty : TypeId} {pos : String} {af : Array Edge} {j : Nat} {want b : Bool} {o : Oper} {dj : Nat} (hd : Nat.blt d n = true)
    (ho : ops.toList[j]? = some o) (hdj : o.dst = some dj) (hb : eget e dj = some (.bool b)) (hw : b = want)
    (h : OpsJ P n W0 ops (⟨some d, op, ty, pos, af, none⟩ :: rest) e s K) : OpsJ P n W0 ops (⟨some d, op, ty, pos, af, some (j, want)⟩ :: rest) e s K :=
  OpsJ.guard hd ho hdj hb (fun _ => h) (fun h' => by rw [hw] at h'; cases want <;> cases h')
theorem OpsJ.guard_n {d : Nat} {op : Op} {ty : TypeId} {pos : String} {af : Array Edge} {j : Nat} {want b : Bool} {o : Oper} {dj : Nat} (hd : Nat.blt d n = true)
    (ho : ops.toList[j]? = some o) (hdj : o.dst = some dj) (hb : eget e dj = some (.bool b)) (hw : b = !want)
    (h : OpsJ P n W0 ops rest ((d, undef) :: e) s K) : OpsJ P n W0 ops (⟨some d, op, ty, pos, af, some (j, want)⟩ :: rest) e s K :=
  OpsJ.guard hd ho hdj hb (fun h' => by rw [hw] at h'; cases want <;> cases h') (fun _ => h)
/-! ### Code -/
variable {k : Kont} {nor ret : Env → St → Prop} {exi : List (Nat × (Env → St → Prop))} {c x y : Code}
theorem CodeJ.region {id : Nat} (h : OpsJ P n W0 l.toArray l e s nor) : CodeJ P n W0 (.region id l.toArray false) e s ⟨nor, ret, exi⟩ :=
  fun a w ha hw => wp_region_lit (h a w ha hw _ fun a' w' e' s' ha' hs' hk => ⟨e', s', ha', hs', hk⟩)
theorem CodeJ.skip (h : nor e s) : CodeJ P n W0 .skip e s ⟨nor, ret, exi⟩ := fun a w ha hw => wp_skip ⟨e, s, ha, hw, h⟩
theorem CodeJ.ret' (h : ret e s) : CodeJ P n W0 .ret e s ⟨nor, ret, exi⟩ := fun a w ha hw => wp_ret ⟨e, s, ha, hw, h⟩
theorem CodeJ.exit {id : Nat} {J : Env → St → Prop} (hx : xget exi id = some J) (h : J e s) : CodeJ P n W0 (.exit id) e s ⟨nor, ret, exi⟩ :=
  fun a w ha hw => wp_exit ⟨e, s, ha, hw, J, hx, h⟩
theorem CodeJ.seq (h : ∀ K : Env → St → Prop, (∀ e' s', CodeJ P n W0 y e' s' ⟨nor, ret, exi⟩ → K e' s') → CodeJ P n W0 x e s ⟨K, ret, exi⟩) : CodeJ P n W0 (.seq x y) e s ⟨nor, ret, exi⟩ := by
  intro a w ha hw
  refine wp_seq (wp_mono (h (fun e' s' => CodeJ P n W0 y e' s' ⟨nor, ret, exi⟩) (fun _ _ h => h) a w ha hw) ?_)
  rintro z a' w' ⟨e', s', ha', hs', hk⟩
  cases z with
  | normal => exact hk a' w' ha' hs'
  | exit id => exact ⟨e', s', ha', hs', hk⟩
  | goto l => exact hk.elim
  | ret => exact ⟨e', s', ha', hs', hk⟩
  | panic ch => exact hk.elim
  | outgrown => exact hk.elim
theorem CodeJ.seq' (h : CodeJ P n W0 x e s ⟨fun e' s' => CodeJ P n W0 y e' s' ⟨nor, ret, exi⟩, ret, exi⟩) : CodeJ P n W0 (.seq x y) e s ⟨nor, ret, exi⟩ :=
  CodeJ.seq fun K hK a w ha hw => wp_mono (h a w ha hw) (by
    rintro z a' w' ⟨e', s', ha', hs', hk⟩
    refine ⟨e', s', ha', hs', ?_⟩
    cases z with
    | normal => exact hK _ _ hk
    | exit id => exact hk
    | goto l => exact hk
    | ret => exact hk
    | panic ch => exact hk
    | outgrown => exact hk)
/-- A cut: what is known behind the first part, said anew. -/
theorem CodeJ.cut (J : Env → St → Prop) (h : CodeJ P n W0 x e s ⟨J, ret, exi⟩) (k : ∀ e' s', J e' s' → CodeJ P n W0 y e' s' ⟨nor, ret, exi⟩) : CodeJ P n W0 (.seq x y) e s ⟨nor, ret, exi⟩ := by
  intro a w ha hw
  refine wp_seq (wp_mono (h a w ha hw) ?_)
  rintro z a' w' ⟨e', s', ha', hs', hk⟩
  cases z with
  | normal => exact k e' s' hk a' w' ha' hs'
  | exit id => exact ⟨e', s', ha', hs', hk⟩
  | goto l => exact hk.elim
  | ret => exact ⟨e', s', ha', hs', hk⟩
  | panic ch => exact hk.elim
  | outgrown => exact hk.elim
theorem CodeJ.cond {z : Operand} {b : Bool} (hz : ev e z = some (.bool b)) (h1 : b = true → CodeJ P n W0 x e s ⟨nor, ret, exi⟩) (h2 : b = false → CodeJ P n W0 y e s ⟨nor, ret, exi⟩) :
    CodeJ P n W0 (.cond z x y) e s ⟨nor, ret, exi⟩ :=
  fun a w ha hw => wp_cond_split (ha.ev hz) (fun hb => h1 hb a w ha hw) (fun hb => h2 hb a w ha hw)
theorem CodeJ.cond_t {z : Operand} {b : Bool} (hz : ev e z = some (.bool b)) (hb : b = true) (h1 : CodeJ P n W0 x e s ⟨nor, ret, exi⟩) :
    CodeJ P n W0 (.cond z x y) e s ⟨nor, ret, exi⟩ := CodeJ.cond hz (fun _ => h1) (fun h => by rw [hb] at h; cases h)
theorem CodeJ.cond_f {z : Operand} {b : Bool} (hz : ev e z = some (.bool b)) (hb : b = false) (h1 : CodeJ P n W0 y e s ⟨nor, ret, exi⟩) :
    CodeJ P n W0 (.cond z x y) e s ⟨nor, ret, exi⟩ := CodeJ.cond hz (fun h => by rw [hb] at h; cases h) (fun _ => h1)
theorem CodeJ.cond_d {z : Operand} {q : Prop} [Decidable q] (hz : ev e z = some (.bool (decide q))) (h1 : q → CodeJ P n W0 x e s ⟨nor, ret, exi⟩) (h2 : ¬ q → CodeJ P n W0 y e s ⟨nor, ret, exi⟩) :
    CodeJ P n W0 (.cond z x y) e s ⟨nor, ret, exi⟩ := CodeJ.cond hz (fun h => h1 (of_decide_eq_true h)) (fun h => h2 (of_decide_eq_false h))
theorem CodeJ.cond_dt {z : Operand} {q : Prop} [Decidable q] (hz : ev e z = some (.bool (decide q))) (hq : q) (h1 : CodeJ P n W0 x e s ⟨nor, ret, exi⟩) :
    CodeJ P n W0 (.cond z x y) e s ⟨nor, ret, exi⟩ := CodeJ.cond_t hz (decide_eq_true hq) h1
theorem CodeJ.cond_df {z : Operand} {q : Prop} [Decidable q] (hz : ev e z = some (.bool (decide q))) (hq : ¬ q) (h1 : CodeJ P n W0 y e s ⟨nor, ret, exi⟩) :
    CodeJ P n W0 (.cond z x y) e s ⟨nor, ret, exi⟩ := CodeJ.cond_f hz (decide_eq_false hq) h1
theorem CodeJ.block {id : Nat} (h : CodeJ P n W0 c e s ⟨nor, ret, (id, nor) :: exi⟩) : CodeJ P n W0 (.block id c) e s ⟨nor, ret, exi⟩ := by
  intro a w ha hw
  refine wp_block (wp_mono (h a w ha hw) ?_)
  rintro z a' w' ⟨e', s', ha', hs', hk⟩
  cases z with
  | normal => exact ⟨e', s', ha', hs', hk⟩
  | exit id' =>
    obtain ⟨J, hJ, hj⟩ := hk
    simp only [xget] at hJ
    simp only [Exit.inBlock]
    by_cases hid : id' = id
    · subst hid
      simp only [Nat.beq_refl, Option.some.injEq] at hJ
      subst hJ
      rw [if_pos rfl]
      exact ⟨e', s', ha', hs', hj⟩
    · rw [if_neg hid]
      have hb : Nat.beq id id' = false := by
        cases hb : Nat.beq id id' with
        | false => rfl
        | true => exact absurd (Nat.eq_of_beq_eq_true hb).symm hid
      rw [hb] at hJ
      exact ⟨e', s', ha', hs', J, hJ, hj⟩
  | goto l => exact hk.elim
  | ret => exact ⟨e', s', ha', hs', hk⟩
  | panic ch => exact hk.elim
  | outgrown => exact hk.elim
/-- A loop: the invariant bears a number that each round lowers. -/
theorem CodeJ.loop (I : Nat → Env → St → Prop) (m : Nat) {e0 : Env} {hs0 : List Chunk} {R : IM} {hs : List Chunk} (h0 : I m e0 ⟨R, hs0⟩) (he : SubE e0 e) (hh : SubL hs0 hs)
    (round : ∀ m e1 s1, I m e1 s1 → CodeJ P n W0 c e1 s1 ⟨fun e' s' => ∃ m' e2 R2 hs2, m' < m ∧ I m' e2 ⟨R2, hs2⟩ ∧ IM.le R2 s'.R ∧ SubE e2 e' ∧ SubL hs2 s'.hs, ret, exi⟩) :
    CodeJ P n W0 (.loop c) e ⟨R, hs⟩ ⟨nor, ret, exi⟩ := by
  intro a w ha hw
  refine wp_loop_ghost (fun i a w => ∃ e1 s1, Sub n e1 a ∧ Sat W0 s1 w ∧ I i e1 s1) m ⟨e0, _, ha.weaken he, hw.sub hh, h0⟩ ?_
  rintro i a w ⟨e1, s1, ha1, hw1, hI⟩
  refine wp_mono (round i e1 s1 hI a w ha1 hw1) ?_
  rintro z a' w' ⟨e', s', ha', hs', hk⟩
  cases z with
  | normal =>
    obtain ⟨m', e2, R2, hs2, hlt, hI2, hle, hsube, hsubl⟩ := hk
    exact ⟨m', hlt, e2, _, ha'.weaken hsube, (Sat.sub (R := s'.R) hs' hsubl).le hle, hI2⟩
  | exit id => exact ⟨e', s', ha', hs', hk⟩
  | goto l => exact hk.elim
  | ret => exact ⟨e', s', ha', hs', hk⟩
  | panic ch => exact hk.elim
  | outgrown => exact hk.elim
/-- The chunk number i first. -/
theorem OpsJ.perm {R : IM} {hs hs' : List Chunk} (hp : hs.Perm hs') (h : OpsJ P n W0 ops l e ⟨R, hs'⟩ K) : OpsJ P n W0 ops l e ⟨R, hs⟩ K :=
  fun a w ha hw => h a w ha (hw.perm hp)
theorem CodeJ.perm {R : IM} {hs hs' : List Chunk} (hp : hs.Perm hs') (h : CodeJ P n W0 c e ⟨R, hs'⟩ k) : CodeJ P n W0 c e ⟨R, hs⟩ k :=
  fun a w ha hw => h a w ha (hw.perm hp)
theorem CodeJ.sub {R : IM} {hs hs' : List Chunk} (hp : SubL hs' hs) (h : CodeJ P n W0 c e ⟨R, hs'⟩ k) : CodeJ P n W0 c e ⟨R, hs⟩ k :=
  fun a w ha hw => h a w ha (hw.sub hp)
theorem CodeJ.env {e1 : Env} (hp : SubE e1 e) (h : CodeJ P n W0 c e1 s k) : CodeJ P n W0 c e s k :=
  fun a w ha hw => h a w (ha.weaken hp) hw

/-! ### A region that draws its order, all of whose operations leave what is known as it is -/
def QuietJ (P : Program) (n : Nat) (W0 : World) (ops : Array Oper) (l : List Oper) (e : Env) (s : St) (K : Env → Prop) : Prop :=
  ∀ a, Sub n e a → ∀ Q : Act → Prop, (∀ a' e', Sub n e' a' → K e' → Q a') → wpQuiet P ops (Sat W0 s) Q l a
def OpQ (P : Program) (n : Nat) (W0 : World) (op : Op) (ty : TypeId) (e : Env) (s : St) (K : Value → Prop) : Prop :=
  ∀ o : Oper, o.op = op → o.type = ty → ∀ a, Sub n e a → ∃ v, K v ∧ ∀ w, Sat W0 s w → o.quietAt P a (Sat W0 s) w v
theorem CodeJ.drawn {id : Nat} (hm : P.follows .mixedOrders = true) (hB : Region.lexB .any l.toArray = true) (h : QuietJ P n W0 l.toArray l e s fun e' => nor e' s) :
    CodeJ P n W0 (.region id l.toArray true) e s ⟨nor, ret, exi⟩ := by
  intro a w ha hw
  refine wp_region_quiet (C := Sat W0 s) hm hB (hw.drawn _) ?_
  have := h a ha (fun a' => ∀ w', Sat W0 s w' → ∃ e' s', Sub n e' a' ∧ Sat W0 s' w' ∧ (Kont.mk nor ret exi).at .normal e' s') (fun a' e' ha' hk w' hw' => ⟨e', s, ha', hw', hk⟩)
  simpa using this
variable {KQ : Env → Prop}
theorem QuietJ.nil (h : KQ e) : QuietJ P n W0 ops [] e s KQ := fun a ha Q hQ => wpQuiet_nil (hQ a e ha h)
theorem QuietJ.put {d : Nat} {op : Op} {ty : TypeId} {pos : String} {af : Array Edge} (hd : Nat.blt d n = true)
    (h : OpQ P n W0 op ty e s fun v => QuietJ P n W0 ops rest ((d, v) :: e) s KQ) : QuietJ P n W0 ops (⟨some d, op, ty, pos, af, none⟩ :: rest) e s KQ := by
  intro a ha Q hQ
  obtain ⟨v, hk, hq⟩ := h ⟨some d, op, ty, pos, af, none⟩ rfl rfl a ha
  unfold wpQuiet
  rw [if_pos (by simp [Region.wanted])]
  exact ⟨v, hq, hk _ (ha.put hd v) Q hQ⟩
theorem QuietJ.guard {d : Nat} {op : Op} {ty : TypeId} {pos : String} {af : Array Edge} {j : Nat} {want b : Bool} {o : Oper} {dj : Nat} (hd : Nat.blt d n = true)
    (ho : ops.toList[j]? = some o) (hdj : o.dst = some dj) (hb : eget e dj = some (.bool b))
    (h : b = want → QuietJ P n W0 ops (⟨some d, op, ty, pos, af, none⟩ :: rest) e s KQ)
    (h' : b = !want → QuietJ P n W0 ops rest ((d, undef) :: e) s KQ) : QuietJ P n W0 ops (⟨some d, op, ty, pos, af, some (j, want)⟩ :: rest) e s KQ := by
  intro a ha Q hQ
  have hy : yielded ops a.tmps j = .some b := by
    have h1 : ops[j]? = .some o := by simpa using ho
    have h2 := ha.get _ _ hb
    simp [yielded, h1, hdj, h2]
  unfold wpQuiet
  by_cases hbw : b = want
  · rw [if_pos (by simp [Region.wanted, hy, hbw])]
    have := h hbw a ha Q hQ
    unfold wpQuiet at this
    rw [if_pos (by simp [Region.wanted])] at this
    obtain ⟨v, h1, h2⟩ := this
    exact ⟨v, h1, h2⟩
  · rw [if_neg (by simp [Region.wanted, hy, hbw])]
    exact h' (by cases b <;> cases want <;> simp_all) _ (ha.put hd undef) Q hQ
theorem QuietJ.gund {d : Nat} {op : Op} {ty : TypeId} {pos : String} {af : Array Edge} {j : Nat} {want : Bool} {o : Oper} {dj : Nat} (hd : Nat.blt d n = true)
    (ho : ops.toList[j]? = some o) (hdj : o.dst = some dj) (hb : eget e dj = some undef)
    (h : QuietJ P n W0 ops rest ((d, undef) :: e) s KQ) : QuietJ P n W0 ops (⟨some d, op, ty, pos, af, some (j, want)⟩ :: rest) e s KQ := by
  intro a ha Q hQ
  have hy : yielded ops a.tmps j = none := by
    have h1 : ops[j]? = .some o := by simpa using ho
    have h2 := ha.get _ _ hb
    simp [yielded, h1, hdj, h2, undef]
  unfold wpQuiet
  rw [if_neg (by simp [Region.wanted, hy])]
  exact h _ (ha.put hd undef) Q hQ
theorem QuietJ.gsel {d : Nat} {op : Op} {ty : TypeId} {pos : String} {af : Array Edge} {j : Nat} {want b : Bool} {o : Oper} {dj : Nat} (hd : Nat.blt d n = true)
    (ho : ops.toList[j]? = some o) (hdj : o.dst = some dj) (hb : eget e dj = some (.bool b))
    (h : GuardJ b want (QuietJ P n W0 ops (⟨some d, op, ty, pos, af, none⟩ :: rest) e s KQ) (QuietJ P n W0 ops rest ((d, undef) :: e) s KQ)) : QuietJ P n W0 ops (⟨some d, op, ty, pos, af, some (j, want)⟩ :: rest) e s KQ :=
  QuietJ.guard hd ho hdj hb h.1 h.2
theorem QuietJ.guard_y {d : Nat} {op : Op} {ty : TypeId} {pos : String} {af : Array Edge} {j : Nat} {want b : Bool} {o : Oper} {dj : Nat} (hd : Nat.blt d n = true)
    (ho : ops.toList[j]? = some o) (hdj : o.dst = some dj) (hb : eget e dj = some (.bool b)) (hw : b = want)
    (h : QuietJ P n W0 ops (⟨some d, op, ty, pos, af, none⟩ :: rest) e s KQ) : QuietJ P n W0 ops (⟨some d, op, ty, pos, af, some (j, want)⟩ :: rest) e s KQ :=
  QuietJ.guard hd ho hdj hb (fun _ => h) (fun h' => by rw [hw] at h'; cases want <;> cases h')
theorem QuietJ.guard_n {d : Nat} {op : Op} {ty : TypeId} {pos : String} {af : Array Edge} {j : Nat} {want b : Bool} {o : Oper} {dj : Nat} (hd : Nat.blt d n = true)
    (ho : ops.toList[j]? = some o) (hdj : o.dst = some dj) (hb : eget e dj = some (.bool b)) (hw : b = !want)
    (h : QuietJ P n W0 ops rest ((d, undef) :: e) s KQ) : QuietJ P n W0 ops (⟨some d, op, ty, pos, af, some (j, want)⟩ :: rest) e s KQ :=
  QuietJ.guard hd ho hdj hb (fun h' => by rw [hw] at h'; cases want <;> cases h') (fun _ => h)
end
end Go.Proofs.Ytdicpnnmhjgnbaa.FW
