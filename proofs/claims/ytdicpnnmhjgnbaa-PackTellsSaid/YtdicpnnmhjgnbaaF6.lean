/- Calls; what is frozen; a function's contract out of its code. -/
import Derived.Test.YtdicpnnmhjgnbaaF5
namespace Go.Proofs.Ytdicpnnmhjgnbaa.FW
open Go Go.RowKit
set_option linter.unusedVariables false
set_option linter.unusedSimpArgs false

/-- A function with a body. -/
class Fn1 (P : Program) (f : FuncId) : Prop where
  call : ∀ (args : Array Value) (w : World), (callFunc f args).run P w = .ok (.enter f args) w
def opts (e : Env) : List Operand → Option (List Value)
  | [] => some []
  | x :: r => match ev e x, opts e r with
    | some v, some l => some (v :: l)
    | _, _ => none
theorem Sub.opts {n : Nat} {e : Env} {a : Act} (ha : Sub n e a) : ∀ {xs : List Operand} {vs : List Value}, opts e xs = some vs → xs.map a.eval = vs
  | [], vs, h => by simp [FW.opts] at h; simp [h]
  | x :: r, vs, h => by
    simp only [FW.opts] at h
    cases h1 : FW.ev e x with
    | none => rw [h1] at h; simp at h
    | some v =>
      cases h2 : FW.opts e r with
      | none => rw [h1, h2] at h; simp at h
      | some l =>
        rw [h1, h2] at h
        simp only [Option.some.injEq] at h
        subst h
        simp [ha.ev h1, ha.opts h2]
/-- The world but for some blocks. -/
def rest (w : World) (bs : List Nat) : IM := fun b => if b ∈ bs then none else w.heap[b]?
/-- A chunk's cells stand in what never changes. -/
def Chunk.inR (R : IM) : Chunk → Prop
  | .blk g cs t => R g = some (.cells cs.toArray t (0, 0))
  | .row t size A n c cs => RC R A cs
  | .obj g o => R g = some o
theorem Chunk.inR_of {w : World} {R : IM} {c : Chunk} (h : c.ok w) (hr : ∀ b ∈ c.blocks, R b = w.heap[b]?) : c.inR R := by
  cases c with
  | blk g cs t => exact (hr g (by simp [Chunk.blocks])).trans h
  | obj g o => exact (hr g (by simp [Chunk.blocks])).trans h
  | row t size A n c cs =>
    obtain ⟨h1, h2⟩ := own_cell h
    refine ⟨h1, fun j v hj => ?_⟩
    have hA := h1 (fun e => by simp [e] at hj)
    obtain ⟨ad, rfl⟩ := Option.isSome_iff_exists.1 hA
    have h3 := h2 j v hj
    have hblk : ((adr (some ad)).add j).block = ad.block := by simp only [adr, Option.getD_some, Addr.add]; split <;> rfl
    unfold World.cell? at h3
    unfold IM.cell?
    rw [hblk] at h3 ⊢
    rw [hr ad.block (by simp [Chunk.blocks])]
    exact h3

section
variable {α : Type} (a b c d e f : α) (l : List α)
theorem permm2 : (a :: b :: c :: l).Perm (c :: a :: b :: l) := (List.Perm.cons _ (.swap _ _ _)).trans (.swap _ _ _)
theorem permm3 : (a :: b :: c :: d :: l).Perm (d :: a :: b :: c :: l) := List.perm_middle (l₁ := [a, b, c])
theorem permm4 : (a :: b :: c :: d :: e :: l).Perm (e :: a :: b :: c :: d :: l) := List.perm_middle (l₁ := [a, b, c, d])
theorem permm5 : (a :: b :: c :: d :: e :: f :: l).Perm (f :: a :: b :: c :: d :: e :: l) := List.perm_middle (l₁ := [a, b, c, d, e])
end
/-! ### What is passed on, what is kept -/
def Split (pass hs keep : List Chunk) : Prop := hs.Perm (pass ++ keep)
section
variable {c c0 c1 c2 c3 c4 c5 c6 c7 : Chunk} {r l k : List Chunk}
theorem Split.nil : Split [] l l := List.Perm.refl _
theorem Split.of {l' : List Chunk} (h : l.Perm (c :: l')) (hk : Split r l' k) : Split (c :: r) l k := h.trans (List.Perm.cons _ hk)
theorem Split.p0 (h : Split r l k) : Split (c :: r) (c :: l) k := .of (.refl _) h
theorem Split.p1 (h : Split r (c0 :: l) k) : Split (c :: r) (c0 :: c :: l) k := .of (.swap _ _ _) h
theorem Split.p2 (h : Split r (c0 :: c1 :: l) k) : Split (c :: r) (c0 :: c1 :: c :: l) k := .of (permm2 _ _ _ _) h
theorem Split.p3 (h : Split r (c0 :: c1 :: c2 :: l) k) : Split (c :: r) (c0 :: c1 :: c2 :: c :: l) k := .of (permm3 _ _ _ _ _) h
theorem Split.p4 (h : Split r (c0 :: c1 :: c2 :: c3 :: l) k) : Split (c :: r) (c0 :: c1 :: c2 :: c3 :: c :: l) k := .of (permm4 _ _ _ _ _ _) h
theorem Split.p5 (h : Split r (c0 :: c1 :: c2 :: c3 :: c4 :: l) k) : Split (c :: r) (c0 :: c1 :: c2 :: c3 :: c4 :: c :: l) k := .of (permm5 _ _ _ _ _ _ _) h
theorem Split.p6 (h : Split r (c0 :: c1 :: c2 :: c3 :: c4 :: c5 :: l) k) : Split (c :: r) (c0 :: c1 :: c2 :: c3 :: c4 :: c5 :: c :: l) k := .of (List.perm_middle (l₁ := [c0, c1, c2, c3, c4, c5])) h
theorem Split.p7 (h : Split r (c0 :: c1 :: c2 :: c3 :: c4 :: c5 :: c6 :: l) k) : Split (c :: r) (c0 :: c1 :: c2 :: c3 :: c4 :: c5 :: c6 :: c :: l) k := .of (List.perm_middle (l₁ := [c0, c1, c2, c3, c4, c5, c6])) h
theorem Split.p8 (h : Split r (c0 :: c1 :: c2 :: c3 :: c4 :: c5 :: c6 :: c7 :: l) k) : Split (c :: r) (c0 :: c1 :: c2 :: c3 :: c4 :: c5 :: c6 :: c7 :: c :: l) k := .of (List.perm_middle (l₁ := [c0, c1, c2, c3, c4, c5, c6, c7])) h
theorem Split.all (l k : List Chunk) : Split l (l ++ k) k := List.Perm.refl _
theorem Split.last (l : List Chunk) (c : Chunk) : Split l (c :: l) [c] := (List.perm_append_singleton c l).symm
theorem inRow {R' : IM} {t size n cc : Nat} {A : Option Addr} {cs : List Value} (hin : ∀ c ∈ l, c.inR R') (hm : .row t size A n cc cs ∈ l) : RC R' A cs := hin _ hm
end
section
variable {P : Program} {n : Nat} {W0 : World} {e : Env} {s : St} {R : IM} {hs hs' : List Chunk} {op : Op} {ty : TypeId} {v : Value} {K : Value → St → Prop}
variable {x y z : Operand} {t t' : TypeId} {k : IntKind} {i j : Int}

/-- What a callee is handed is its own; all else stays. -/
theorem sat_call {pass keep : List Chunk} {w : World} (h : Sat W0 ⟨R, pass ++ keep⟩ w) :
    Sat w ⟨rest w (Own pass), pass⟩ w ∧ IM.le R (rest w (Own pass)) ∧ (∀ c ∈ keep, c.inR (rest w (Own pass))) ∧
    ∀ w' D hs', Sat w ⟨(rest w (Own pass)).or D, hs'⟩ w' → IM.dis (rest w (Own pass)) D → Sat W0 ⟨R.or D, hs' ++ keep⟩ w' ∧ IM.dis R D := by
  have hnd := h.nodup
  simp only [Own_append, List.nodup_append] at hnd
  obtain ⟨hn1, hn2, hn3⟩ := hnd
  have hap : ∀ b ∈ Own (pass ++ keep), R b = none := h.apart
  have hle : IM.le R (rest w (Own pass)) := fun b o hb => by
    unfold rest
    rw [if_neg (fun hm => ?_)]
    · exact h.im b o hb
    · have := hap b (by rw [Own_append]; exact List.mem_append_left _ hm)
      rw [hb] at this; cases this
  have hkeep : ∀ b ∈ Own keep, rest w (Own pass) b = w.heap[b]? := fun b hb => by
    unfold rest
    rw [if_neg (fun hm => hn3 b hm b hb rfl)]
  have hlt : ∀ b ∈ Own keep, b < w.heap.size := fun b hb => by
    obtain ⟨c1, hc1, hb1⟩ := mem_Own.1 hb
    exact Chunk.ok_lt (h.own c1 (List.mem_append_right _ hc1)) b hb1
  refine ⟨⟨rfl, rfl, rfl, Nat.le_refl _, fun b o hb => ?_, fun c hc => h.own c (List.mem_append_left _ hc), hn1, fun b hb => ?_⟩, hle, fun c hc => ?_, fun w' D hs1 h' hd => ?_⟩
  · simp only [rest] at hb
    split at hb
    · cases hb
    · exact hb
  · simp only [rest]
    rw [if_pos hb]
  · exact Chunk.inR_of (h.own c (List.mem_append_right _ hc)) fun b hb => hkeep b (mem_Own.2 ⟨c, hc, hb⟩)
  · have hdR : IM.dis R D := IM.dis_mono hd hle
    have hsome : ∀ b ∈ Own keep, ∃ o, rest w (Own pass) b = some o ∧ w.heap[b]? = some o := fun b hb => by
      have := hlt b hb
      exact ⟨w.heap[b], by rw [hkeep b hb]; simp [this], by simp [this]⟩
    have himr : ∀ b o, rest w (Own pass) b = some o → w'.heap[b]? = some o := fun b o hb => h'.im b o (by simp [IM.or, hb])
    refine ⟨⟨h'.os.trans h.os, h'.tape.trans h.tape, h'.output.trans h.output, Nat.le_trans h.size h'.size, fun b o hb => ?_, fun c hc => ?_, ?_, fun b hb => ?_⟩, hdR⟩
    · simp only [IM.or] at hb
      cases hr : R b with
      | some u => rw [hr] at hb; simp at hb; subst hb; exact himr b _ (hle b _ hr)
      | none =>
        rw [hr] at hb
        have hb' : D b = some o := by simpa using hb
        exact h'.im b o (IM.le_or_right hd b o hb')
    · rcases List.mem_append.1 hc with h1 | h1
      · exact h'.own c h1
      · refine Chunk.ok_same (h.own c (List.mem_append_right _ h1)) fun b hb => ?_
        obtain ⟨o, h2, h3⟩ := hsome b (mem_Own.2 ⟨c, h1, hb⟩)
        rw [himr b o h2, h3]
    · show (Own (hs1 ++ keep)).Nodup
      rw [Own_append, List.nodup_append]
      refine ⟨h'.nodup, hn2, fun b hb b' hb' e => ?_⟩
      subst e
      obtain ⟨o, h2, _⟩ := hsome b hb'
      have h4 : ((rest w (Own pass)).or D) b = none := h'.apart b hb
      simp [IM.or, h2] at h4
    · have hb : b ∈ Own hs1 ++ Own keep := by rw [← Own_append]; exact hb
      rcases List.mem_append.1 hb with h1 | h1
      · have h4 : ((rest w (Own pass)).or D) b = none := h'.apart b h1
        simp only [IM.or] at h4 ⊢
        cases hr : R b with
        | some u => rw [hle b u hr] at h4; simp at h4
        | none =>
          cases hq : rest w (Own pass) b with
          | some u => rw [hq] at h4; simp at h4
          | none => rw [hq] at h4; simpa using h4
      · have h2 : R b = none := hap b (by rw [Own_append]; exact List.mem_append_right _ h1)
        obtain ⟨o, h3, _⟩ := hsome b h1
        simp only [IM.or, h2]
        cases hD : D b with
        | none => rfl
        | some u => have := hd b u hD; rw [h3] at this; cases this
theorem OpJ.call {f : FuncId} [hf : Fn1 P f] {xs : List Operand} {vs : List Value} {ats : Array TypeId} {pass keep : List Chunk} {post : Value → IM → List Chunk → Prop} (hxs : opts e xs = some vs) (hp : Split pass hs keep)
    (hc : ∀ R', IM.le R R' → (∀ c ∈ keep, c.inR R') → CallJ P f vs.toArray ⟨R', pass⟩ post)
    (hk : ∀ v D hs1, IM.dis R D → post v D hs1 → K v ⟨R.or D, hs1 ++ keep⟩) : OpJ P n W0 (.call ⟨.value (.func f), xs.toArray, ats⟩) ty e ⟨R, hs⟩ K := by
  intro o ho hty a w ha hw next Q hn
  have h1 := ha.opts hxs
  have hcall := hf.call vs.toArray w
  have hw' := hw.perm hp
  obtain ⟨h2, h3, h4, h5⟩ := sat_call hw'
  unfold Oper.wp
  have h6 : (execOp a.eval o).run P w = .ok (.enter f vs.toArray) w := by
    have h7 : a.eval (.func f) = .func (.func f) #[] #[] := rfl
    simp [execOp, ho, resolve, h7, Deferred.ofValue, invoke, h1, hcall]
  rw [h6]
  refine (hc _ h3 h4 w h2).mono ?_
  rintro e' w' ⟨v, D, hs1, rfl, h8, h9, h10⟩
  obtain ⟨h11, h12⟩ := h5 w' D hs1 h8 h9
  exact hn v _ w' h11 (hk v D hs1 h12 h10)
/-- A call in a region that draws its order: one value, nothing of what is known turned. -/
theorem OpQ.call {f : FuncId} [hf : Fn1 P f] {xs : List Operand} {vs : List Value} {ats : Array TypeId} {u : Value} {KQ : Value → Prop} (hxs : opts e xs = some vs)
    (hc : ∀ R', IM.le R R' → (∀ c ∈ hs, c.inR R') → CallJ P f vs.toArray ⟨R', []⟩ fun v _ _ => v = u)
    (hk : KQ u) : OpQ P n W0 (.call ⟨.value (.func f), xs.toArray, ats⟩) ty e ⟨R, hs⟩ KQ := by
  intro o ho hty a ha
  refine ⟨u, hk, fun w hw => ?_⟩
  have h1 := ha.opts hxs
  have hcall := hf.call vs.toArray w
  obtain ⟨h2, h3, h4, h5⟩ := sat_call (pass := []) (keep := hs) (by simpa using hw)
  have h6 : (execOp a.eval o).run P w = .ok (.enter f vs.toArray) w := by
    have h7 : a.eval (.func f) = .func (.func f) #[] #[] := rfl
    simp [execOp, ho, resolve, h7, Deferred.ofValue, invoke, h1, hcall]
  unfold Oper.quietAt
  rw [h6]
  refine ⟨rfl, (hc _ h3 h4 w h2).mono ?_⟩
  rintro e' w' ⟨v, D, hs1, rfl, h8, h9, rfl⟩
  obtain ⟨h11, _⟩ := h5 w' D hs1 h8 h9
  exact ⟨rfl, (h11.le (IM.le_or R D)).perm List.perm_append_comm |>.drop⟩

/-! ### Freezing -/
/-- A chunk becomes part of what never changes. -/
theorem Sat.freeze {c : Chunk} {w : World} (h : Sat W0 ⟨R, c :: hs⟩ w) : ∃ D, IM.dis R D ∧ c.inR D ∧ Sat W0 ⟨R.or D, hs⟩ w := by
  have hnd := h.nodup
  simp only [Own_cons, List.nodup_append] at hnd
  obtain ⟨hn1, hn2, hn3⟩ := hnd
  have hap : ∀ b ∈ Own (c :: hs), R b = none := h.apart
  let D : IM := fun b => if b ∈ c.blocks then w.heap[b]? else none
  have hdis : IM.dis R D := fun b o hb => by
    by_cases hm : b ∈ c.blocks
    · exact hap b (by rw [Own_cons]; exact List.mem_append_left _ hm)
    · simp [D, hm] at hb
  refine ⟨D, hdis, Chunk.inR_of (h.own c (List.mem_cons_self ..)) (fun b hb => by simp [D, hb]), h.os, h.tape, h.output, h.size, fun b o hb => ?_, fun c' hc' => h.own c' (List.mem_cons_of_mem _ hc'), hn2, fun b hb => ?_⟩
  · simp only [IM.or] at hb
    cases hr : R b with
    | some u => rw [hr] at hb; simp at hb; subst hb; exact h.im b _ hr
    | none =>
      rw [hr] at hb
      by_cases hm : b ∈ c.blocks
      · simpa [D, hm] using hb
      · simp [D, hm] at hb
  · have h1 : R b = none := hap b (by rw [Own_cons]; exact List.mem_append_right _ hb)
    have h2 : b ∉ c.blocks := fun hm => hn3 b hm b hb rfl
    simp [IM.or, h1, D, h2]
theorem CodeJ.freeze {c : Code} {kk : Kont} {ch : Chunk} (hp : hs.Perm (ch :: hs')) (h : ∀ D, IM.dis R D → ch.inR D → CodeJ P n W0 c e ⟨R.or D, hs'⟩ kk) : CodeJ P n W0 c e ⟨R, hs⟩ kk := by
  intro a w ha hw
  obtain ⟨D, h1, h2, h3⟩ := (hw.perm hp).freeze
  exact h D h1 h2 a w ha h3
theorem OpsJ.freeze {ops : Array Oper} {l : List Oper} {KK : Env → St → Prop} {ch : Chunk} (hp : hs.Perm (ch :: hs')) (h : ∀ D, IM.dis R D → ch.inR D → OpsJ P n W0 ops l e ⟨R.or D, hs'⟩ KK) : OpsJ P n W0 ops l e ⟨R, hs⟩ KK := by
  intro a w ha hw Q hQ
  obtain ⟨D, h1, h2, h3⟩ := (hw.perm hp).freeze
  exact h D h1 h2 a w ha h3 Q hQ
/-- A nil slice is a row of the call's own. -/
theorem Sat.nilrow {w : World} (t size : Nat) (h : Sat W0 ⟨R, hs⟩ w) : Sat W0 ⟨R, .row t size none 0 0 [] :: hs⟩ w :=
  ⟨h.os, h.tape, h.output, h.size, h.im, fun c hc => by
    rcases List.mem_cons.1 hc with rfl | hc
    · exact ⟨by simp, .inl ⟨rfl, rfl⟩⟩
    · exact h.own c hc, by simpa [Own_cons, Chunk.blocks] using h.nodup, fun b hb => h.apart b (by simpa [Own_cons, Chunk.blocks] using hb)⟩
theorem CodeJ.nilrow {c : Code} {kk : Kont} (t size : Nat) (h : CodeJ P n W0 c e ⟨R, .row t size none 0 0 [] :: hs⟩ kk) : CodeJ P n W0 c e ⟨R, hs⟩ kk :=
  fun a w ha hw => h a w ha (hw.nilrow t size)
theorem OpsJ.nilrow {ops : Array Oper} {l : List Oper} {KK : Env → St → Prop} (t size : Nat) (h : OpsJ P n W0 ops l e ⟨R, .row t size none 0 0 [] :: hs⟩ KK) : OpsJ P n W0 ops l e ⟨R, hs⟩ KK :=
  fun a w ha hw Q hQ => h a w ha (hw.nilrow t size) Q hQ

theorem CodeJ.le {c : Code} {kk : Kont} {R' : IM} (hr : IM.le R' R) (h : CodeJ P n W0 c e ⟨R', hs⟩ kk) : CodeJ P n W0 c e ⟨R, hs⟩ kk := fun a w ha hw => h a w ha (hw.le hr)
/-- What is known where ways meet, said anew. -/
theorem CodeJ.mid {x y : Code} {ret : Env → St → Prop} {exi : List (Nat × (Env → St → Prop))} {k2 : Kont} (I : Env → St → Prop)
    (h : CodeJ P n W0 x e s ⟨fun e' s' => ∃ e1 R1 hs1, I e1 ⟨R1, hs1⟩ ∧ IM.le R1 s'.R ∧ SubE e1 e' ∧ SubL hs1 s'.hs, ret, exi⟩) (k : ∀ e1 s1, I e1 s1 → CodeJ P n W0 y e1 s1 k2) :
    CodeJ P n W0 x e s ⟨fun e' s' => CodeJ P n W0 y e' s' k2, ret, exi⟩ := by
  intro a w ha hw
  refine wp_mono (h a w ha hw) ?_
  rintro z a' w' ⟨e', s', ha', hs', hk⟩
  refine ⟨e', s', ha', hs', ?_⟩
  cases z with
  | normal =>
    obtain ⟨e1, R1, hs1, h1, h2, h3, h4⟩ := hk
    exact CodeJ.env h3 (CodeJ.sub (hs := s'.hs) h4 (CodeJ.le h2 (k e1 _ h1)))
  | exit id => exact hk
  | goto l => exact hk
  | ret => exact hk
  | panic ch => exact hk
  | outgrown => exact hk
theorem Sat.row_le {t size m c : Nat} {A : Option Addr} {cs : List Value} {w : World} (h : Sat W0 ⟨R, .row t size A m c cs :: hs⟩ w) : m ≤ c ∧ cs.length = m * size := by
  have h1 : w.ownsRow 0 t size (.slice A m c) m cs := h.own _ (List.mem_cons_self ..)
  refine ⟨?_, h1.1⟩
  rcases h1.2 with ⟨h2, h3⟩ | ⟨g, cap, cur, h2, h0, h3, h4, _⟩
  · omega
  · simp only [Value.slice.injEq] at h2; omega
theorem OpsJ.rowle {ops : Array Oper} {l : List Oper} {KK : Env → St → Prop} {t size m c : Nat} {A : Option Addr} {cs : List Value} (hp : hs.Perm (.row t size A m c cs :: hs')) (h : m ≤ c → cs.length = m * size → OpsJ P n W0 ops l e ⟨R, hs⟩ KK) : OpsJ P n W0 ops l e ⟨R, hs⟩ KK :=
  fun a w ha hw Q hQ => h (hw.perm hp).row_le.1 (hw.perm hp).row_le.2 a w ha hw Q hQ
theorem CodeJ.rowle {c' : Code} {kk : Kont} {t size m c : Nat} {A : Option Addr} {cs : List Value} (hp : hs.Perm (.row t size A m c cs :: hs')) (h : m ≤ c → cs.length = m * size → CodeJ P n W0 c' e ⟨R, hs⟩ kk) : CodeJ P n W0 c' e ⟨R, hs⟩ kk :=
  fun a w ha hw => h (hw.perm hp).row_le.1 (hw.perm hp).row_le.2 a w ha hw
/-- Of a row of the call's own, its head alone. -/
theorem Sat.shrink {t size m c n' : Nat} {A : Option Addr} {cs : List Value} {w : World} (h : Sat W0 ⟨R, .row t size A n' c cs :: hs⟩ w) (hm : m ≤ n') (hA : n' = 0 → m = n') : Sat W0 ⟨R, .row t size A m c (cs.take (m * size)) :: hs⟩ w := by
  refine Sat.turn (cs' := [.row t size A m c (cs.take (m * size))]) h rfl rfl rfl (Nat.le_refl _) (fun b hb _ => rfl) (fun c' hc' => ?_) (by cases A <;> simp [Own, Chunk.blocks]) (fun b hb => .inl (by simpa [Own, Chunk.blocks] using hb))
  rw [List.mem_singleton.1 hc']
  have h1 : w.ownsRow 0 t size (.slice A n' c) n' cs := h.own _ (List.mem_cons_self ..)
  have hle : m * size ≤ n' * size := Nat.mul_le_mul_right _ hm
  refine ⟨by rw [List.length_take, h1.1]; omega, ?_⟩
  rcases h1.2 with ⟨h2, h3⟩ | ⟨g, cap, cur, h2, h0, h3, h4, h5, h6, h7⟩
  · have := hA h3
    subst this
    exact .inl ⟨h2, h3⟩
  · simp only [Value.slice.injEq] at h2
    obtain ⟨rfl, _, rfl⟩ := h2
    exact .inr ⟨g, _, cur, rfl, h0, h3, by omega, h5, h6, by rw [← h7, List.take_take]; congr 1; omega⟩
theorem OpsJ.shrink {ops : Array Oper} {l : List Oper} {KK : Env → St → Prop} {t size m c n' : Nat} {A : Option Addr} {cs : List Value} (hp : hs.Perm (.row t size A n' c cs :: hs')) (hm : m ≤ n') (hA : n' = 0 → m = n') (h : OpsJ P n W0 ops l e ⟨R, .row t size A m c (cs.take (m * size)) :: hs'⟩ KK) : OpsJ P n W0 ops l e ⟨R, hs⟩ KK :=
  fun a w ha hw Q hQ => h a w ha ((hw.perm hp).shrink hm hA) Q hQ
theorem CodeJ.shrink {c' : Code} {kk : Kont} {t size m c n' : Nat} {A : Option Addr} {cs : List Value} (hp : hs.Perm (.row t size A n' c cs :: hs')) (hm : m ≤ n') (hA : n' = 0 → m = n') (h : CodeJ P n W0 c' e ⟨R, .row t size A m c (cs.take (m * size)) :: hs'⟩ kk) : CodeJ P n W0 c' e ⟨R, hs⟩ kk :=
  fun a w ha hw => h a w ha ((hw.perm hp).shrink hm hA)

/-! ### A function -/
/-- What a function hands back. -/
def ResJ (P : Program) (n : Nat) (fn : Func) (e : Env) (s : St) (v : Value) : Prop := ∀ W0 a w, Sub n e a → Sat W0 s w → (results fn a.tmps).run P w = .ok v w
def Ret (P : Program) (n : Nat) (fn : Func) (R0 : IM) (post : Value → IM → List Chunk → Prop) (e : Env) (s : St) : Prop :=
  ∃ v D hs2, ResJ P n fn e s v ∧ IM.le R0 s.R ∧ IM.le D s.R ∧ IM.dis R0 D ∧ SubL hs2 s.hs ∧ post v D hs2
theorem CallJ.of_code {f : FuncId} {fn : Func} {c : Code} {args : List Value} {e0 : Env} {post : Value → IM → List Chunk → Prop} (hf : P.funcs[f]? = some fn) (hb : fn.body = some c) (hn : fn.ntmps = n)
    (he : ∀ t v, eget e0 t = some v → args[t]? = some v) (hargs : Nat.ble args.length n = true)
    (h : ∀ W0, CodeJ P n W0 c e0 ⟨R, hs⟩ ⟨Ret P n fn R post, Ret P n fn R post, []⟩) : CallJ P f args.toArray ⟨R, hs⟩ post := by
  intro w hw
  refine calls_of_wp hf hb ?_
  have hsub : Sub n e0 { tmps := args.toArray ++ Array.replicate (fn.ntmps - args.toArray.size) undef, defers := [] } := by
    refine ⟨rfl, ?_, fun t v ht => ?_⟩
    · have := Nat.le_of_ble_eq_true hargs
      simp [hn]; omega
    · have h1 := he t v ht
      have h2 : t < args.length := by
        rcases Nat.lt_or_ge t args.length with h | h
        · exact h
        · rw [List.getElem?_eq_none h] at h1; cases h1
      rw [Array.getElem?_append]
      simp [h2, h1]
      rw [List.getElem?_eq_getElem h2] at h1
      simpa using h1
  refine wp_mono (h w _ w hsub hw) ?_
  rintro z a' w' ⟨e', s', ha', hs', hk⟩
  have fin : Ret P n fn R post e' s' → ∃ v, (results fn a'.tmps).run P w' = .ok v w' ∧ ∃ v1 D hs1, Ending.returned v = .returned v1 ∧ Sat w ⟨R.or D, hs1⟩ w' ∧ IM.dis R D ∧ post v1 D hs1 := by
    rintro ⟨v, D, hs2, h1, h2, h3, h4, h5, h6⟩
    exact ⟨v, h1 w a' w' ha' hs', v, D, hs2, rfl, (Sat.sub (R := s'.R) hs' h5).le (IM.or_le h2 h3), h4, h6⟩
  cases z with
  | normal => obtain ⟨v, h1, h2⟩ := fin hk; exact ⟨ha'.defers, v, h1, h2⟩
  | ret => obtain ⟨v, h1, h2⟩ := fin hk; exact ⟨ha'.defers, v, h1, h2⟩
  | exit id => obtain ⟨J, hJ, _⟩ := hk; simp [xget] at hJ
  | goto l => exact hk.elim
  | panic ch => exact hk.elim
  | outgrown => exact hk.elim
theorem Ret.mk' {fn : Func} {R0 : IM} {post : Value → IM → List Chunk → Prop} {v : Value} {D : IM} {hs2 : List Chunk} (hpost : post v D hs2) (hres : ResJ P n fn e s v) (hle : IM.le R0 s.R) (hD : IM.le D s.R) (hdis : IM.dis R0 D) (hsub : SubL hs2 s.hs) : Ret P n fn R0 post e s :=
  ⟨v, D, hs2, hres, hle, hD, hdis, hsub, hpost⟩
theorem Ret.mk0 {fn : Func} {R0 : IM} {post : Value → IM → List Chunk → Prop} {v : Value} {hs2 : List Chunk} (hpost : post v IM.nil hs2) (hres : ResJ P n fn e s v) (hle : IM.le R0 s.R) (hsub : SubL hs2 s.hs) : Ret P n fn R0 post e s :=
  ⟨v, IM.nil, hs2, hres, hle, IM.le_nil _, IM.dis_nil _, hsub, hpost⟩
theorem ResJ.one {fn : Func} {t : Nat} {v : Value} (h : fn.results = #[.tmp t]) (hv : eget e t = some v) : ResJ P n fn e s v := by
  intro W0 a w ha hw
  have := ha.get t v hv
  rw [results_tmp h]
  simp [this]
theorem ResJ.none {fn : Func} (h : fn.results = #[]) : ResJ P n fn e s (.tuple #[]) := fun W0 a w ha hw => results_none h _ P w
theorem ResJ.two {fn : Func} {t u : Nat} {v v' : Value} (h : fn.results = #[.tmp t, .tmp u]) (hv : eget e t = some v) (hv' : eget e u = some v') : ResJ P n fn e s (.tuple #[v, v']) := by
  intro W0 a w ha hw
  have h1 := ha.get t v hv
  have h2 := ha.get u v' hv'
  simp [results, h, h1, h2]
theorem ResJ.three {fn : Func} {t u q : Nat} {v v' v'' : Value} (h : fn.results = #[.tmp t, .tmp u, .tmp q]) (hv : eget e t = some v) (hv' : eget e u = some v') (hv'' : eget e q = some v'') : ResJ P n fn e s (.tuple #[v, v', v'']) := by
  intro W0 a w ha hw
  have h1 := ha.get t v hv
  have h2 := ha.get u v' hv'
  have h3 := ha.get q v'' hv''
  simp [results, h, h1, h2, h3]
end
theorem args_gen : ∀ (l : List Value) (k t : Nat) (v : Value), eget ((l.zipIdx k).map fun p => (p.2, p.1)) t = some v → k ≤ t ∧ l[t - k]? = some v
  | [], k, t, v, h => by simp [eget] at h
  | u :: r, k, t, v, h => by
    simp only [List.zipIdx_cons, List.map_cons, eget] at h
    cases hb : Nat.beq k t with
    | true =>
      rw [hb] at h
      have := Nat.eq_of_beq_eq_true hb
      subst this
      exact ⟨Nat.le_refl _, by simpa using h⟩
    | false =>
      rw [hb] at h
      obtain ⟨h1, h2⟩ := args_gen r (k + 1) t v h
      refine ⟨by omega, ?_⟩
      rw [show t - k = (t - (k + 1)) + 1 from by omega, List.getElem?_cons_succ]
      exact h2
section
variable {P : Program} {n : Nat} {R : IM} {hs : List Chunk} {f : FuncId} {fn : Func} {c : Code} {post : Value → IM → List Chunk → Prop}
theorem CallJ.of0 (hf : P.funcs[f]? = some fn) (hb : fn.body = some c) (hn : fn.ntmps = n) (h : ∀ W0, CodeJ P n W0 c [] ⟨R, hs⟩ ⟨Ret P n fn R post, Ret P n fn R post, []⟩) : CallJ P f #[] ⟨R, hs⟩ post :=
  CallJ.of_code (args := []) hf hb hn (fun t v ht => (args_gen [] 0 t v ht).2) (Nat.ble_eq_true_of_le (Nat.zero_le _)) h
theorem CallJ.of1 {v0 : Value} (hf : P.funcs[f]? = some fn) (hb : fn.body = some c) (hn : fn.ntmps = n) (ha : Nat.ble 1 n = true) (h : ∀ W0, CodeJ P n W0 c [(0, v0)] ⟨R, hs⟩ ⟨Ret P n fn R post, Ret P n fn R post, []⟩) : CallJ P f #[v0] ⟨R, hs⟩ post :=
  CallJ.of_code (args := [v0]) hf hb hn (fun t v ht => (args_gen [v0] 0 t v ht).2) ha h
theorem CallJ.of2 {v0 v1 : Value} (hf : P.funcs[f]? = some fn) (hb : fn.body = some c) (hn : fn.ntmps = n) (ha : Nat.ble 2 n = true) (h : ∀ W0, CodeJ P n W0 c [(0, v0), (1, v1)] ⟨R, hs⟩ ⟨Ret P n fn R post, Ret P n fn R post, []⟩) : CallJ P f #[v0, v1] ⟨R, hs⟩ post :=
  CallJ.of_code (args := [v0, v1]) hf hb hn (fun t v ht => (args_gen [v0, v1] 0 t v ht).2) ha h
theorem CallJ.of3 {v0 v1 v2 : Value} (hf : P.funcs[f]? = some fn) (hb : fn.body = some c) (hn : fn.ntmps = n) (ha : Nat.ble 3 n = true) (h : ∀ W0, CodeJ P n W0 c [(0, v0), (1, v1), (2, v2)] ⟨R, hs⟩ ⟨Ret P n fn R post, Ret P n fn R post, []⟩) : CallJ P f #[v0, v1, v2] ⟨R, hs⟩ post :=
  CallJ.of_code (args := [v0, v1, v2]) hf hb hn (fun t v ht => (args_gen [v0, v1, v2] 0 t v ht).2) ha h
theorem CallJ.of4 {v0 v1 v2 v3 : Value} (hf : P.funcs[f]? = some fn) (hb : fn.body = some c) (hn : fn.ntmps = n) (ha : Nat.ble 4 n = true) (h : ∀ W0, CodeJ P n W0 c [(0, v0), (1, v1), (2, v2), (3, v3)] ⟨R, hs⟩ ⟨Ret P n fn R post, Ret P n fn R post, []⟩) : CallJ P f #[v0, v1, v2, v3] ⟨R, hs⟩ post :=
  CallJ.of_code (args := [v0, v1, v2, v3]) hf hb hn (fun t v ht => (args_gen [v0, v1, v2, v3] 0 t v ht).2) ha h
end
/-! ### Handy forms -/
theorem SubL.refl : ∀ l : List Chunk, SubL l l
  | [] => .nil _
  | c :: r => .cons (List.Perm.refl _) (SubL.refl r)
theorem SubL.of_perm {l l' : List Chunk} (h : l'.Perm l) : SubL l l' := by
  induction l generalizing l' with
  | nil => exact .nil _
  | cons c r ih => exact .cons h (SubL.refl r)
theorem SubL.app (l l' : List Chunk) : SubL l (l ++ l') := by
  induction l with
  | nil => exact .nil _
  | cons c r ih => exact .cons (List.Perm.refl _) ih
def nth : List Value → Nat → Option Value
  | [], _ => none
  | v :: _, 0 => some v
  | _ :: r, m + 1 => nth r m
theorem nth_get : ∀ (l : List Value) (m : Nat), nth l m = l[m]?
  | [], m => by simp [nth]
  | v :: r, 0 => by simp [nth]
  | v :: r, m + 1 => by simp [nth, nth_get r m]
section
variable {P : Program} {n : Nat} {W0 : World} {e : Env} {R : IM} {hs : List Chunk} {ty : TypeId} {v : Value}
variable {x y z : Operand} {t t' : TypeId} {k : IntKind} {i j : Int}
theorem OpP.load_blk {d : TypeDesc} {bt sz g off : Nat} {zr cs : List Value} {tb : TypeId} [ht : Ty P t d sz bt zr] (hd : notAgg d = true) (hx : ev e x = some (.pointer (some ⟨g, off, none⟩)))
    (hm : .blk g cs tb ∈ hs) (hv : nth cs off = some v) : OpP P n W0 (.load t x) ty e ⟨R, hs⟩ v :=
  OpP.load1 hd hx (Src.ofBlk hm) (by rw [adr, Option.getD_some, add_plain]) (by rw [← nth_get]; exact hv)
theorem OpP.loadN_blk {d : TypeDesc} {bt sz g : Nat} {zr cs : List Value} {tb : TypeId} [ht : Ty P t d sz bt zr] (hd : notAgg d = false) (hx : ev e x = some (.pointer (some ⟨g, 0, none⟩)))
    (hm : .blk g cs tb ∈ hs) (hl : Nat.beq cs.length sz = true) : OpP P n W0 (.load t x) ty e ⟨R, hs⟩ (.agg cs.toArray) :=
  OpP.loadN hd hx (Src.ofBlk hm) (m := 0) (by rw [adr, Option.getD_some, add_plain]) (fun j _ => by simp) (Nat.eq_of_beq_eq_true hl)
/-- A struct's field: its type, its place, how many cells. -/
class Fld (P : Program) (t : TypeId) (m : Nat) (ft off size : outParam Nat) : Prop where
  is : ∃ fs f, P.underlying t = some (.struct fs) ∧ fs[m]? = some f ∧ f.type = ft ∧ f.offset = off ∧ ∀ w, (sizeOf ft).run P w = .ok size w
theorem OpP.fldAddr {s : St} {ad : Addr} {m ft off size : Nat} [hf : Fld P t m ft off size] (hx : ev e x = some (.pointer (some ad))) (hsz : Nat.blt 0 size = true) : OpP P n W0 (.fieldAddr t x m) ty e s (.pointer (some (ad.add off))) := by
  intro o ho hty a w ha hw
  obtain ⟨fs, f, h1, h2, rfl, rfl, h3⟩ := hf.is
  have hz : size ≠ 0 := by have : 0 < size := by simpa using hsz
                           omega
  simp [execOp, ho, ha.ev hx, Instr.fieldAt, run_underlying h1, h2, Instr.sureAddr, fieldPlace, h3 w, hz]
theorem OpP.fldAddr_lit {s : St} {g o m ft off size : Nat} [hf : Fld P t m ft off size] (hx : ev e x = some (.pointer (some ⟨g, o, none⟩))) (hsz : Nat.blt 0 size = true) : OpP P n W0 (.fieldAddr t x m) ty e s (.pointer (some ⟨g, o + off, none⟩)) := by
  have := OpP.fldAddr (P := P) (n := n) (W0 := W0) (s := s) (ty := ty) (t := t) (m := m) hx hsz
  rwa [add_lit] at this
theorem OpP.fld {s : St} {cs : List Value} {m ft off size : Nat} {d : TypeDesc} {bt sz' : Nat} {zr : List Value} [hf : Fld P t m ft off size] [ht : Ty P ft d sz' bt zr] (hx : ev e x = some (.agg cs.toArray)) (hd : notAgg d = true) (hc : nth cs off = some v) : OpP P n W0 (.field t x m) ty e s v := by
  intro o ho hty a w ha hw
  obtain ⟨fs, f, h1, h2, rfl, rfl, h3⟩ := hf.is
  have hagg := run_isAgg (P := P) ht.und w
  rw [nth_get] at hc
  simp [execOp, ho, ha.ev hx, Instr.field, run_underlying h1, h2, asAgg, part, hagg, hd, hc]
theorem get1 {α : Type} (a b : α) (l : List α) : (a :: b :: l)[1]? = some b := rfl
theorem get2 {α : Type} (a b c : α) (l : List α) : (a :: b :: c :: l)[2]? = some c := rfl
theorem get3 {α : Type} (a b c d : α) (l : List α) : (a :: b :: c :: d :: l)[3]? = some d := rfl
theorem drop1 {α : Type} (a : α) (l : List α) : (a :: l).drop 1 = l := rfl
theorem drop2 {α : Type} (a b : α) (l : List α) : (a :: b :: l).drop 2 = l := rfl
theorem drop3 {α : Type} (a b c : α) (l : List α) : (a :: b :: c :: l).drop 3 = l := rfl
theorem drop4 {α : Type} (a b c d : α) (l : List α) : (a :: b :: c :: d :: l).drop 4 = l := rfl
theorem take1 {α : Type} (a : α) (l : List α) : (a :: l).take 1 = [a] := rfl
theorem take2 {α : Type} (a b : α) (l : List α) : (a :: b :: l).take 2 = [a, b] := rfl
theorem take3 {α : Type} (a b c : α) (l : List α) : (a :: b :: c :: l).take 3 = [a, b, c] := rfl
theorem take4 {α : Type} (a b c d : α) (l : List α) : (a :: b :: c :: d :: l).take 4 = [a, b, c, d] := rfl
theorem OpP.pick_dt {s : St} {q : Prop} [Decidable q] {u : Value} (hz : ev e z = some (.bool (decide q))) (hb : q) (hx : ev e x = some u) : OpP P n W0 (.pick z x y) ty e s u := OpP.pick_t hz (decide_eq_true hb) hx
theorem OpP.pick_df {s : St} {q : Prop} [Decidable q] {u : Value} (hz : ev e z = some (.bool (decide q))) (hb : ¬ q) (hy : ev e y = some u) : OpP P n W0 (.pick z x y) ty e s u := OpP.pick_f hz (decide_eq_false hb) hy
theorem ne_get {cs : List Value} {j : Nat} {u : Value} (h : cs[j]? = some u) : cs ≠ [] := fun e => by rw [e] at h; simp at h
theorem OpP.idx1 {s : St} {A : Option Addr} {m c : Nat} {u : TypeId} {sz bt bt' : Nat} {zr zr' cs : List Value} {d : TypeDesc} [ht : Ty P t (.slice u) sz bt zr] [hu : Ty P u d 1 bt' zr'] (hx : ev e x = some (.slice A m c)) (hy : ev e y = some (.int k i))
    (h0 : 0 ≤ i) (h1 : i < m) (hA : Src s A cs) (hn : cs ≠ []) : OpP P n W0 (.indexAddr t x y) ty e s (.pointer (some ((adr A).add i.toNat))) := by
  have := OpP.indexAddr (P := P) (n := n) (W0 := W0) (s := s) (ty := ty) (t := t) hx hy h0 h1 (Src.some hA hn)
  rwa [Nat.mul_one] at this
theorem OpP.idxN {s : St} {A : Option Addr} {m c : Nat} {u : TypeId} {sz bt sz' bt' : Nat} {zr zr' cs : List Value} {d : TypeDesc} [ht : Ty P t (.slice u) sz bt zr] [hu : Ty P u d sz' bt' zr'] (hx : ev e x = some (.slice A m c)) (hy : ev e y = some (.int k i))
    (h0 : 0 ≤ i) (h1 : i < m) (hA : Src s A cs) (hn : cs ≠ []) : OpP P n W0 (.indexAddr t x y) ty e s (.pointer (some ((adr A).add (i.toNat * sz')))) :=
  OpP.indexAddr (P := P) (n := n) (W0 := W0) (s := s) (ty := ty) (t := t) hx hy h0 h1 (Src.some hA hn)
theorem OpP.shr_nat {s : St} {u q : Nat} {yk : IntKind} (hx : ev e x = some (.int k (u : Int))) (hy : ev e y = some (.int yk (q : Int))) (hq : Nat.ble q k.bits = true) : OpP P n W0 (.binOp .shr t x y t') ty e s (.int k ((u / 2 ^ q : Nat) : Int)) := by
  have h1 := OpP.shr (P := P) (n := n) (W0 := W0) (s := s) (ty := ty) (t := t) (t' := t') hx hy (by omega)
  have h2 : q ≤ k.bits := Nat.le_of_ble_eq_true hq
  have h3 : (u : Int).fdiv (2 ^ (Nat.min (q : Int).toNat k.bits)) = ((u / 2 ^ q : Nat) : Int) := by
    rw [Int.toNat_natCast, show Nat.min q k.bits = q from Nat.min_eq_left h2]
    rw [Int.fdiv_eq_ediv_of_nonneg _ (by exact Int.le_of_lt (Int.pow_pos (by decide)))]
    norm_cast
  rwa [h3] at h1
theorem OpP.add_in {s : St} (hx : ev e x = some (.int .i64 i)) (hy : ev e y = some (.int .i64 j)) (h0 : -9223372036854775808 ≤ i + j) (h1 : i + j ≤ 9223372036854775807) : OpP P n W0 (.binOp .add t x y t') ty e s (.int .i64 (i + j)) := by
  have := OpP.add (P := P) (n := n) (W0 := W0) (s := s) (ty := ty) (t := t) (t' := t') hx hy
  rwa [IntWalk.i64_in _ (by omega)] at this
theorem OpP.sub_in {s : St} (hx : ev e x = some (.int .i64 i)) (hy : ev e y = some (.int .i64 j)) (h0 : -9223372036854775808 ≤ i - j) (h1 : i - j ≤ 9223372036854775807) : OpP P n W0 (.binOp .sub t x y t') ty e s (.int .i64 (i - j)) := by
  have := OpP.sub (P := P) (n := n) (W0 := W0) (s := s) (ty := ty) (t := t) (t' := t') hx hy
  rwa [IntWalk.i64_in _ (by omega)] at this
end
end Go.Proofs.Ytdicpnnmhjgnbaa.FW
