/- Rules for strings.Builder: a string's bytes appended; its address in itself; its bytes as a string. -/
import Derived.Test.YtdicpnnmhjgnbaaX5
import Derived.Lib.AppendStr
import Derived.Lib.Builder
import Derived.Lib.UnsafeStr
import Derived.Laws.Externs
namespace Go.Proofs.Ytdicpnnmhjgnbaa.FW
open Go Go.RowKit Go.Lib
set_option linter.unusedVariables false
set_option linter.unusedSimpArgs false
section
variable {P : Program} {n : Nat} {W0 : World} {e : Env} {s : St} {R R' : IM} {hs hs' : List Chunk} {op : Op} {ty : TypeId} {v : Value} {K : Value → St → Prop}
variable {x y z : Operand} {t t' : TypeId} {k : IntKind} {i j : Int}
/-- A string's bytes behind a row of bytes of the call's own. -/
theorem OpJ.appStr {u : TypeId} {sz bt sz2 bt2 : Nat} {zr zr2 : List Value} [ht : Ty P t (.slice u) sz bt zr] [hu : Ty P u (.int .u8) 1 1 [.int .u8 0]] [hs2 : Ty P t' .string sz2 bt2 zr2] {A : Option Addr} {m c : Nat} {cs : List Value} {l q : List UInt8} {b : ByteArray}
    (hz0 : (P.info? u).bind (·.zero) = some (.int .u8 0)) (h : app? 1 l b.data.toList = some q) (hl : repL IM.nil cs l) (hn : l.length = m) (hp : hs.Perm (.row u 1 A m c cs :: hs')) (hx : ev e x = some (.slice A m c)) (hy : ev e y = some (.string b))
    (hk : ∀ A' c' cs', repL IM.nil cs' q → K (.slice A' q.length c') ⟨R, .row u 1 A' q.length c' cs' :: hs'⟩) : OpJ P n W0 (.call ⟨.builtin .append, #[x, y], #[t, t']⟩) ty e ⟨R, hs⟩ K := by
  obtain ⟨hb, rfl⟩ := app?_ok h
  intro o ho hty a w ha hw next Q hnx
  have hw' := hw.perm hp
  obtain ⟨i, z, hi1, hi2, hi3, hi4, hi5⟩ := hu.info
  have hz : z = .int .u8 0 := by
    rw [hi1] at hz0
    simp only [Option.bind_some, hi4, Option.some.injEq] at hz0
    exact hz0
  subst hz
  have hbl := bytes_len b
  have hb2 : m + b.size ≤ 140737488355328 := by rw [hbl, hn] at hb; omega
  have hrow : w.ownsRow 0 u 1 (.slice A m c) m cs := hw'.own _ (List.mem_cons_self ..)
  have hrow2 := hrow
  obtain ⟨v', w', h3, h4, h5, h6⟩ := run_append_own_string (P := P) w 0 t t' ty u i ht.und hs2.und hi1 hi4 hi2 hi3 (.slice A m c) m cs hrow b (by unfold maxLen; omega) hb2 (Nat.zero_le _)
  have h7 : ∀ b', v'.ownBlock = some b' → Value.ownBlock (.slice A m c) = some b' ∨ w.heap.size ≤ b' := by
    rcases hrow.2 with ⟨hnil, hm0⟩ | ⟨g, cap, cur, hsl, hbg, hg, hnc, hcm, hcs, htake⟩
    · obtain ⟨v2, w2, k3, k4, _, _⟩ := run_append_own_string (P := P) w w.heap.size t t' ty u i ht.und hs2.und hi1 hi4 hi2 hi3 (.slice A m c) m cs ⟨hrow.1, .inl ⟨hnil, hm0⟩⟩ b (by unfold maxLen; omega) hb2 (Nat.le_refl _)
      rw [h3] at k3
      simp only [Result.ok.injEq] at k3
      obtain ⟨rfl, rfl⟩ := k3
      intro b' hb'
      rcases k4.2 with ⟨rfl, _⟩ | ⟨g, cap, cur, rfl, hbg, _⟩
      · simp [Value.ownBlock] at hb'
      · simp [Value.ownBlock] at hb'
        subst hb'
        exact .inr hbg
    · simp only [Value.slice.injEq] at hsl
      obtain ⟨rfl, _, rfl⟩ := hsl
      by_cases hroom : m + b.size ≤ c
      · have k3 := run_append_room_string (P := P) w t t' ty u i ht.und hs2.und hi1 hi2 g m c cur hg b hroom (by have h9 : cur.size = c := (by simpa using hcs); omega)
        rw [h3] at k3
        simp only [Result.ok.injEq] at k3
        obtain ⟨rfl, _⟩ := k3
        intro b' hb'
        exact .inl (by simpa [Value.ownBlock] using hb')
      · have holds : ∀ j u', cs[j]? = some u' → w.cell? ((⟨g, 0, none⟩ : Addr).add j) = some u' := hrow2.cells (g := g) rfl
        have k3 := run_append_grow_string (P := P) w t t' ty u i (.int .u8 0) ht.und hs2.und hi1 hi4 ⟨g, 0, none⟩ m c cs (by rw [hi2]; simpa using hrow.1) holds b (by omega) (by omega) (by rw [hi3]; exact growslice_fits (by omega) (by omega))
        rw [h3] at k3
        simp only [Result.ok.injEq] at k3
        obtain ⟨rfl, _⟩ := k3
        intro b' hb'
        simp [Value.ownBlock] at hb'
        exact .inr (by omega)
  obtain ⟨A', c', rfl⟩ : ∃ A' c', v' = .slice A' (m + b.size) c' := by
    rcases h4.2 with ⟨h8, h9⟩ | ⟨g, cap, all, h8, _⟩
    · exact ⟨none, 0, by rw [h8, h9]⟩
    · exact ⟨_, cap, h8⟩
  have hlen : (l ++ b.data.toList).length = m + b.size := by rw [List.length_append, hn, hbl]
  have hrep : repL IM.nil (cs ++ strCells b) (l ++ b.data.toList) := repL_app hl (bytes_rep _)
  unfold Oper.wp
  have hrun : (execOp a.eval o).run P w = .ok (.value (.slice A' (m + b.size) c')) w' := by
    simp [execOp, ho, ha.ev hx, ha.ev hy, resolve, invoke, builtin, hty, h3]
  rw [hrun]
  refine hnx _ _ _ ?_ (by have := hk A' c' _ hrep; rwa [hlen] at this)
  have hown : ∀ (X : Option Addr) (p q : Nat) (ds : List Value) (b' : Nat), b' ∈ (Chunk.row u 1 X p q ds).blocks ↔ Value.ownBlock (.slice X p q) = some b' := fun X p q ds b' => by
    cases X <;> simp [Chunk.blocks, Value.ownBlock]
    exact eq_comm
  refine Sat.turn (cs' := [.row u 1 A' (m + b.size) c' (cs ++ strCells b)]) hw' h5.os h5.tape h5.output h5.size (fun b' hb' hbc => h5.block b' hb' (fun e' => hbc ((hown A m c cs b').2 e'.symm))) (fun c'' hc' => ?_) ?_ (fun b' hb' => ?_)
  · rw [List.mem_singleton.1 hc']; exact h4
  · cases A' <;> simp [Own, Chunk.blocks]
  · have hb2' : b' ∈ (Chunk.row u 1 A' (m + b.size) c' (cs ++ strCells b)).blocks := by simpa [Own] using hb'
    rcases h7 b' ((hown A' (m + b.size) c' _ b').1 hb2') with h8 | h8
    · exact .inl ((hown A m c cs b').2 h8)
    · exact .inr h8
theorem blk_shape {w : World} {g : Nat} {cs : List Value} {t : TypeId} (hw : Sat W0 s w) (hm : .blk g cs t ∈ s.hs) : w.shape? g = some (t, cs.length) := by
  have h : w.heap[g]? = some (.cells cs.toArray t (0, 0)) := hw.own _ hm
  simp [World.shape?, h]
/-- An address of a block of the call's own, as an address of anything. -/
theorem OpP.toUns {src dst u : TypeId} {d : TypeDesc} {size bt g o : Nat} {zr cs : List Value} (h1 : P.underlying src = some (.pointer u)) (h2 : P.underlying dst = some .unsafePointer) [hu : Ty P u d size bt zr] (hsz : Nat.blt 0 size = true)
    (hm : .blk g cs t' ∈ s.hs) (ho : Nat.blt o cs.length = true) (hx : ev e x = some (.pointer (some ⟨g, o, none⟩))) : OpP P n W0 (.convert src dst x) ty e s (.pointer (some ⟨g, o, none⟩)) := by
  intro op hop hty a w ha hw
  obtain ⟨i, z, hi1, hi2, _⟩ := hu.info
  have hr := run_to_unsafe (P := P) w ⟨g, o, none⟩ h1 h2 hi1 (by rw [hi2]; have h9 : 0 < size := (by simpa using hsz); omega) (blk_shape hw hm) (by simpa using ho)
  simp [execOp, hop, ha.ev hx, hr]
/-- The way back. -/
theorem OpP.fromUns {src dst u : TypeId} {d : TypeDesc} {size bt g o : Nat} {zr cs : List Value} (h1 : P.underlying src = some .unsafePointer) (h2 : P.underlying dst = some (.pointer u)) [hu : Ty P u d size bt zr]
    (hm : .blk g cs t' ∈ s.hs) (hl : liesAt P P.depth t' (cs.length / P.cellsOf t') o u 1 = true) (hx : ev e x = some (.pointer (some ⟨g, o, none⟩))) : OpP P n W0 (.convert src dst x) ty e s (.pointer (some ⟨g, o, none⟩)) := by
  intro op hop hty a w ha hw
  obtain ⟨i, z, hi1, hi2, _⟩ := hu.info
  have hr := run_from_unsafe (P := P) w ⟨g, o, none⟩ h1 h2 hi1 (blk_shape hw hm) hl
  simp [execOp, hop, ha.ev hx, hr]
/-- abi.NoEscape. -/
theorem OpP.noEscape {f : FuncId} {fn : Func} {ats : Array TypeId} (hf : P.funcs[f]? = some fn) (h1 : (fn.name == "runtime.NumGoroutine") = false) (h2 : fn.body.isNone = true) (h3 : Extern.findNext fn = none) (h4 : Extern.find fn = some Extern.AbiNoEscape.same)
    (hx : ev e x = some v) : OpP P n W0 (.call ⟨.value (.func f), #[x], ats⟩) ty e s v := by
  intro o ho hty a w ha hw
  have h7 : a.eval (.func f) = .func (.func f) #[] #[] := rfl
  have hr := run_callFunc_extern hf h1 h2 h3 h4 #[v] w
  rw [run_noEscape] at hr
  simp [execOp, ho, resolve, h7, Deferred.ofValue, invoke, ha.ev hx, hr, Result.andThen]
theorem OpP.neq_same {ad : Addr} {u : TypeId} {d : TypeDesc} {sz bt sz2 bt2 : Nat} {zr zr2 : List Value} [ht : Ty P t (.pointer u) sz bt zr] [hu : Ty P u d sz2 bt2 zr2] (hx : ev e x = some (.pointer (some ad))) (hy : ev e y = some (.pointer (some ad))) : OpP P n W0 (.binOp .neq t x y t') ty e s (.bool false) := by
  intro o ho hty a w ha hw
  obtain ⟨j, z, hj, _⟩ := hu.info
  have hr := run_neq_ptr_same (P := P) w ad ht.und hj
  simp only [execOp, ho, ha.ev hx, ha.ev hy, eqGuard_at_pointer, hr, Sem.run_bind, Sem.run_pure, Result.andThen_ok]
theorem cells_len {P : Program} {u : TypeId} {d : TypeDesc} {size bt : Nat} {zr : List Value} (hu : Ty P u d size bt zr) : P.cellsOf u = size := by
  obtain ⟨i, z, h1, h2, _⟩ := hu.info
  simp [Program.cellsOf, h1, h2]
/-- unsafe.SliceData of a row of the call's own. -/
theorem OpJ.usd {u : TypeId} {size m c : Nat} {cs : List Value} {A : Option Addr} {t2 : TypeId} (hp : P.underlying ty = some (.pointer u)) (hm : .row t2 size A m c cs ∈ hs) (hx : ev e x = some (.slice A m c))
    (hk : ∀ p, (m = 0 ∨ p = A) → K (.pointer p) ⟨R, hs⟩) : OpJ P n W0 (.call ⟨.builtin .unsafeSliceData, #[x], #[t]⟩) ty e ⟨R, hs⟩ K := by
  intro o ho hty a w ha hw next Q hnx
  have hrow : w.ownsRow 0 t2 size (.slice A m c) m cs := hw.own _ hm
  unfold Oper.wp
  have hgo : ∀ {p : Option Addr} {w' : World}, (Builtin.unsafeSliceData_ #[t] ty #[.slice A m c]).run P w = .ok (.pointer p) w' → (execOp a.eval o).run P w = .ok (.value (.pointer p)) w' := fun {p w'} hr => by
    simp [execOp, ho, ha.ev hx, resolve, invoke, builtin, hty, hr]
  rcases hrow.2 with ⟨h1, h2⟩ | ⟨g, cap, cur, h1, hbg, hg, hnc, hcm, hcs, htake⟩
  · simp only [Value.slice.injEq] at h1
    obtain ⟨rfl, _, _⟩ := h1
    rw [hgo (run_unsafeSliceData_nil (P := P) w _ _ m c)]
    exact hnx _ ⟨R, hs⟩ _ hw (hk _ (.inr rfl))
  · simp only [Value.slice.injEq] at h1
    obtain ⟨rfl, _, rfl⟩ := h1
    by_cases hc : c = 0
    · subst hc
      have hsh : w.shape? (⟨g, 0, none⟩ : Addr).block = some (t2, cur.size) := by simp [World.shape?, hg]
      rw [hgo (run_unsafeSliceData_zero (P := P) w _ ty u hp ⟨g, 0, none⟩ m _ hsh)]
      refine hnx _ ⟨R, hs⟩ _ ?_ (hk _ (.inl (by omega)))
      exact ((hw.alloc (c := .obj w.heap.size (.view ⟨g, 0, none⟩ u)) rfl (heap_alloc_new w _)).perm (List.perm_append_singleton _ _).symm).drop
    · rw [hgo (run_unsafeSliceData_row (P := P) w _ _ ⟨g, 0, none⟩ m c hc)]
      exact hnx _ ⟨R, hs⟩ _ hw (hk _ (.inr rfl))
/-- unsafe.String of a row of bytes of the call's own: the row is given up. -/
theorem OpJ.ustr {u it : TypeId} {bt m c : Nat} {zr cs : List Value} {A p : Option Addr} {l : List UInt8} (hp : P.underlying t = some (.pointer u)) [hu : Ty P u (.int .u8) 1 bt zr] (hl : repL IM.nil cs l) (hn : l.length = m) (hpA : m = 0 ∨ p = A)
    (hperm : hs.Perm (.row u 1 A m c cs :: hs')) (hx : ev e x = some (.pointer p)) (hy : ev e y = some (.int .i64 ((m : Nat) : Int))) (hk : K (.string (strOf l)) ⟨R, hs'⟩) :
    OpJ P n W0 (.call ⟨.builtin .unsafeString, #[x, y], #[t, it]⟩) ty e ⟨R, hs⟩ K := by
  intro o ho hty a w ha hw next Q hnx
  have hw' := hw.perm hperm
  have hrow : w.ownsRow 0 u 1 (.slice A m c) m cs := hw'.own _ (List.mem_cons_self ..)
  have hgo : ∀ {v : Value} {w' : World}, (Builtin.unsafeString_ #[t, it] ty #[.pointer p, .int .i64 ((m : Nat) : Int)]).run P w = .ok v w' → (execOp a.eval o).run P w = .ok (.value v) w' := fun {v w'} hr => by
    simp [execOp, ho, ha.ev hx, ha.ev hy, resolve, invoke, builtin, hty, hr]
  unfold Oper.wp
  by_cases h0 : m = 0
  · have hl0 : l = [] := List.eq_nil_of_length_eq_zero (by omega)
    subst hl0
    have hr := run_unsafeString_none (P := P) w t it ty p
    rw [hgo (by rw [h0]; exact hr)]
    exact hnx _ ⟨R, hs'⟩ _ (hw'.perm (List.perm_append_singleton _ _).symm).drop hk
  · have hpA' : p = A := by rcases hpA with h | h; exact absurd h h0; exact h
    subst hpA'
    rcases hrow.2 with ⟨h1, h2⟩ | ⟨g, cap, cur, h1, hbg, hg, hnc, hcm, hcs, htake⟩
    · exact absurd h2 h0
    · simp only [Value.slice.injEq] at h1
      obtain ⟨rfl, _, rfl⟩ := h1
      have hbc := bytes_cells hl
      have hcur : cur.size = c := by simpa using hcs
      have hr := run_unsafeString_row (P := P) w t it ty u hp (cells_len hu) g cur.size (by simp [World.shape?, hg]) l (by rintro rfl; simp at hn; omega) (by omega) (by unfold maxLen at hcm; omega) (fun j b hj => by
        refine hrow.cells (g := g) rfl j _ ?_
        rw [hbc]; simp [bcells, hj])
      rw [hn] at hr
      rw [hgo hr]
      refine hnx _ ⟨R, hs'⟩ _ ?_ hk
      refine Sat.turn (cs' := []) hw' ?_ ?_ ?_ ?_ (fun b hb hbc => ?_) (fun c' hc' => by cases hc') (by simp [Own]) (fun b hb => by simp [Own] at hb)
      · unfold World.freeze; split <;> rfl
      · unfold World.freeze; split <;> rfl
      · unfold World.freeze; split <;> rfl
      · unfold World.freeze; split <;> simp
      · have hne : b ≠ g := fun e' => hbc (by subst e'; simp [Chunk.blocks])
        unfold World.freeze
        split
        · rfl
        · simp [Array.getElem?_modify, Ne.symm hne]
end
end Go.Proofs.Ytdicpnnmhjgnbaa.FW
