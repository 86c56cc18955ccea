/- The operations that write memory; reslicing; conversions between strings and bytes; calls; a function's contract out of its code. -/
import Derived.Test.YtdicpnnmhjgnbaaF3
import Derived.Maps.AppendAt
namespace Go.Proofs.Ytdicpnnmhjgnbaa.FW
open Go Go.RowKit
set_option linter.unusedVariables false
set_option linter.unusedSimpArgs false
section
variable {P : Program} {n : Nat} {W0 : World} {e : Env} {s : St} {R : IM} {hs hs' : List Chunk} {op : Op} {ty : TypeId} {v : Value} {K : Value → St → Prop}
variable {x y z : Operand} {t t' : TypeId} {k : IntKind} {i j : Int}

/-! ### Stores -/
theorem run_storeVar {d : TypeDesc} {sz bt : Nat} {zr : List Value} (ht : Ty P t d sz bt zr) {w : World} {g off : Nat} {t' : TypeId} {cur us : List Value} {u : Value} (hu : u.cells = us.toArray) (hg : w.heap[g]? = some (.cells cur.toArray t' (0, 0)))
    (hl : us.length = sz) (hfit : off + us.length ≤ cur.length) (h1 : us.all (·.oneCell') = true) :
    (storeVar t ⟨g, off, none⟩ u).run P w = .ok () (w.setRow g (lsplice cur off us).toArray) := by
  have hsz := ht.size_run w
  have h2 := run_storeCells_at P g off t' us 0 cur.toArray w hg (by simpa using hfit) (fun v hv => List.all_eq_true.1 h1 v hv)
  simp only [Nat.add_zero] at h2
  have e : (lsplice cur off us) = cur.take off ++ us ++ cur.drop (off + us.length) := rfl
  simp [storeVar, hu, hsz, hl, h2, e]
theorem Sat.setRow {w : World} {g : Nat} {t' : TypeId} {cur new : List Value} (h : Sat W0 ⟨R, .blk g cur t' :: hs⟩ w) : Sat W0 ⟨R, .blk g new t' :: hs⟩ (w.setRow g new.toArray) := by
  have hg : w.heap[g]? = some (.cells cur.toArray t' (0, 0)) := h.own _ (List.mem_cons_self ..)
  refine Sat.turn (cs' := [.blk g new t']) h rfl rfl rfl (by simp) (fun b hb hbc => setRow_other w g b _ (fun e => hbc (by simp [Chunk.blocks, e]))) (fun c' hc' => ?_) (by simp [Own, Chunk.blocks]) (fun b hb => .inl (by simpa [Own, Chunk.blocks] using hb))
  rw [List.mem_singleton.1 hc']
  exact setRow_heap w g _ _ t' _ hg
theorem OpJ.store {d : TypeDesc} {sz bt : Nat} {zr : List Value} [ht : Ty P t d sz bt zr] {g off : Nat} {t' : TypeId} {cur us : List Value} {u : Value} (hx : ev e x = some (.pointer (some ⟨g, off, none⟩))) (hy : ev e y = some u) (hu : u.cells = us.toArray)
    (hp : hs.Perm (.blk g cur t' :: hs')) (hl : us.length = sz) (hfit : Nat.ble (off + us.length) cur.length = true) (h1 : us.all (·.oneCell') = true)
    (hk : K undef ⟨R, .blk g (lsplice cur off us) t' :: hs'⟩) : OpJ P n W0 (.store t x y) ty e ⟨R, hs⟩ K := by
  intro o ho hty a w ha hw next Q hn
  have hw' := hw.perm hp
  have hg : w.heap[g]? = some (.cells cur.toArray t' (0, 0)) := hw'.own _ (List.mem_cons_self ..)
  have h2 := run_storeVar ht hu hg hl (Nat.le_of_ble_eq_true hfit) h1
  unfold Oper.wp
  have : (execOp a.eval o).run P w = .ok .skip (w.setRow g (lsplice cur off us).toArray) := by
    simp [execOp, ho, ha.ev hx, ha.ev hy, Instr.storeAt, Instr.sureAddr, h2]
  rw [this]
  exact hn _ _ _ hw'.setRow hk
/-- A store into an element of a row of the call's own. -/
theorem OpJ.store_row {d : TypeDesc} {sz bt : Nat} {zr : List Value} [ht : Ty P t d sz bt zr] {A : Option Addr} {off m c size : Nat} {t' : TypeId} {cur us : List Value} {u : Value} {ad : Addr} (hx : ev e x = some (.pointer (some ad))) (hy : ev e y = some u) (hu : u.cells = us.toArray)
    (hp : hs.Perm (.row t' size A m c cur :: hs')) (had : ad = (adr A).add off) (hne : cur ≠ []) (hl : us.length = sz) (hfit : off + us.length ≤ cur.length) (h1 : us.all (·.oneCell') = true)
    (hk : K undef ⟨R, .row t' size A m c (lsplice cur off us) :: hs'⟩) : OpJ P n W0 (.store t x y) ty e ⟨R, hs⟩ K := by
  intro o ho hty a w ha hw next Q hn
  have hw' := hw.perm hp
  have hrow : w.ownsRow 0 t' size (.slice A m c) m cur := hw'.own _ (List.mem_cons_self ..)
  rcases hrow.2 with ⟨h3, h4⟩ | ⟨g, cap, all, h3, h0, hg, hnc, hcm, hcs, htake⟩
  · exact absurd (List.eq_nil_of_length_eq_zero (by rw [hrow.1, h4]; simp)) hne
  · simp only [Value.slice.injEq] at h3
    obtain ⟨rfl, _, rfl⟩ := h3
    have hcl : cur.length ≤ all.size := by rw [← htake]; simp only [List.length_take, Array.length_toList]; exact Nat.min_le_right _ _
    have had' : ad = ⟨g, off, none⟩ := by rw [had, adr, Option.getD_some, add_plain]
    subst had'
    have h2 := run_storeVar (P := P) (cur := all.toList) (off := off) ht hu (by simpa using hg) hl (by simp; omega) h1
    unfold Oper.wp
    have : (execOp a.eval o).run P w = .ok .skip (w.setRow g (lsplice all.toList off us).toArray) := by
      simp [execOp, ho, ha.ev hx, ha.ev hy, Instr.storeAt, Instr.sureAddr, h2]
    rw [this]
    refine hn _ _ _ ?_ hk
    refine Sat.turn (cs' := [.row t' size (some ⟨g, 0, none⟩) m c (lsplice cur off us)]) hw' rfl rfl rfl (by simp) (fun b hb hbc => setRow_other w g b _ (fun e => hbc (by simp [Chunk.blocks, e]))) (fun c' hc' => ?_) (by simp [Own, Chunk.blocks]) (fun b hb => .inl (by simpa [Own, Chunk.blocks] using hb))
    rw [List.mem_singleton.1 hc']
    have hll : (lsplice cur off us).length = cur.length := by simp only [lsplice, List.length_append, List.length_take, List.length_drop]; omega
    refine ⟨by rw [hll]; exact hrow.1, .inr ⟨g, c, _, rfl, Nat.zero_le _, setRow_heap w g _ _ t' _ hg, hnc, hcm, ?_, ?_⟩⟩
    · simp only [lsplice, List.size_toArray, List.length_append, List.length_take, List.length_drop, Array.length_toList]; omega
    · have hm : m * size = cur.length := hrow.1.symm
      have hc : ∀ q, q < cur.length → all.toList[q]? = cur[q]? := fun q hq => by
        rw [← htake, List.getElem?_take, if_pos (by omega)]
      rw [hm]
      refine List.ext_getElem? fun q => ?_
      simp only [lsplice, List.getElem?_take, List.getElem?_append, List.length_append, List.length_take, List.getElem?_drop, Array.length_toList]
      rw [Nat.min_eq_left (show off ≤ all.size by omega), Nat.min_eq_left (show off ≤ cur.length by omega)]
      by_cases hq : q < cur.length
      · rw [if_pos hq]
        by_cases hq1 : q < off + us.length
        · rw [if_pos hq1, if_pos hq1]
          by_cases hq2 : q < off
          · rw [if_pos hq2, if_pos hq2, if_pos hq2, if_pos hq2, hc q hq]
          · rw [if_neg hq2, if_neg hq2]
        · rw [if_neg hq1, if_neg hq1, show off + us.length + (q - (off + us.length)) = q from by omega, hc q hq]
      · rw [if_neg hq, if_neg (by omega), List.getElem?_eq_none (by omega)]

/-! ### Append -/
theorem OpJ.append {d : TypeDesc} {u : TypeId} {sz bt size bytes : Nat} {zr zr' : List Value} [ht : Ty P t (.slice u) sz bt zr] [hu : Ty P u d size bytes zr'] {A B : Option Addr} {m c m' c' : Nat} {cs news : List Value}
    (hx : ev e x = some (.slice A m c)) (hy : ev e y = some (.slice B m' c')) (hp : hs.Perm (.row u size A m c cs :: hs')) (hB : Src ⟨R, hs⟩ B news) (hl : news.length = m' * size)
    (hz : zr'.length = size) (hsz : Nat.blt 0 size = true) (h1 : news.all (·.oneCell') = true) (hbytes : (m + m') * bytes ≤ 140737488355328) (hcnt : m + m' ≤ 140737488355328)
    (hk : ∀ A' c', K (.slice A' (m + m') c') ⟨R, .row u size A' (m + m') c' (cs ++ news) :: hs'⟩) : OpJ P n W0 (.call ⟨.builtin .append, #[x, y], #[t, t]⟩) ty e ⟨R, hs⟩ K := by
  intro o ho hty a w ha hw next Q hn
  have hw' := hw.perm hp
  obtain ⟨i, z, hi1, hi2, hi3, hi4, hi5⟩ := hu.info
  have hrow : w.ownsRow 0 u size (.slice A m c) m cs := hw'.own _ (List.mem_cons_self ..)
  have hsz' : 0 < size := by simpa using hsz
  have hmain : ∃ v' w', (Builtin.append_ #[t, t] ty #[.slice A m c, .slice B m' c']).run P w = .ok v' w' ∧ w'.ownsRow 0 u size v' (m + m') (cs ++ news) ∧ w.grownBy w' (Value.ownBlock (.slice A m c)) ∧
      (∃ A' c', v' = .slice A' (m + m') c') ∧ (∀ b, v'.ownBlock = some b → Value.ownBlock (.slice A m c) = some b ∨ w.heap.size ≤ b) := by
    have hmc : m ≤ c := by
      rcases hrow.2 with ⟨h3, h4⟩ | ⟨g, cap, all, h3, h0, hg, hnc, _⟩
      · omega
      · simp only [Value.slice.injEq] at h3; omega
    cases B with
    | none =>
      have hnn : news = [] := by
        rcases Decidable.em (news = []) with h | h
        · exact h
        · have := ((hB W0 w hw).1 h); cases this
      subst hnn
      have hm0 : m' = 0 := by
        rcases Nat.eq_zero_or_pos m' with h | h
        · exact h
        · have := Nat.mul_pos h hsz'; simp at hl; omega
      subst hm0
      refine ⟨.slice A m c, w, ?_, by simpa using hrow, ⟨rfl, rfl, rfl, Nat.le_refl _, fun _ _ _ => rfl⟩, ⟨A, c, rfl⟩, fun b hb => .inl hb⟩
      have hss := hu.size_run w
      cases A <;> simp [Builtin.append_, run_underlying ht.und, hss, Builtin.lenOf, Builtin.firstCells, hmc, storeCells]
    | some ad =>
      obtain ⟨v', w', h3, h4, h5, _, h6⟩ := run_append_own_at (P := P) w 0 t ty u i z size bytes ht.und hi1 hi4 hi2 hi3 (by rw [hi5]; simpa using hz) hsz' (.slice A m c) m cs hrow ad m' c' news hl (fun j v hj => ((hB W0 w hw).2 j v hj)) (fun v hv => List.all_eq_true.1 h1 v hv) (by simp only [maxLen]; omega) hbytes (Nat.zero_le _)
      refine ⟨v', w', h3, h4, h5, ?_, fun b hb => ?_⟩
      · rcases h4.2 with ⟨h7, h8⟩ | ⟨g, cap, all, h7, _⟩
        · exact ⟨none, 0, by rw [h7, h8]⟩
        · exact ⟨_, cap, h7⟩
      · rcases h6 with h7 | h7
        · exact .inl (h7 ▸ hb)
        · rw [h7] at hb; simp at hb; exact .inr (by omega)
  obtain ⟨v', w', h3, h4, h5, ⟨A', c'', rfl⟩, h6⟩ := hmain
  unfold Oper.wp
  have : (execOp a.eval o).run P w = .ok (.value (.slice A' (m + m') c'')) w' := by
    simp [execOp, ho, ha.ev hx, ha.ev hy, resolve, invoke, builtin, hty, h3]
  rw [this]
  refine hn _ _ _ ?_ (hk A' c'')
  have hown : ∀ (X : Option Addr) (p q : Nat) (b : Nat), b ∈ (Chunk.row u size X p q (cs ++ news)).blocks ↔ Value.ownBlock (.slice X p q) = some b := fun X p q b => by
    cases X <;> simp [Chunk.blocks, Value.ownBlock]
    exact eq_comm
  have hown' : ∀ (X : Option Addr) (p q : Nat) (b : Nat), b ∈ (Chunk.row u size X p q cs).blocks ↔ Value.ownBlock (.slice X p q) = some b := fun X p q b => by
    cases X <;> simp [Chunk.blocks, Value.ownBlock]
    exact eq_comm
  refine Sat.turn (cs' := [.row u size A' (m + m') c'' (cs ++ news)]) hw' h5.os h5.tape h5.output h5.size (fun b hb hbc => h5.block b hb (fun e => hbc ((hown' A m c b).2 e.symm))) (fun c' hc' => ?_) ?_ (fun b hb => ?_)
  · rw [List.mem_singleton.1 hc']; exact h4
  · cases A' <;> simp [Own, Chunk.blocks]
  · have hb' : b ∈ (Chunk.row u size A' (m + m') c'' (cs ++ news)).blocks := by simpa [Own] using hb
    rcases h6 b ((hown A' (m + m') c'' b).1 hb') with h7 | h7
    · exact .inl ((hown' A m c b).2 h7)
    · exact .inr h7
end
end Go.Proofs.Ytdicpnnmhjgnbaa.FW
