/- octet: Clone, Out, Raw, Bytes; rows of bytes. -/
import Derived.Test.YtdicpnnmhjgnbaaOc1
namespace Go.Proofs.Ytdicpnnmhjgnbaa.FW
open Go Go.RowKit Go.Proofs
set_option linter.unusedVariables false
set_option linter.unusedSimpArgs false
set_option maxRecDepth 100000
set_option maxHeartbeats 4000000
attribute [local irreducible] OpsJ CodeJ OpJ OpQ OpP QuietJ CallJ Src RC
theorem bcells_one (l : List UInt8) : (bcells l).all (·.oneCell') = true := by simp [bcells, Value.oneCell']
theorem RC.isSome {R : IM} {A : Option Addr} {cs : List Value} (h : RC R A cs) (hn : cs ≠ []) : A.isSome = true := by unfold RC at h; exact h.1 hn
theorem clone_calls (R : IM) (A : Option Addr) (m c : Nat) (bs : List UInt8) (hA : RC R A (bcells bs)) (hm : m = bs.length) (hb : bs.length ≤ 1000000000) :
    CallJ Try.prog 57 #[.slice A m c] ⟨R, []⟩ (fun v D hs' => ∃ A' m' c' cs', v = .slice A' m' c' ∧ m' = bs.length ∧ cs' = bcells bs ∧ hs' = [.row 5 1 A' m' c' cs']) := by
  refine CallJ.of1 Try.func57 rfl Try.ntmps57 rfl (fun W0 => ?_)
  cases A with
  | none =>
    have hbs : bs = [] := by
      cases bs with
      | nil => rfl
      | cons b r => have := RC.isSome hA (by simp [bcells]); cases this
    refine CodeJ.nilrow 5 1 ?_
    repeat (first
      | refine CodeJ.seq' ?_
      | refine CodeJ.region ?_
      | refine CodeJ.block ?_
      | refine CodeJ.skip ?_
      | refine CodeJ.exit rfl ?_
      | refine CodeJ.ret' ?_
      | (refine OpsJ.put rfl ?_; first
        | refine OpJ.pure (OpP.assign rfl) ?_
        | refine OpJ.pure (OpP.move rfl) ?_
        | refine OpJ.pure (OpP.eql rfl rfl) ?_
        | refine OpJ.pure (OpP.eql_string rfl rfl) ?_
        | refine OpJ.pure (OpP.eql_bool rfl rfl) ?_
        | refine OpJ.pure (OpP.eql_nil rfl rfl) ?_
        | refine OpJ.pure (OpP.eql_nil_slice rfl rfl) ?_
        | (refine OpJ.buildSlice rfl rfl (by exact rfl) (by exact rfl) rfl (fun _ => ?_); dsimp only [lsplice, take1, take2, take3, take4, drop1, drop2, drop3, drop4, List.take_zero, List.drop_zero, List.cons_append, List.nil_append, List.length_cons, List.length_nil, Nat.reduceAdd, fillL, sliceL, Value.cells, List.toList_toArray, List.append_nil, List.getElem?_cons_zero, get1, get2, get3, Option.getD_some])
        | refine OpJ.append rfl rfl (by first | exact List.Perm.refl _ | exact List.Perm.swap _ _ _ | exact permm2 _ _ _ _ | exact permm3 _ _ _ _ _ | exact permm4 _ _ _ _ _ _ | exact permm5 _ _ _ _ _ _ _) (Src.ofRow (by repeat (first | exact List.Mem.head _ | apply List.Mem.tail))) (by exact rfl) (by exact rfl) (by exact rfl) (by exact rfl) (by omega) (by omega) (fun _ _ => ?_))
      | refine OpsJ.nil ?_
      | refine CodeJ.cond_t rfl (by with_reducible assumption) ?_
      | refine CodeJ.cond_f rfl (by with_reducible assumption) ?_
      | refine CodeJ.cond_dt rfl (by omega) ?_
      | refine CodeJ.cond_df rfl (by omega) ?_
      | refine CodeJ.cond_t rfl rfl ?_
      | refine CodeJ.cond_f rfl rfl ?_)
    refine Ret.mk0 ⟨_, _, _, _, rfl, ?_, ?_, rfl⟩ (ResJ.one Try.results57 rfl) (by repeat (first | exact IM.le_refl _ | assumption | refine IM.le_trans ?_ (IM.le_or _ _))) (by repeat (first | exact SubL.nil _ | refine SubL.p0 ?_ | refine SubL.p1 ?_ | refine SubL.p2 ?_ | refine SubL.p3 ?_ | refine SubL.p4 ?_ | refine SubL.p5 ?_ | refine SubL.p6 ?_ | refine SubL.p7 ?_))
    · simp [hbs]
    · simp [hbs, bcells]
  | some ad =>
    repeat (first
      | (refine OpsJ.put (d := 7) rfl (OpJ.append rfl rfl (by first | exact List.Perm.refl _ | exact List.Perm.swap _ _ _ | exact permm2 _ _ _ _ | exact permm3 _ _ _ _ _ | exact permm4 _ _ _ _ _ _ | exact permm5 _ _ _ _ _ _ _) (Src.ofR hA) (by simp [bcells_length, hm]) (by exact rfl) (by exact rfl) (bcells_one _) (by omega) (by omega) (fun _ _ => ?_)))
      | refine CodeJ.seq' ?_
      | refine CodeJ.region ?_
      | refine CodeJ.block ?_
      | refine CodeJ.skip ?_
      | refine CodeJ.exit rfl ?_
      | refine CodeJ.ret' ?_
      | (refine OpsJ.put rfl ?_; first
        | refine OpJ.pure (OpP.assign rfl) ?_
        | refine OpJ.pure (OpP.move rfl) ?_
        | refine OpJ.pure (OpP.eql rfl rfl) ?_
        | refine OpJ.pure (OpP.eql_string rfl rfl) ?_
        | refine OpJ.pure (OpP.eql_bool rfl rfl) ?_
        | refine OpJ.pure (OpP.eql_nil rfl rfl) ?_
        | refine OpJ.pure (OpP.eql_nil_slice rfl rfl) ?_
        | (refine OpJ.buildSlice rfl rfl (by exact rfl) (by exact rfl) rfl (fun _ => ?_); dsimp only [lsplice, take1, take2, take3, take4, drop1, drop2, drop3, drop4, List.take_zero, List.drop_zero, List.cons_append, List.nil_append, List.length_cons, List.length_nil, Nat.reduceAdd, fillL, sliceL, Value.cells, List.toList_toArray, List.append_nil, List.getElem?_cons_zero, get1, get2, get3, Option.getD_some])
        | refine OpJ.append rfl rfl (by first | exact List.Perm.refl _ | exact List.Perm.swap _ _ _ | exact permm2 _ _ _ _ | exact permm3 _ _ _ _ _ | exact permm4 _ _ _ _ _ _ | exact permm5 _ _ _ _ _ _ _) (Src.ofRow (by repeat (first | exact List.Mem.head _ | apply List.Mem.tail))) (by exact rfl) (by exact rfl) (by exact rfl) (by exact rfl) (by omega) (by omega) (fun _ _ => ?_))
      | refine OpsJ.nil ?_
      | refine CodeJ.cond_t rfl (by with_reducible assumption) ?_
      | refine CodeJ.cond_f rfl (by with_reducible assumption) ?_
      | refine CodeJ.cond_dt rfl (by omega) ?_
      | refine CodeJ.cond_df rfl (by omega) ?_
      | refine CodeJ.cond_t rfl rfl ?_
      | refine CodeJ.cond_f rfl rfl ?_)
    refine Ret.mk0 ⟨_, _, _, _, rfl, ?_, ?_, rfl⟩ (ResJ.one Try.results57 rfl) (by repeat (first | exact IM.le_refl _ | assumption | refine IM.le_trans ?_ (IM.le_or _ _))) (by repeat (first | exact SubL.nil _ | refine SubL.p0 ?_ | refine SubL.p1 ?_ | refine SubL.p2 ?_ | refine SubL.p3 ?_ | refine SubL.p4 ?_ | refine SubL.p5 ?_ | refine SubL.p6 ?_ | refine SubL.p7 ?_))
    · omega
    · simp
theorem out_calls (R : IM) (g : Nat) (bs : List UInt8) (hs : List Chunk) (hW : WriterC g bs hs) (hb : bs.length ≤ 1000000000) :
    CallJ Try.prog 18 #[.pointer (some ⟨g, 0, none⟩)] ⟨R, hs⟩ (fun v D hs' => ∃ A' m' c' cs' hw, v = .slice A' m' c' ∧ m' = bs.length ∧ cs' = bcells bs ∧ WriterC g bs hw ∧ hs' = .row 5 1 A' m' c' cs' :: hw) := by
  obtain ⟨A, c, m, cs, hm, hcs, rfl⟩ := hW
  refine CallJ.of1 Try.func18 rfl Try.ntmps18 rfl (fun W0 => ?_)
  repeat (first
    | refine CodeJ.seq' ?_
    | refine CodeJ.region ?_
    | refine CodeJ.block ?_
    | refine CodeJ.skip ?_
    | refine CodeJ.exit rfl ?_
    | refine CodeJ.ret' ?_
    | (refine OpsJ.put rfl ?_; first
      | refine OpJ.pure (OpP.assign rfl) ?_
      | refine OpJ.pure (OpP.move rfl) ?_
      | refine OpJ.pure (OpP.eql rfl rfl) ?_
      | refine OpJ.pure (OpP.eql_string rfl rfl) ?_
      | refine OpJ.pure (OpP.eql_bool rfl rfl) ?_
      | refine OpJ.pure (OpP.eql_nil rfl rfl) ?_
      | refine OpJ.pure (OpP.eql_nil_slice rfl rfl) ?_
      | refine OpJ.pure (OpP.nilCheck rfl) ?_
      | refine OpJ.pure (OpP.fldAddr_lit rfl (by exact rfl)) ?_
      | refine OpJ.pure (OpP.fldAddr rfl (by exact rfl)) ?_
      | refine OpJ.pure (OpP.load_blk (by exact rfl) rfl (by repeat (first | exact List.Mem.head _ | apply List.Mem.tail)) rfl) ?_
      | refine OpJ.pure (OpP.loadN_blk (by exact rfl) rfl (by repeat (first | exact List.Mem.head _ | apply List.Mem.tail)) (by exact rfl)) ?_
      | refine OpJ.pure (OpP.load1 (by exact rfl) rfl (Src.ofR (by with_reducible assumption)) rfl (by assumption)) ?_
      | refine OpJ.pure (OpP.load1 (by exact rfl) rfl (Src.ofRow (by repeat (first | exact List.Mem.head _ | apply List.Mem.tail))) rfl (by assumption)) ?_)
    | refine OpsJ.nil ?_
    | refine CodeJ.cond_t rfl (by with_reducible assumption) ?_
    | refine CodeJ.cond_f rfl (by with_reducible assumption) ?_
    | refine CodeJ.cond_dt rfl (by omega) ?_
    | refine CodeJ.cond_df rfl (by omega) ?_
    | refine CodeJ.cond_t rfl rfl ?_
    | refine CodeJ.cond_f rfl rfl ?_)
  refine OpsJ.put (d := 9) rfl (OpJ.call (pass := []) rfl Split.nil (fun R' hle hin => clone_calls R' A m c bs ?_ hm hb) ?_)
  · have := hin (.row 5 1 A m c cs) (by repeat (first | exact List.Mem.head _ | apply List.Mem.tail))
    rw [← hcs]; exact this
  · rintro v D hs1 hd ⟨A', m', c', cs', rfl, hm', hcs', rfl⟩
    repeat (first
      | refine CodeJ.seq' ?_
      | refine CodeJ.region ?_
      | refine CodeJ.block ?_
      | refine CodeJ.skip ?_
      | refine CodeJ.exit rfl ?_
      | refine CodeJ.ret' ?_
      | (refine OpsJ.put rfl ?_; first
        | refine OpJ.pure (OpP.assign rfl) ?_
        | refine OpJ.pure (OpP.move rfl) ?_
        | refine OpJ.pure (OpP.eql rfl rfl) ?_
        | refine OpJ.pure (OpP.eql_string rfl rfl) ?_
        | refine OpJ.pure (OpP.eql_bool rfl rfl) ?_
        | refine OpJ.pure (OpP.eql_nil rfl rfl) ?_
        | refine OpJ.pure (OpP.eql_nil_slice rfl rfl) ?_
        | refine OpJ.pure (OpP.nilCheck rfl) ?_
        | refine OpJ.pure (OpP.fldAddr_lit rfl (by exact rfl)) ?_
        | refine OpJ.pure (OpP.fldAddr rfl (by exact rfl)) ?_
        | refine OpJ.pure (OpP.load_blk (by exact rfl) rfl (by repeat (first | exact List.Mem.head _ | apply List.Mem.tail)) rfl) ?_
        | refine OpJ.pure (OpP.loadN_blk (by exact rfl) rfl (by repeat (first | exact List.Mem.head _ | apply List.Mem.tail)) (by exact rfl)) ?_
        | refine OpJ.pure (OpP.load1 (by exact rfl) rfl (Src.ofR (by with_reducible assumption)) rfl (by assumption)) ?_
        | refine OpJ.pure (OpP.load1 (by exact rfl) rfl (Src.ofRow (by repeat (first | exact List.Mem.head _ | apply List.Mem.tail))) rfl (by assumption)) ?_)
      | refine OpsJ.nil ?_
      | refine CodeJ.cond_t rfl (by with_reducible assumption) ?_
      | refine CodeJ.cond_f rfl (by with_reducible assumption) ?_
      | refine CodeJ.cond_dt rfl (by omega) ?_
      | refine CodeJ.cond_df rfl (by omega) ?_
      | refine CodeJ.cond_t rfl rfl ?_
      | refine CodeJ.cond_f rfl rfl ?_)
    exact Ret.mk0 ⟨_, _, _, _, [.blk g [.slice A m c] 25, .row 5 1 A m c cs], rfl, hm', hcs', ⟨_, _, _, _, hm, hcs, rfl⟩, rfl⟩ (ResJ.one Try.results18 rfl) (by repeat (first | exact IM.le_refl _ | assumption | refine IM.le_trans ?_ (IM.le_or _ _))) (by repeat (first | exact SubL.nil _ | refine SubL.p0 ?_ | refine SubL.p1 ?_ | refine SubL.p2 ?_ | refine SubL.p3 ?_ | refine SubL.p4 ?_ | refine SubL.p5 ?_ | refine SubL.p6 ?_ | refine SubL.p7 ?_))
theorem wraw_calls (R : IM) (g : Nat) (B : Option Addr) (m' c' : Nat) (bs ps : List UInt8) (hs : List Chunk) (hB : RC R B (bcells ps)) (hm' : m' = ps.length) (hW : WriterC g bs hs) (hb : bs.length + ps.length ≤ 1000000000) :
    CallJ Try.prog 43 #[.pointer (some ⟨g, 0, none⟩), .slice B m' c'] ⟨R, hs⟩ (fun v D hs' => v = .tuple #[] ∧ WriterC g (bs ++ ps) hs') := by
  obtain ⟨A, c, m, cs, hm, hcs, rfl⟩ := hW
  refine CallJ.of2 Try.func43 rfl Try.ntmps43 rfl (fun W0 => ?_)
  repeat (first
    | (refine OpsJ.put (d := 12) rfl (OpJ.append rfl rfl (by first | exact List.Perm.refl _ | exact List.Perm.swap _ _ _ | exact permm2 _ _ _ _ | exact permm3 _ _ _ _ _ | exact permm4 _ _ _ _ _ _ | exact permm5 _ _ _ _ _ _ _) (Src.ofR hB) (by simp [bcells_length, hm']) (by exact rfl) (by exact rfl) (bcells_one _) (by omega) (by omega) (fun _ _ => ?_)))
    | refine CodeJ.seq' ?_
    | refine CodeJ.region ?_
    | refine CodeJ.block ?_
    | refine CodeJ.skip ?_
    | refine CodeJ.exit rfl ?_
    | refine CodeJ.ret' ?_
    | (refine OpsJ.put rfl ?_; first
      | refine OpJ.pure (OpP.move rfl) ?_
      | refine OpJ.pure (OpP.neq rfl rfl) ?_
      | refine OpJ.pure (OpP.neq_string rfl rfl) ?_
      | refine OpJ.pure (OpP.neq_bool rfl rfl) ?_
      | refine OpJ.pure (OpP.neq_nil rfl rfl) ?_
      | refine OpJ.pure (OpP.neq_nil_slice rfl rfl) ?_
      | refine OpJ.pure (OpP.nilCheck rfl) ?_
      | refine OpJ.pure (OpP.fldAddr_lit rfl (by exact rfl)) ?_
      | refine OpJ.pure (OpP.fldAddr rfl (by exact rfl)) ?_
      | refine OpJ.pure (OpP.load_blk (by exact rfl) rfl (by repeat (first | exact List.Mem.head _ | apply List.Mem.tail)) rfl) ?_
      | refine OpJ.pure (OpP.loadN_blk (by exact rfl) rfl (by repeat (first | exact List.Mem.head _ | apply List.Mem.tail)) (by exact rfl)) ?_
      | refine OpJ.pure (OpP.load1 (by exact rfl) rfl (Src.ofR (by with_reducible assumption)) rfl (by assumption)) ?_
      | refine OpJ.pure (OpP.load1 (by exact rfl) rfl (Src.ofRow (by repeat (first | exact List.Mem.head _ | apply List.Mem.tail))) rfl (by assumption)) ?_
      | refine OpJ.append rfl rfl (by first | exact List.Perm.refl _ | exact List.Perm.swap _ _ _ | exact permm2 _ _ _ _ | exact permm3 _ _ _ _ _ | exact permm4 _ _ _ _ _ _ | exact permm5 _ _ _ _ _ _ _) (Src.ofRow (by repeat (first | exact List.Mem.head _ | apply List.Mem.tail))) (by exact rfl) (by exact rfl) (by exact rfl) (by exact rfl) (by omega) (by omega) (fun _ _ => ?_))
    | (refine OpsJ.act ?_; first
      | (refine OpJ.store rfl rfl rfl (by first | exact List.Perm.refl _ | exact List.Perm.swap _ _ _ | exact permm2 _ _ _ _ | exact permm3 _ _ _ _ _ | exact permm4 _ _ _ _ _ _ | exact permm5 _ _ _ _ _ _ _) (by exact rfl) (by exact rfl) (by exact rfl) ?_; dsimp only [lsplice, take1, take2, take3, take4, drop1, drop2, drop3, drop4, List.take_zero, List.drop_zero, List.cons_append, List.nil_append, List.length_cons, List.length_nil, Nat.reduceAdd, fillL, sliceL, Value.cells, List.toList_toArray, List.append_nil, List.getElem?_cons_zero, get1, get2, get3, Option.getD_some]))
    | refine OpsJ.nil ?_
    | refine CodeJ.cond_t rfl (by with_reducible assumption) ?_
    | refine CodeJ.cond_f rfl (by with_reducible assumption) ?_
    | refine CodeJ.cond_dt rfl (by omega) ?_
    | refine CodeJ.cond_df rfl (by omega) ?_
    | refine CodeJ.cond_t rfl rfl ?_
    | refine CodeJ.cond_f rfl rfl ?_)
  refine Ret.mk0 ⟨rfl, _, _, _, _, ?_, ?_, rfl⟩ (ResJ.none Try.results43) (by repeat (first | exact IM.le_refl _ | assumption | refine IM.le_trans ?_ (IM.le_or _ _))) (by repeat (first | exact SubL.nil _ | refine SubL.p0 ?_ | refine SubL.p1 ?_ | refine SubL.p2 ?_ | refine SubL.p3 ?_ | refine SubL.p4 ?_ | refine SubL.p5 ?_ | refine SubL.p6 ?_ | refine SubL.p7 ?_))
  · simp [hm, hm']
  · rw [hcs, bcells_append]
/-- Rows of bytes, each in memory that stays. -/
def Rows8 (R : IM) (vs : List Value) (rows : List (List UInt8)) : Prop := vs.length = rows.length ∧ ∀ i, i < rows.length → ∃ A c, vs[i]? = some (.slice A (rows.getD i []).length c) ∧ RC R A (bcells (rows.getD i []))
theorem Rows8.mono {R R' : IM} {vs : List Value} {rows : List (List UInt8)} (h : Rows8 R vs rows) (hr : IM.le R R') : Rows8 R' vs rows :=
  ⟨h.1, fun i hi => let ⟨A, c, h1, h2⟩ := h.2 i hi; ⟨A, c, h1, h2.mono hr⟩⟩
/-- A row with its length. -/
def encRow (r : List UInt8) : List UInt8 := enc r.length ++ r
theorem enc_nat_length (u : Nat) (h : u ≤ 4611686018427387904) : (enc u).length ≤ 9 := enc_length u 8 (Nat.lt_of_le_of_lt h (by decide))
theorem clamp_nat (u : Nat) (h : u ≤ 4611686018427387904) : clamp (u : Int) = u := by unfold clamp; omega
theorem encRow_length (r : List UInt8) (h : r.length ≤ 1000000000) : (encRow r).length ≤ 9 + r.length := by
  have := enc_nat_length r.length (by omega)
  simp only [encRow, List.length_append]; omega
theorem flat_take_succ {α β : Type} [Inhabited α] (f : α → List β) (d : α) (rows : List α) {i : Nat} (h : i < rows.length) : (rows.take (i + 1)).flatMap f = (rows.take i).flatMap f ++ f (rows.getD i d) := by
  rw [List.take_succ_eq_append_getElem h]
  have h2 : rows.getD i d = rows[i] := by simp [List.getD_eq_getElem?_getD, h]
  rw [h2]
  simp only [List.flatMap_append, List.flatMap_cons, List.flatMap_nil, List.append_nil]
theorem flat_take_le {α β : Type} (f : α → List β) (rows : List α) (i : Nat) : ((rows.take i).flatMap f).length ≤ (rows.flatMap f).length := by
  conv => rhs; rw [← List.take_append_drop i rows, List.flatMap_append, List.length_append]
  omega
theorem wbytes_calls (R : IM) (g : Nat) (B : Option Addr) (m' c' : Nat) (bs : List UInt8) (vs : List Value) (rows : List (List UInt8)) (hs : List Chunk) (hB : RC R B vs) (hR : Rows8 R vs rows) (hm' : m' = rows.length) (hW : WriterC g bs hs)
    (hb : bs.length + (rows.flatMap encRow).length ≤ 100000000) (hlen : ∀ i, i < rows.length → (rows.getD i []).length ≤ 100000000) (hn : rows.length ≤ 100000000) :
    CallJ Try.prog 40 #[.pointer (some ⟨g, 0, none⟩), .slice B m' c'] ⟨R, hs⟩ (fun v D hs' => v = .tuple #[] ∧ WriterC g (bs ++ rows.flatMap encRow) hs') := by
  refine CallJ.of2 Try.func40 rfl Try.ntmps40 rfl (fun W0 => ?_)
  repeat (first
    | refine CodeJ.seq' ?_
    | refine CodeJ.region ?_
    | refine CodeJ.block ?_
    | refine CodeJ.skip ?_
    | refine CodeJ.exit rfl ?_
    | refine CodeJ.ret' ?_
    | (refine OpsJ.put rfl ?_; first
      | refine OpJ.pure (OpP.move rfl) ?_
      | refine OpJ.pure (OpP.len rfl) ?_
      | refine OpJ.pure (OpP.len_string rfl) ?_
      | refine OpJ.pure (OpP.lss rfl rfl) ?_
      | refine OpJ.pure (OpP.idx1 rfl rfl (by omega) (by omega) (Src.ofR (by with_reducible assumption)) (ne_get (by assumption))) ?_
      | refine OpJ.pure (OpP.idx1 rfl rfl (by omega) (by omega) (Src.ofRow (by repeat (first | exact List.Mem.head _ | apply List.Mem.tail))) (ne_get (by assumption))) ?_
      | refine OpJ.pure (OpP.load_blk (by exact rfl) rfl (by repeat (first | exact List.Mem.head _ | apply List.Mem.tail)) rfl) ?_
      | refine OpJ.pure (OpP.loadN_blk (by exact rfl) rfl (by repeat (first | exact List.Mem.head _ | apply List.Mem.tail)) (by exact rfl)) ?_
      | refine OpJ.pure (OpP.load1 (by exact rfl) rfl (Src.ofR (by with_reducible assumption)) rfl (by assumption)) ?_
      | refine OpJ.pure (OpP.load1 (by exact rfl) rfl (Src.ofRow (by repeat (first | exact List.Mem.head _ | apply List.Mem.tail))) rfl (by assumption)) ?_
      | refine OpJ.pure (OpP.assign rfl) ?_
      | (refine OpJ.buildSlice rfl rfl (by exact rfl) (by exact rfl) rfl (fun _ => ?_); dsimp only [lsplice, take1, take2, take3, take4, drop1, drop2, drop3, drop4, List.take_zero, List.drop_zero, List.cons_append, List.nil_append, List.length_cons, List.length_nil, Nat.reduceAdd, fillL, sliceL, Value.cells, List.toList_toArray, List.append_nil, List.getElem?_cons_zero, get1, get2, get3, Option.getD_some])
      | refine OpJ.pure (OpP.add_in rfl rfl (by omega) (by omega)) ?_
      | refine OpJ.pure (OpP.cat rfl rfl (by omega)) ?_
      | refine OpJ.pure (OpP.add rfl rfl) ?_)
    | refine OpsJ.nil ?_
    | refine CodeJ.cond_t rfl (by with_reducible assumption) ?_
    | refine CodeJ.cond_f rfl (by with_reducible assumption) ?_
    | refine CodeJ.cond_dt rfl (by omega) ?_
    | refine CodeJ.cond_df rfl (by omega) ?_
    | refine CodeJ.cond_t rfl rfl ?_
    | refine CodeJ.cond_f rfl rfl ?_)
  refine CodeJ.loop (fun k e s => ∃ (i : Nat) (R1 : IM) (hs1 : List Chunk), i ≤ rows.length ∧ k = rows.length - i ∧ WriterC g (bs ++ (rows.take i).flatMap encRow) hs1 ∧
      e = [(0, .pointer (some ⟨g, 0, none⟩)), (6, .slice B m' c'), (7, .int .i64 m'), (8, .int .i64 i)] ∧ s = ⟨R1, hs1⟩ ∧ IM.le R R1) rows.length
    ⟨0, R, hs, Nat.zero_le _, rfl, by simpa using hW, rfl, rfl, IM.le_refl _⟩ (by repeat (first | exact SubE.nil _ | refine SubE.cons rfl ?_)) (SubL.refl _) ?_
  clear hW
  rintro k e1 s1 ⟨i, R1, hs1, hi, hk, hW, rfl, rfl, hR1⟩
  have hB1 := hB.mono hR1
  repeat (first
    | refine CodeJ.seq' ?_
    | refine CodeJ.region ?_
    | refine CodeJ.block ?_
    | refine CodeJ.skip ?_
    | refine CodeJ.exit rfl ?_
    | refine CodeJ.ret' ?_
    | (refine OpsJ.put rfl ?_; first
      | refine OpJ.pure (OpP.move rfl) ?_
      | refine OpJ.pure (OpP.len rfl) ?_
      | refine OpJ.pure (OpP.len_string rfl) ?_
      | refine OpJ.pure (OpP.lss rfl rfl) ?_
      | refine OpJ.pure (OpP.idx1 rfl rfl (by omega) (by omega) (Src.ofR (by with_reducible assumption)) (ne_get (by assumption))) ?_
      | refine OpJ.pure (OpP.idx1 rfl rfl (by omega) (by omega) (Src.ofRow (by repeat (first | exact List.Mem.head _ | apply List.Mem.tail))) (ne_get (by assumption))) ?_
      | refine OpJ.pure (OpP.load_blk (by exact rfl) rfl (by repeat (first | exact List.Mem.head _ | apply List.Mem.tail)) rfl) ?_
      | refine OpJ.pure (OpP.loadN_blk (by exact rfl) rfl (by repeat (first | exact List.Mem.head _ | apply List.Mem.tail)) (by exact rfl)) ?_
      | refine OpJ.pure (OpP.load1 (by exact rfl) rfl (Src.ofR (by with_reducible assumption)) rfl (by assumption)) ?_
      | refine OpJ.pure (OpP.load1 (by exact rfl) rfl (Src.ofRow (by repeat (first | exact List.Mem.head _ | apply List.Mem.tail))) rfl (by assumption)) ?_
      | refine OpJ.pure (OpP.assign rfl) ?_
      | (refine OpJ.buildSlice rfl rfl (by exact rfl) (by exact rfl) rfl (fun _ => ?_); dsimp only [lsplice, take1, take2, take3, take4, drop1, drop2, drop3, drop4, List.take_zero, List.drop_zero, List.cons_append, List.nil_append, List.length_cons, List.length_nil, Nat.reduceAdd, fillL, sliceL, Value.cells, List.toList_toArray, List.append_nil, List.getElem?_cons_zero, get1, get2, get3, Option.getD_some])
      | refine OpJ.pure (OpP.add_in rfl rfl (by omega) (by omega)) ?_
      | refine OpJ.pure (OpP.cat rfl rfl (by omega)) ?_
      | refine OpJ.pure (OpP.add rfl rfl) ?_)
    | refine OpsJ.nil ?_
    | refine CodeJ.cond_t rfl (by with_reducible assumption) ?_
    | refine CodeJ.cond_f rfl (by with_reducible assumption) ?_
    | refine CodeJ.cond_dt rfl (by omega) ?_
    | refine CodeJ.cond_df rfl (by omega) ?_
    | refine CodeJ.cond_t rfl rfl ?_
    | refine CodeJ.cond_f rfl rfl ?_)
  refine CodeJ.cond_d rfl (fun hc => ?_) (fun hc => ?_)
  · obtain ⟨A, c, hcell, hA⟩ := hR.2 i (by omega)
    have hl := hlen i (by omega)
    have hle := flat_take_le encRow rows i
    have hle1 := flat_take_le encRow rows (i + 1)
    rw [flat_take_succ encRow [] rows (by omega), List.length_append] at hle1
    have hle2 := encRow_length (rows.getD i []) (by omega)
    repeat (first
      | refine CodeJ.seq' ?_
      | refine CodeJ.region ?_
      | refine CodeJ.block ?_
      | refine CodeJ.skip ?_
      | refine CodeJ.exit rfl ?_
      | refine CodeJ.ret' ?_
      | (refine OpsJ.put rfl ?_; first
        | refine OpJ.pure (OpP.move rfl) ?_
        | refine OpJ.pure (OpP.len rfl) ?_
        | refine OpJ.pure (OpP.len_string rfl) ?_
        | refine OpJ.pure (OpP.lss rfl rfl) ?_
        | refine OpJ.pure (OpP.idx1 rfl rfl (by omega) (by omega) (Src.ofR (by with_reducible assumption)) (ne_get (by assumption))) ?_
        | refine OpJ.pure (OpP.idx1 rfl rfl (by omega) (by omega) (Src.ofRow (by repeat (first | exact List.Mem.head _ | apply List.Mem.tail))) (ne_get (by assumption))) ?_
        | refine OpJ.pure (OpP.load_blk (by exact rfl) rfl (by repeat (first | exact List.Mem.head _ | apply List.Mem.tail)) rfl) ?_
        | refine OpJ.pure (OpP.loadN_blk (by exact rfl) rfl (by repeat (first | exact List.Mem.head _ | apply List.Mem.tail)) (by exact rfl)) ?_
        | refine OpJ.pure (OpP.load1 (by exact rfl) rfl (Src.ofR (by with_reducible assumption)) rfl (by assumption)) ?_
        | refine OpJ.pure (OpP.load1 (by exact rfl) rfl (Src.ofRow (by repeat (first | exact List.Mem.head _ | apply List.Mem.tail))) rfl (by assumption)) ?_
        | refine OpJ.pure (OpP.assign rfl) ?_
        | (refine OpJ.buildSlice rfl rfl (by exact rfl) (by exact rfl) rfl (fun _ => ?_); dsimp only [lsplice, take1, take2, take3, take4, drop1, drop2, drop3, drop4, List.take_zero, List.drop_zero, List.cons_append, List.nil_append, List.length_cons, List.length_nil, Nat.reduceAdd, fillL, sliceL, Value.cells, List.toList_toArray, List.append_nil, List.getElem?_cons_zero, get1, get2, get3, Option.getD_some])
        | refine OpJ.pure (OpP.add_in rfl rfl (by omega) (by omega)) ?_
        | refine OpJ.pure (OpP.cat rfl rfl (by omega)) ?_
        | refine OpJ.pure (OpP.add rfl rfl) ?_)
      | refine OpsJ.nil ?_
      | refine CodeJ.cond_t rfl (by with_reducible assumption) ?_
      | refine CodeJ.cond_f rfl (by with_reducible assumption) ?_
      | refine CodeJ.cond_dt rfl (by omega) ?_
      | refine CodeJ.cond_df rfl (by omega) ?_
      | refine CodeJ.cond_t rfl rfl ?_
      | refine CodeJ.cond_f rfl rfl ?_)
    refine OpsJ.put (d := 16) rfl (OpJ.call rfl (Split.last _ _) (fun R' hle hin => nums_calls R' g _ _ _ _ [((rows.getD i []).length : Int)] _ (hin _ (List.Mem.head _)) rfl hW ?_) ?_)
    · simp only [List.length_append, List.length_cons, List.length_nil] at hle1 ⊢; omega
    · rintro v D hs2 hd ⟨rfl, hW2⟩
      have he : encs [((rows.getD i []).length : Int)] = enc (rows.getD i []).length := by
        simp only [encs, List.flatMap_cons, List.flatMap_nil, List.append_nil]
        rw [clamp_nat _ (by omega)]
      rw [he] at hW2
      have hle3 := enc_nat_length (rows.getD i []).length (by omega)
      repeat (first
        | refine CodeJ.seq' ?_
        | refine CodeJ.region ?_
        | refine CodeJ.block ?_
        | refine CodeJ.skip ?_
        | refine CodeJ.exit rfl ?_
        | refine CodeJ.ret' ?_
        | (refine OpsJ.put rfl ?_; first
          | refine OpJ.pure (OpP.move rfl) ?_
          | refine OpJ.pure (OpP.len rfl) ?_
          | refine OpJ.pure (OpP.len_string rfl) ?_
          | refine OpJ.pure (OpP.lss rfl rfl) ?_
          | refine OpJ.pure (OpP.idx1 rfl rfl (by omega) (by omega) (Src.ofR (by with_reducible assumption)) (ne_get (by assumption))) ?_
          | refine OpJ.pure (OpP.idx1 rfl rfl (by omega) (by omega) (Src.ofRow (by repeat (first | exact List.Mem.head _ | apply List.Mem.tail))) (ne_get (by assumption))) ?_
          | refine OpJ.pure (OpP.load_blk (by exact rfl) rfl (by repeat (first | exact List.Mem.head _ | apply List.Mem.tail)) rfl) ?_
          | refine OpJ.pure (OpP.loadN_blk (by exact rfl) rfl (by repeat (first | exact List.Mem.head _ | apply List.Mem.tail)) (by exact rfl)) ?_
          | refine OpJ.pure (OpP.load1 (by exact rfl) rfl (Src.ofR (by with_reducible assumption)) rfl (by assumption)) ?_
          | refine OpJ.pure (OpP.load1 (by exact rfl) rfl (Src.ofRow (by repeat (first | exact List.Mem.head _ | apply List.Mem.tail))) rfl (by assumption)) ?_
          | refine OpJ.pure (OpP.assign rfl) ?_
          | (refine OpJ.buildSlice rfl rfl (by exact rfl) (by exact rfl) rfl (fun _ => ?_); dsimp only [lsplice, take1, take2, take3, take4, drop1, drop2, drop3, drop4, List.take_zero, List.drop_zero, List.cons_append, List.nil_append, List.length_cons, List.length_nil, Nat.reduceAdd, fillL, sliceL, Value.cells, List.toList_toArray, List.append_nil, List.getElem?_cons_zero, get1, get2, get3, Option.getD_some])
          | refine OpJ.pure (OpP.add_in rfl rfl (by omega) (by omega)) ?_
          | refine OpJ.pure (OpP.cat rfl rfl (by omega)) ?_
          | refine OpJ.pure (OpP.add rfl rfl) ?_)
        | refine OpsJ.nil ?_
        | refine CodeJ.cond_t rfl (by with_reducible assumption) ?_
        | refine CodeJ.cond_f rfl (by with_reducible assumption) ?_
        | refine CodeJ.cond_dt rfl (by omega) ?_
        | refine CodeJ.cond_df rfl (by omega) ?_
        | refine CodeJ.cond_t rfl rfl ?_
        | refine CodeJ.cond_f rfl rfl ?_)
      refine OpsJ.put (d := 19) rfl (OpJ.call (pass := hs2) rfl (Split.all _ _) (fun R' hle' hin => wraw_calls R' g _ _ _ _ _ _ ((hA.mono hR1).mono (IM.le_trans (IM.le_or _ _) hle')) rfl hW2 ?_) ?_)
      · simp only [List.length_append, encRow] at hle1 ⊢; omega
      · rintro v D2 hs3 hd2 ⟨rfl, hW3⟩
        repeat (first
          | refine CodeJ.seq' ?_
          | refine CodeJ.region ?_
          | refine CodeJ.block ?_
          | refine CodeJ.skip ?_
          | refine CodeJ.exit rfl ?_
          | refine CodeJ.ret' ?_
          | (refine OpsJ.put rfl ?_; first
            | refine OpJ.pure (OpP.move rfl) ?_
            | refine OpJ.pure (OpP.len rfl) ?_
            | refine OpJ.pure (OpP.len_string rfl) ?_
            | refine OpJ.pure (OpP.lss rfl rfl) ?_
            | refine OpJ.pure (OpP.idx1 rfl rfl (by omega) (by omega) (Src.ofR (by with_reducible assumption)) (ne_get (by assumption))) ?_
            | refine OpJ.pure (OpP.idx1 rfl rfl (by omega) (by omega) (Src.ofRow (by repeat (first | exact List.Mem.head _ | apply List.Mem.tail))) (ne_get (by assumption))) ?_
            | refine OpJ.pure (OpP.load_blk (by exact rfl) rfl (by repeat (first | exact List.Mem.head _ | apply List.Mem.tail)) rfl) ?_
            | refine OpJ.pure (OpP.loadN_blk (by exact rfl) rfl (by repeat (first | exact List.Mem.head _ | apply List.Mem.tail)) (by exact rfl)) ?_
            | refine OpJ.pure (OpP.load1 (by exact rfl) rfl (Src.ofR (by with_reducible assumption)) rfl (by assumption)) ?_
            | refine OpJ.pure (OpP.load1 (by exact rfl) rfl (Src.ofRow (by repeat (first | exact List.Mem.head _ | apply List.Mem.tail))) rfl (by assumption)) ?_
            | refine OpJ.pure (OpP.assign rfl) ?_
            | (refine OpJ.buildSlice rfl rfl (by exact rfl) (by exact rfl) rfl (fun _ => ?_); dsimp only [lsplice, take1, take2, take3, take4, drop1, drop2, drop3, drop4, List.take_zero, List.drop_zero, List.cons_append, List.nil_append, List.length_cons, List.length_nil, Nat.reduceAdd, fillL, sliceL, Value.cells, List.toList_toArray, List.append_nil, List.getElem?_cons_zero, get1, get2, get3, Option.getD_some])
            | refine OpJ.pure (OpP.add_in rfl rfl (by omega) (by omega)) ?_
            | refine OpJ.pure (OpP.cat rfl rfl (by omega)) ?_
            | refine OpJ.pure (OpP.add rfl rfl) ?_)
          | refine OpsJ.nil ?_
          | refine CodeJ.cond_t rfl (by with_reducible assumption) ?_
          | refine CodeJ.cond_f rfl (by with_reducible assumption) ?_
          | refine CodeJ.cond_dt rfl (by omega) ?_
          | refine CodeJ.cond_df rfl (by omega) ?_
          | refine CodeJ.cond_t rfl rfl ?_
          | refine CodeJ.cond_f rfl rfl ?_)
        refine ⟨rows.length - (i + 1), _, _, hs3, by omega, ⟨i + 1, _, _, by omega, rfl, ?_, rfl, rfl, ?_⟩, IM.le_refl _, (by repeat (first | exact SubE.nil _ | refine SubE.cons rfl ?_)), SubL.app _ _⟩
        · rw [flat_take_succ encRow [] rows (by omega), ← List.append_assoc]
          simpa [encRow] using hW3
        · exact IM.le_trans hR1 (IM.le_trans (IM.le_or _ _) (IM.le_or _ _))
  · repeat (first
      | refine CodeJ.seq' ?_
      | refine CodeJ.region ?_
      | refine CodeJ.block ?_
      | refine CodeJ.skip ?_
      | refine CodeJ.exit rfl ?_
      | refine CodeJ.ret' ?_
      | (refine OpsJ.put rfl ?_; first
        | refine OpJ.pure (OpP.move rfl) ?_
        | refine OpJ.pure (OpP.len rfl) ?_
        | refine OpJ.pure (OpP.len_string rfl) ?_
        | refine OpJ.pure (OpP.lss rfl rfl) ?_
        | refine OpJ.pure (OpP.idx1 rfl rfl (by omega) (by omega) (Src.ofR (by with_reducible assumption)) (ne_get (by assumption))) ?_
        | refine OpJ.pure (OpP.idx1 rfl rfl (by omega) (by omega) (Src.ofRow (by repeat (first | exact List.Mem.head _ | apply List.Mem.tail))) (ne_get (by assumption))) ?_
        | refine OpJ.pure (OpP.load_blk (by exact rfl) rfl (by repeat (first | exact List.Mem.head _ | apply List.Mem.tail)) rfl) ?_
        | refine OpJ.pure (OpP.loadN_blk (by exact rfl) rfl (by repeat (first | exact List.Mem.head _ | apply List.Mem.tail)) (by exact rfl)) ?_
        | refine OpJ.pure (OpP.load1 (by exact rfl) rfl (Src.ofR (by with_reducible assumption)) rfl (by assumption)) ?_
        | refine OpJ.pure (OpP.load1 (by exact rfl) rfl (Src.ofRow (by repeat (first | exact List.Mem.head _ | apply List.Mem.tail))) rfl (by assumption)) ?_
        | refine OpJ.pure (OpP.assign rfl) ?_
        | (refine OpJ.buildSlice rfl rfl (by exact rfl) (by exact rfl) rfl (fun _ => ?_); dsimp only [lsplice, take1, take2, take3, take4, drop1, drop2, drop3, drop4, List.take_zero, List.drop_zero, List.cons_append, List.nil_append, List.length_cons, List.length_nil, Nat.reduceAdd, fillL, sliceL, Value.cells, List.toList_toArray, List.append_nil, List.getElem?_cons_zero, get1, get2, get3, Option.getD_some])
        | refine OpJ.pure (OpP.add_in rfl rfl (by omega) (by omega)) ?_
        | refine OpJ.pure (OpP.cat rfl rfl (by omega)) ?_
        | refine OpJ.pure (OpP.add rfl rfl) ?_)
      | refine OpsJ.nil ?_
      | refine CodeJ.cond_t rfl (by with_reducible assumption) ?_
      | refine CodeJ.cond_f rfl (by with_reducible assumption) ?_
      | refine CodeJ.cond_dt rfl (by omega) ?_
      | refine CodeJ.cond_df rfl (by omega) ?_
      | refine CodeJ.cond_t rfl rfl ?_
      | refine CodeJ.cond_f rfl rfl ?_)
    have hi2 : i = rows.length := by omega
    refine Ret.mk0 ⟨rfl, ?_⟩ (ResJ.none Try.results40) (by repeat (first | exact IM.le_refl _ | assumption | refine IM.le_trans ?_ (IM.le_or _ _))) (SubL.refl _)
    rw [hi2, List.take_length] at hW
    exact hW
end Go.Proofs.Ytdicpnnmhjgnbaa.FW
