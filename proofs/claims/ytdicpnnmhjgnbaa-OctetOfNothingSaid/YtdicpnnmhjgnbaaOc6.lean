/- octet's Reader: the walks. -/
import Derived.Test.YtdicpnnmhjgnbaaOc5
namespace Go.Proofs.Ytdicpnnmhjgnbaa.FW
open Go Go.RowKit Go.Proofs
set_option linter.unusedVariables false
set_option linter.unusedSimpArgs false
set_option maxRecDepth 100000
set_option maxHeartbeats 4000000
attribute [local irreducible] OpsJ CodeJ OpJ OpQ OpP QuietJ CallJ Src RC
/-- A Reader of bytes; whether it erred. -/
def ReaderC (R : IM) (g : Nat) (bs : List UInt8) (bad : Bool) (hs : List Chunk) : Prop := ∃ A m c, m = bs.length ∧ m ≤ c ∧ RC R A (bcells bs) ∧ hs = [.blk g [.slice A m c, .bool bad] 75]
theorem ReaderC.mono {R R' : IM} {g : Nat} {bs : List UInt8} {bad : Bool} {hs : List Chunk} (h : ReaderC R g bs bad hs) (hr : IM.le R R') : ReaderC R' g bs bad hs := by
  obtain ⟨A, m, c, h1, h2, h3, h4⟩ := h
  exact ⟨A, m, c, h1, h2, h3.mono hr, h4⟩
theorem newreader_calls (R : IM) (A : Option Addr) (m c : Nat) (bs : List UInt8) (hA : RC R A (bcells bs)) (hm : m = bs.length) (hb : bs.length ≤ 1000000000) :
    CallJ Try.prog 21 #[.slice A m c] ⟨R, []⟩ (fun v D hs' => ∃ g, v = .pointer (some ⟨g, 0, none⟩) ∧ ReaderC D g bs false hs') := by
  refine CallJ.of1 Try.func21 rfl Try.ntmps21 rfl (fun W0 => ?_)
  repeat (first
    | refine CodeJ.seq' ?_
    | refine CodeJ.region ?_
    | refine CodeJ.block ?_
    | refine CodeJ.skip ?_
    | refine CodeJ.exit rfl ?_
    | refine CodeJ.ret' ?_
    | (refine OpsJ.put rfl ?_; first
      | refine OpJ.pure (OpP.assign rfl) ?_
      | refine OpJ.pure (OpP.move rfl) ?_
      | refine OpJ.pure (OpP.build rfl (by exact rfl)) ?_
      | (refine OpJ.box rfl rfl (fun _ => ?_); dsimp only [lsplice, take1, take2, take3, take4, drop1, drop2, drop3, drop4, List.take_zero, List.drop_zero, List.cons_append, List.nil_append, List.length_cons, List.length_nil, Nat.reduceAdd, fillL, sliceL, Value.cells, List.toList_toArray, List.append_nil, List.getElem?_cons_zero, get1, get2, get3, Option.getD_some]))
    | refine OpsJ.nil ?_
    | refine CodeJ.cond_t rfl (by with_reducible assumption) ?_
    | refine CodeJ.cond_f rfl (by with_reducible assumption) ?_
    | refine CodeJ.cond_dt rfl (by omega) ?_
    | refine CodeJ.cond_df rfl (by omega) ?_
    | refine CodeJ.cond_t rfl rfl ?_
    | refine CodeJ.cond_f rfl rfl ?_)
  refine OpsJ.put (d := 4) rfl (OpJ.call (pass := []) rfl Split.nil (fun R' hle hin => clone_calls R' _ _ _ bs (hA.mono hle) hm hb) ?_)
  rintro v D hs1 hd ⟨A', m', c', cs', rfl, hm', hcs', rfl⟩
  refine OpsJ.rowle (List.Perm.refl _) (fun hle _ => ?_)
  refine OpsJ.freeze (List.Perm.refl _) (fun D2 hd2 hin2 => ?_)
  have hr2 : RC D2 A' cs' := hin2
  repeat (first
    | refine CodeJ.seq' ?_
    | refine CodeJ.region ?_
    | refine CodeJ.block ?_
    | refine CodeJ.skip ?_
    | refine CodeJ.exit rfl ?_
    | refine CodeJ.ret' ?_
    | (refine OpsJ.put rfl ?_; first
      | refine OpJ.pure (OpP.assign rfl) ?_
      | refine OpJ.pure (OpP.move rfl) ?_
      | refine OpJ.pure (OpP.build rfl (by exact rfl)) ?_
      | (refine OpJ.box rfl rfl (fun _ => ?_); dsimp only [lsplice, take1, take2, take3, take4, drop1, drop2, drop3, drop4, List.take_zero, List.drop_zero, List.cons_append, List.nil_append, List.length_cons, List.length_nil, Nat.reduceAdd, fillL, sliceL, Value.cells, List.toList_toArray, List.append_nil, List.getElem?_cons_zero, get1, get2, get3, Option.getD_some]))
    | refine OpsJ.nil ?_
    | refine CodeJ.cond_t rfl (by with_reducible assumption) ?_
    | refine CodeJ.cond_f rfl (by with_reducible assumption) ?_
    | refine CodeJ.cond_dt rfl (by omega) ?_
    | refine CodeJ.cond_df rfl (by omega) ?_
    | refine CodeJ.cond_t rfl rfl ?_
    | refine CodeJ.cond_f rfl rfl ?_)
  refine Ret.mk' (D := D2) ⟨_, rfl, A', m', c', hm', hle, ?_, rfl⟩ (ResJ.one Try.results21 rfl) (by repeat (first | exact IM.le_refl _ | assumption | refine IM.le_trans ?_ (IM.le_or _ _))) (IM.le_or_right hd2) (IM.dis_mono hd2 (IM.le_or _ _)) (by repeat (first | exact SubL.nil _ | refine SubL.p0 ?_ | refine SubL.p1 ?_ | refine SubL.p2 ?_ | refine SubL.p3 ?_ | refine SubL.p4 ?_ | refine SubL.p5 ?_ | refine SubL.p6 ?_ | refine SubL.p7 ?_))
  rw [← hcs']; exact hr2
theorem good_calls (R : IM) (g : Nat) (bs : List UInt8) (bad : Bool) (hs : List Chunk) (h : ReaderC R g bs bad hs) :
    CallJ Try.prog 24 #[.pointer (some ⟨g, 0, none⟩)] ⟨R, hs⟩ (fun v D hs' => v = .bool (!bad) ∧ hs' = hs) := by
  obtain ⟨A, m, c, hm, hc, hA, rfl⟩ := h
  refine CallJ.of1 Try.func24 rfl Try.ntmps24 rfl (fun W0 => ?_)
  repeat (first
    | refine CodeJ.seq' ?_
    | refine CodeJ.region ?_
    | refine CodeJ.block ?_
    | refine CodeJ.skip ?_
    | refine CodeJ.exit rfl ?_
    | refine CodeJ.ret' ?_
    | (refine OpsJ.gsel rfl rfl rfl rfl ?_; first | refine GuardJ.yes (by with_reducible assumption) ?_ | refine GuardJ.no (by with_reducible assumption) ?_ | refine GuardJ.dt rfl (by omega) ?_ | refine GuardJ.nf rfl (by omega) ?_ | refine GuardJ.df rfl (by omega) ?_ | refine GuardJ.nt rfl (by omega) ?_ | refine GuardJ.yes rfl ?_ | refine GuardJ.no rfl ?_)
    | (refine OpsJ.gund rfl rfl rfl rfl ?_)
    | (refine OpsJ.put rfl ?_; first
      | refine OpJ.pure (OpP.assign rfl) ?_
      | refine OpJ.pure (OpP.move rfl) ?_
      | refine OpJ.pure (OpP.neq rfl rfl) ?_
      | refine OpJ.pure (OpP.neq_string rfl rfl) ?_
      | refine OpJ.pure (OpP.neq_bool rfl rfl) ?_
      | refine OpJ.pure (OpP.neq_nil rfl rfl) ?_
      | refine OpJ.pure (OpP.neq_nil_slice rfl rfl) ?_
      | refine OpJ.pure (OpP.nilCheck rfl) ?_
      | refine OpJ.pure (OpP.fldAddr_lit rfl (by exact rfl)) ?_
      | refine OpJ.pure (OpP.fldAddr rfl (by exact rfl)) ?_
      | refine OpJ.pure (OpP.load_blk (by exact rfl) rfl (by repeat (first | exact List.Mem.head _ | apply List.Mem.tail)) rfl) ?_
      | refine OpJ.pure (OpP.loadN_blk (by exact rfl) rfl (by repeat (first | exact List.Mem.head _ | apply List.Mem.tail)) (by exact rfl)) ?_
      | refine OpJ.pure (OpP.load1 (by exact rfl) rfl (Src.ofR (by with_reducible assumption)) rfl (by assumption)) ?_
      | refine OpJ.pure (OpP.load1 (by exact rfl) rfl (Src.ofRow (by repeat (first | exact List.Mem.head _ | apply List.Mem.tail))) rfl (by assumption)) ?_
      | refine OpJ.pure (OpP.not rfl) ?_
      | refine OpJ.pure (OpP.pick_t rfl (by with_reducible assumption) rfl) ?_
      | refine OpJ.pure (OpP.pick_f rfl (by with_reducible assumption) rfl) ?_
      | refine OpJ.pure (OpP.pick_dt rfl (by omega) rfl) ?_
      | refine OpJ.pure (OpP.pick_df rfl (by omega) rfl) ?_
      | refine OpJ.pure (OpP.pick_t rfl rfl rfl) ?_
      | refine OpJ.pure (OpP.pick_f rfl rfl rfl) ?_
      | refine OpJ.pure (OpP.pick rfl rfl rfl) ?_)
    | refine OpsJ.nil ?_
    | refine CodeJ.cond_t rfl (by with_reducible assumption) ?_
    | refine CodeJ.cond_f rfl (by with_reducible assumption) ?_
    | refine CodeJ.cond_dt rfl (by omega) ?_
    | refine CodeJ.cond_df rfl (by omega) ?_
    | refine CodeJ.cond_t rfl rfl ?_
    | refine CodeJ.cond_f rfl rfl ?_)
  exact Ret.mk0 ⟨rfl, rfl⟩ (ResJ.one Try.results24 rfl) (by repeat (first | exact IM.le_refl _ | assumption | refine IM.le_trans ?_ (IM.le_or _ _))) (by repeat (first | exact SubL.nil _ | refine SubL.p0 ?_ | refine SubL.p1 ?_ | refine SubL.p2 ?_ | refine SubL.p3 ?_ | refine SubL.p4 ?_ | refine SubL.p5 ?_ | refine SubL.p6 ?_ | refine SubL.p7 ?_))
theorem bad_calls (R : IM) (g : Nat) (bs : List UInt8) (bad : Bool) (hs : List Chunk) (h : ReaderC R g bs bad hs) :
    CallJ Try.prog 47 #[.pointer (some ⟨g, 0, none⟩)] ⟨R, hs⟩ (fun v D hs' => v = .tuple #[] ∧ ∀ R1, ReaderC R1 g [] true hs') := by
  obtain ⟨A, m, c, hm, hc, hA, rfl⟩ := h
  refine CallJ.of1 Try.func47 rfl Try.ntmps47 rfl (fun W0 => ?_)
  repeat (first
    | refine CodeJ.seq' ?_
    | refine CodeJ.region ?_
    | refine CodeJ.block ?_
    | refine CodeJ.skip ?_
    | refine CodeJ.exit rfl ?_
    | refine CodeJ.ret' ?_
    | (refine OpsJ.put rfl ?_; first
      | refine OpJ.pure (OpP.move rfl) ?_
      | refine OpJ.pure (OpP.neq rfl rfl) ?_
      | refine OpJ.pure (OpP.neq_string rfl rfl) ?_
      | refine OpJ.pure (OpP.neq_bool rfl rfl) ?_
      | refine OpJ.pure (OpP.neq_nil rfl rfl) ?_
      | refine OpJ.pure (OpP.neq_nil_slice rfl rfl) ?_
      | refine OpJ.pure (OpP.nilCheck rfl) ?_
      | refine OpJ.pure (OpP.fldAddr_lit rfl (by exact rfl)) ?_
      | refine OpJ.pure (OpP.fldAddr rfl (by exact rfl)) ?_)
    | (refine OpsJ.act ?_; first
      | (refine OpJ.store rfl rfl rfl (by first | exact List.Perm.refl _ | exact List.Perm.swap _ _ _ | exact permm2 _ _ _ _ | exact permm3 _ _ _ _ _ | exact permm4 _ _ _ _ _ _ | exact permm5 _ _ _ _ _ _ _) (by exact rfl) (by exact rfl) (by exact rfl) ?_; dsimp only [lsplice, take1, take2, take3, take4, drop1, drop2, drop3, drop4, List.take_zero, List.drop_zero, List.cons_append, List.nil_append, List.length_cons, List.length_nil, Nat.reduceAdd, fillL, sliceL, Value.cells, List.toList_toArray, List.append_nil, List.getElem?_cons_zero, get1, get2, get3, Option.getD_some]))
    | refine OpsJ.nil ?_
    | refine CodeJ.cond_t rfl (by with_reducible assumption) ?_
    | refine CodeJ.cond_f rfl (by with_reducible assumption) ?_
    | refine CodeJ.cond_dt rfl (by omega) ?_
    | refine CodeJ.cond_df rfl (by omega) ?_
    | refine CodeJ.cond_t rfl rfl ?_
    | refine CodeJ.cond_f rfl rfl ?_)
  exact Ret.mk0 ⟨rfl, fun R1 => ⟨_, _, _, rfl, Nat.le_refl _, RC.nil _ _, rfl⟩⟩ (ResJ.none Try.results47) (by repeat (first | exact IM.le_refl _ | assumption | refine IM.le_trans ?_ (IM.le_or _ _))) (by repeat (first | exact SubL.nil _ | refine SubL.p0 ?_ | refine SubL.p1 ?_ | refine SubL.p2 ?_ | refine SubL.p3 ?_ | refine SubL.p4 ?_ | refine SubL.p5 ?_ | refine SubL.p6 ?_ | refine SubL.p7 ?_))
theorem left_calls (R : IM) (g : Nat) (bs : List UInt8) (bad : Bool) (hs : List Chunk) (h : ReaderC R g bs bad hs) :
    CallJ Try.prog 45 #[.pointer (some ⟨g, 0, none⟩)] ⟨R, hs⟩ (fun v D hs' => v = .int .i64 bs.length ∧ hs' = hs) := by
  obtain ⟨A, m, c, hm, hc, hA, rfl⟩ := h
  refine CallJ.of1 Try.func45 rfl Try.ntmps45 rfl (fun W0 => ?_)
  repeat (first
    | refine CodeJ.seq' ?_
    | refine CodeJ.region ?_
    | refine CodeJ.block ?_
    | refine CodeJ.skip ?_
    | refine CodeJ.exit rfl ?_
    | refine CodeJ.ret' ?_
    | (refine OpsJ.put rfl ?_; first
      | refine OpJ.pure (OpP.assign rfl) ?_
      | refine OpJ.pure (OpP.move rfl) ?_
      | refine OpJ.pure (OpP.eql rfl rfl) ?_
      | refine OpJ.pure (OpP.eql_string rfl rfl) ?_
      | refine OpJ.pure (OpP.eql_bool rfl rfl) ?_
      | refine OpJ.pure (OpP.eql_nil rfl rfl) ?_
      | refine OpJ.pure (OpP.eql_nil_slice rfl rfl) ?_
      | refine OpJ.pure (OpP.nilCheck rfl) ?_
      | refine OpJ.pure (OpP.fldAddr_lit rfl (by exact rfl)) ?_
      | refine OpJ.pure (OpP.fldAddr rfl (by exact rfl)) ?_
      | refine OpJ.pure (OpP.load_blk (by exact rfl) rfl (by repeat (first | exact List.Mem.head _ | apply List.Mem.tail)) rfl) ?_
      | refine OpJ.pure (OpP.loadN_blk (by exact rfl) rfl (by repeat (first | exact List.Mem.head _ | apply List.Mem.tail)) (by exact rfl)) ?_
      | refine OpJ.pure (OpP.load1 (by exact rfl) rfl (Src.ofR (by with_reducible assumption)) rfl (by assumption)) ?_
      | refine OpJ.pure (OpP.load1 (by exact rfl) rfl (Src.ofRow (by repeat (first | exact List.Mem.head _ | apply List.Mem.tail))) rfl (by assumption)) ?_
      | refine OpJ.pure (OpP.len rfl) ?_
      | refine OpJ.pure (OpP.len_string rfl) ?_)
    | refine OpsJ.nil ?_
    | refine CodeJ.cond_t rfl (by with_reducible assumption) ?_
    | refine CodeJ.cond_f rfl (by with_reducible assumption) ?_
    | refine CodeJ.cond_dt rfl (by omega) ?_
    | refine CodeJ.cond_df rfl (by omega) ?_
    | refine CodeJ.cond_t rfl rfl ?_
    | refine CodeJ.cond_f rfl rfl ?_)
  exact Ret.mk0 ⟨by rw [hm], rfl⟩ (ResJ.one Try.results45 rfl) (by repeat (first | exact IM.le_refl _ | assumption | refine IM.le_trans ?_ (IM.le_or _ _))) (by repeat (first | exact SubL.nil _ | refine SubL.p0 ?_ | refine SubL.p1 ?_ | refine SubL.p2 ?_ | refine SubL.p3 ?_ | refine SubL.p4 ?_ | refine SubL.p5 ?_ | refine SubL.p6 ?_ | refine SubL.p7 ?_))
theorem whole_calls (R : IM) (g : Nat) (bs : List UInt8) (bad : Bool) (hs : List Chunk) (h : ReaderC R g bs bad hs) :
    CallJ Try.prog 25 #[.pointer (some ⟨g, 0, none⟩)] ⟨R, hs⟩ (fun v D hs' => v = .bool (!bad && decide (bs = [])) ∧ hs' = hs) := by
  have hg := good_calls
  obtain ⟨A, m, c, hm, hc, hA, rfl⟩ := h
  refine CallJ.of1 Try.func25 rfl Try.ntmps25 rfl (fun W0 => ?_)
  repeat (first
    | refine CodeJ.seq' ?_
    | refine CodeJ.region ?_
    | refine CodeJ.block ?_
    | refine CodeJ.skip ?_
    | refine CodeJ.exit rfl ?_
    | refine CodeJ.ret' ?_
    | (refine OpsJ.gsel rfl rfl rfl rfl ?_; first | refine GuardJ.yes (by with_reducible assumption) ?_ | refine GuardJ.no (by with_reducible assumption) ?_ | refine GuardJ.dt rfl (by omega) ?_ | refine GuardJ.nf rfl (by omega) ?_ | refine GuardJ.df rfl (by omega) ?_ | refine GuardJ.nt rfl (by omega) ?_ | refine GuardJ.yes rfl ?_ | refine GuardJ.no rfl ?_)
    | (refine OpsJ.gund rfl rfl rfl rfl ?_)
    | (refine OpsJ.put rfl ?_; first
      | refine OpJ.pure (OpP.assign rfl) ?_
      | refine OpJ.pure (OpP.move rfl) ?_
      | refine OpJ.pure (OpP.nilCheck rfl) ?_
      | refine OpJ.pure (OpP.fldAddr_lit rfl (by exact rfl)) ?_
      | refine OpJ.pure (OpP.fldAddr rfl (by exact rfl)) ?_
      | refine OpJ.pure (OpP.load_blk (by exact rfl) rfl (by repeat (first | exact List.Mem.head _ | apply List.Mem.tail)) rfl) ?_
      | refine OpJ.pure (OpP.loadN_blk (by exact rfl) rfl (by repeat (first | exact List.Mem.head _ | apply List.Mem.tail)) (by exact rfl)) ?_
      | refine OpJ.pure (OpP.load1 (by exact rfl) rfl (Src.ofR (by with_reducible assumption)) rfl (by assumption)) ?_
      | refine OpJ.pure (OpP.load1 (by exact rfl) rfl (Src.ofRow (by repeat (first | exact List.Mem.head _ | apply List.Mem.tail))) rfl (by assumption)) ?_
      | refine OpJ.pure (OpP.len rfl) ?_
      | refine OpJ.pure (OpP.len_string rfl) ?_
      | refine OpJ.pure (OpP.eql rfl rfl) ?_
      | refine OpJ.pure (OpP.eql_string rfl rfl) ?_
      | refine OpJ.pure (OpP.eql_bool rfl rfl) ?_
      | refine OpJ.pure (OpP.eql_nil rfl rfl) ?_
      | refine OpJ.pure (OpP.eql_nil_slice rfl rfl) ?_
      | refine OpJ.pure (OpP.pick_t rfl (by with_reducible assumption) rfl) ?_
      | refine OpJ.pure (OpP.pick_f rfl (by with_reducible assumption) rfl) ?_
      | refine OpJ.pure (OpP.pick_dt rfl (by omega) rfl) ?_
      | refine OpJ.pure (OpP.pick_df rfl (by omega) rfl) ?_
      | refine OpJ.pure (OpP.pick_t rfl rfl rfl) ?_
      | refine OpJ.pure (OpP.pick_f rfl rfl rfl) ?_
      | refine OpJ.pure (OpP.pick rfl rfl rfl) ?_)
    | refine OpsJ.nil ?_
    | refine CodeJ.cond_t rfl (by with_reducible assumption) ?_
    | refine CodeJ.cond_f rfl (by with_reducible assumption) ?_
    | refine CodeJ.cond_dt rfl (by omega) ?_
    | refine CodeJ.cond_df rfl (by omega) ?_
    | refine CodeJ.cond_t rfl rfl ?_
    | refine CodeJ.cond_f rfl rfl ?_)
  refine OpsJ.put (d := 4) rfl (OpJ.call (hs := _) rfl (Split.all _ _ : Split _ ([_] ++ []) []) (fun R' hle hin => hg R' g bs bad _ ⟨A, m, c, hm, hc, hA.mono hle, rfl⟩) ?_)
  rintro v D hs1 hd ⟨rfl, rfl⟩
  cases bad with
  | true =>
    repeat (first
      | refine CodeJ.seq' ?_
      | refine CodeJ.region ?_
      | refine CodeJ.block ?_
      | refine CodeJ.skip ?_
      | refine CodeJ.exit rfl ?_
      | refine CodeJ.ret' ?_
      | (refine OpsJ.gsel rfl rfl rfl rfl ?_; first | refine GuardJ.yes (by with_reducible assumption) ?_ | refine GuardJ.no (by with_reducible assumption) ?_ | refine GuardJ.dt rfl (by omega) ?_ | refine GuardJ.nf rfl (by omega) ?_ | refine GuardJ.df rfl (by omega) ?_ | refine GuardJ.nt rfl (by omega) ?_ | refine GuardJ.yes rfl ?_ | refine GuardJ.no rfl ?_)
      | (refine OpsJ.gund rfl rfl rfl rfl ?_)
      | (refine OpsJ.put rfl ?_; first
        | refine OpJ.pure (OpP.assign rfl) ?_
        | refine OpJ.pure (OpP.move rfl) ?_
        | refine OpJ.pure (OpP.nilCheck rfl) ?_
        | refine OpJ.pure (OpP.fldAddr_lit rfl (by exact rfl)) ?_
        | refine OpJ.pure (OpP.fldAddr rfl (by exact rfl)) ?_
        | refine OpJ.pure (OpP.load_blk (by exact rfl) rfl (by repeat (first | exact List.Mem.head _ | apply List.Mem.tail)) rfl) ?_
        | refine OpJ.pure (OpP.loadN_blk (by exact rfl) rfl (by repeat (first | exact List.Mem.head _ | apply List.Mem.tail)) (by exact rfl)) ?_
        | refine OpJ.pure (OpP.load1 (by exact rfl) rfl (Src.ofR (by with_reducible assumption)) rfl (by assumption)) ?_
        | refine OpJ.pure (OpP.load1 (by exact rfl) rfl (Src.ofRow (by repeat (first | exact List.Mem.head _ | apply List.Mem.tail))) rfl (by assumption)) ?_
        | refine OpJ.pure (OpP.len rfl) ?_
        | refine OpJ.pure (OpP.len_string rfl) ?_
        | refine OpJ.pure (OpP.eql rfl rfl) ?_
        | refine OpJ.pure (OpP.eql_string rfl rfl) ?_
        | refine OpJ.pure (OpP.eql_bool rfl rfl) ?_
        | refine OpJ.pure (OpP.eql_nil rfl rfl) ?_
        | refine OpJ.pure (OpP.eql_nil_slice rfl rfl) ?_
        | refine OpJ.pure (OpP.pick_t rfl (by with_reducible assumption) rfl) ?_
        | refine OpJ.pure (OpP.pick_f rfl (by with_reducible assumption) rfl) ?_
        | refine OpJ.pure (OpP.pick_dt rfl (by omega) rfl) ?_
        | refine OpJ.pure (OpP.pick_df rfl (by omega) rfl) ?_
        | refine OpJ.pure (OpP.pick_t rfl rfl rfl) ?_
        | refine OpJ.pure (OpP.pick_f rfl rfl rfl) ?_
        | refine OpJ.pure (OpP.pick rfl rfl rfl) ?_)
      | refine OpsJ.nil ?_
      | refine CodeJ.cond_t rfl (by with_reducible assumption) ?_
      | refine CodeJ.cond_f rfl (by with_reducible assumption) ?_
      | refine CodeJ.cond_dt rfl (by omega) ?_
      | refine CodeJ.cond_df rfl (by omega) ?_
      | refine CodeJ.cond_t rfl rfl ?_
      | refine CodeJ.cond_f rfl rfl ?_)
    exact Ret.mk0 ⟨rfl, rfl⟩ (ResJ.one Try.results25 rfl) (by repeat (first | exact IM.le_refl _ | assumption | refine IM.le_trans ?_ (IM.le_or _ _))) (by repeat (first | exact SubL.nil _ | refine SubL.p0 ?_ | refine SubL.p1 ?_ | refine SubL.p2 ?_ | refine SubL.p3 ?_ | refine SubL.p4 ?_ | refine SubL.p5 ?_ | refine SubL.p6 ?_ | refine SubL.p7 ?_))
  | false =>
    repeat (first
      | refine CodeJ.seq' ?_
      | refine CodeJ.region ?_
      | refine CodeJ.block ?_
      | refine CodeJ.skip ?_
      | refine CodeJ.exit rfl ?_
      | refine CodeJ.ret' ?_
      | (refine OpsJ.gsel rfl rfl rfl rfl ?_; first | refine GuardJ.yes (by with_reducible assumption) ?_ | refine GuardJ.no (by with_reducible assumption) ?_ | refine GuardJ.dt rfl (by omega) ?_ | refine GuardJ.nf rfl (by omega) ?_ | refine GuardJ.df rfl (by omega) ?_ | refine GuardJ.nt rfl (by omega) ?_ | refine GuardJ.yes rfl ?_ | refine GuardJ.no rfl ?_)
      | (refine OpsJ.gund rfl rfl rfl rfl ?_)
      | (refine OpsJ.put rfl ?_; first
        | refine OpJ.pure (OpP.assign rfl) ?_
        | refine OpJ.pure (OpP.move rfl) ?_
        | refine OpJ.pure (OpP.nilCheck rfl) ?_
        | refine OpJ.pure (OpP.fldAddr_lit rfl (by exact rfl)) ?_
        | refine OpJ.pure (OpP.fldAddr rfl (by exact rfl)) ?_
        | refine OpJ.pure (OpP.load_blk (by exact rfl) rfl (by repeat (first | exact List.Mem.head _ | apply List.Mem.tail)) rfl) ?_
        | refine OpJ.pure (OpP.loadN_blk (by exact rfl) rfl (by repeat (first | exact List.Mem.head _ | apply List.Mem.tail)) (by exact rfl)) ?_
        | refine OpJ.pure (OpP.load1 (by exact rfl) rfl (Src.ofR (by with_reducible assumption)) rfl (by assumption)) ?_
        | refine OpJ.pure (OpP.load1 (by exact rfl) rfl (Src.ofRow (by repeat (first | exact List.Mem.head _ | apply List.Mem.tail))) rfl (by assumption)) ?_
        | refine OpJ.pure (OpP.len rfl) ?_
        | refine OpJ.pure (OpP.len_string rfl) ?_
        | refine OpJ.pure (OpP.eql rfl rfl) ?_
        | refine OpJ.pure (OpP.eql_string rfl rfl) ?_
        | refine OpJ.pure (OpP.eql_bool rfl rfl) ?_
        | refine OpJ.pure (OpP.eql_nil rfl rfl) ?_
        | refine OpJ.pure (OpP.eql_nil_slice rfl rfl) ?_
        | refine OpJ.pure (OpP.pick_t rfl (by with_reducible assumption) rfl) ?_
        | refine OpJ.pure (OpP.pick_f rfl (by with_reducible assumption) rfl) ?_
        | refine OpJ.pure (OpP.pick_dt rfl (by omega) rfl) ?_
        | refine OpJ.pure (OpP.pick_df rfl (by omega) rfl) ?_
        | refine OpJ.pure (OpP.pick_t rfl rfl rfl) ?_
        | refine OpJ.pure (OpP.pick_f rfl rfl rfl) ?_
        | refine OpJ.pure (OpP.pick rfl rfl rfl) ?_)
      | refine OpsJ.nil ?_
      | refine CodeJ.cond_t rfl (by with_reducible assumption) ?_
      | refine CodeJ.cond_f rfl (by with_reducible assumption) ?_
      | refine CodeJ.cond_dt rfl (by omega) ?_
      | refine CodeJ.cond_df rfl (by omega) ?_
      | refine CodeJ.cond_t rfl rfl ?_
      | refine CodeJ.cond_f rfl rfl ?_)
    refine Ret.mk0 ⟨?_, rfl⟩ (ResJ.one Try.results25 rfl) (by repeat (first | exact IM.le_refl _ | assumption | refine IM.le_trans ?_ (IM.le_or _ _))) (by repeat (first | exact SubL.nil _ | refine SubL.p0 ?_ | refine SubL.p1 ?_ | refine SubL.p2 ?_ | refine SubL.p3 ?_ | refine SubL.p4 ?_ | refine SubL.p5 ?_ | refine SubL.p6 ?_ | refine SubL.p7 ?_))
    have : (decide ((m : Int) = 0)) = decide (bs = []) := by
      refine decide_eq_decide.2 ?_
      rw [hm]
      cases bs <;> simp
      omega
    show Value.bool (decide ((m : Int) = 0)) = Value.bool (decide (bs = []))
    rw [this]
theorem bcells_drop (l : List UInt8) (i : Nat) : bcells (l.drop i) = (bcells l).drop i := by simp [bcells]
theorem bcells_take (l : List UInt8) (i : Nat) : bcells (l.take i) = (bcells l).take i := by simp [bcells]
/-- A number out of bytes. -/
def decGo : Nat → Nat → List UInt8 → Option (Nat × List UInt8)
  | _, _, [] => none
  | i, u, c :: r => if i ≥ 9 ∨ (i > 0 ∧ c = 0) then none else
    if c.toNat < 128 then (if u + c.toNat * 128 ^ i > 4611686018427387904 then none else some (u + c.toNat * 128 ^ i, r)) else decGo (i + 1) (u + (c.toNat - 128) * 128 ^ i) r
def dec (l : List UInt8) : Option (Nat × List UInt8) := decGo 0 0 l
theorem num_calls (R0 R : IM) (hR0 : IM.le R0 R) (g : Nat) (bs : List UInt8) (bad : Bool) (hs : List Chunk) (h : ReaderC R0 g bs bad hs) (hb : bs.length ≤ 1000000000) :
    CallJ Try.prog 23 #[.pointer (some ⟨g, 0, none⟩)] ⟨R, hs⟩ (fun v D hs' => match dec bs with
      | some (u, r) => v = .int .i64 u ∧ ∀ R1, IM.le R0 R1 → ReaderC R1 g r bad hs'
      | none => v = .int .i64 0 ∧ ∀ R1, ReaderC R1 g [] true hs') := by
  obtain ⟨A, m, c, hm, hc, hA0, rfl⟩ := h
  have hA := hA0.mono hR0
  refine CallJ.of1 Try.func23 rfl Try.ntmps23 rfl (fun W0 => ?_)
  repeat (first
    | refine CodeJ.seq' ?_
    | refine CodeJ.region ?_
    | refine CodeJ.skip ?_
    | refine CodeJ.exit rfl ?_
    | refine CodeJ.ret' ?_
    | (refine OpsJ.put (d := 31) rfl ?_; refine OpJ.conv_bytes rfl (by first | exact List.Perm.refl _ | exact List.Perm.swap _ _ _ | exact permm2 _ _ _ _ | exact permm3 _ _ _ _ _ | exact permm4 _ _ _ _ _ _ | exact permm5 _ _ _ _ _ _ _) (fun D31 hdis31 hrc31 => ?_))
    | (refine OpsJ.put (d := 31) rfl ?_; refine OpJ.conv_string_bytes rfl (fun A31 c31 D31 hdis31 hrc31 hcap31 => ?_))
    | (refine OpsJ.put (d := 51) rfl ?_; refine OpJ.conv_bytes rfl (by first | exact List.Perm.refl _ | exact List.Perm.swap _ _ _ | exact permm2 _ _ _ _ | exact permm3 _ _ _ _ _ | exact permm4 _ _ _ _ _ _ | exact permm5 _ _ _ _ _ _ _) (fun D51 hdis51 hrc51 => ?_))
    | (refine OpsJ.put (d := 51) rfl ?_; refine OpJ.conv_string_bytes rfl (fun A51 c51 D51 hdis51 hrc51 hcap51 => ?_))
    | (refine OpsJ.gsel rfl rfl rfl rfl ?_; first | refine GuardJ.yes (by with_reducible assumption) ?_ | refine GuardJ.no (by with_reducible assumption) ?_ | refine GuardJ.dt rfl (by omega) ?_ | refine GuardJ.nf rfl (by omega) ?_ | refine GuardJ.df rfl (by omega) ?_ | refine GuardJ.nt rfl (by omega) ?_ | refine GuardJ.yes rfl ?_ | refine GuardJ.no rfl ?_)
    | (refine OpsJ.gund rfl rfl rfl rfl ?_)
    | (refine OpsJ.put rfl ?_; first
      | refine OpJ.pure (OpP.assign rfl) ?_
      | refine OpJ.pure (OpP.move rfl) ?_
      | refine OpJ.pure (OpP.eql rfl rfl) ?_
      | refine OpJ.pure (OpP.eql_string rfl rfl) ?_
      | refine OpJ.pure (OpP.eql_bool rfl rfl) ?_
      | refine OpJ.pure (OpP.eql_nil rfl rfl) ?_
      | refine OpJ.pure (OpP.eql_nil_slice rfl rfl) ?_
      | refine OpJ.pure (OpP.nilCheck rfl) ?_
      | refine OpJ.pure (OpP.fldAddr_lit rfl (by exact rfl)) ?_
      | refine OpJ.pure (OpP.fldAddr rfl (by exact rfl)) ?_
      | refine OpJ.pure (OpP.load_blk (by exact rfl) rfl (by repeat (first | exact List.Mem.head _ | apply List.Mem.tail)) rfl) ?_
      | refine OpJ.pure (OpP.loadN_blk (by exact rfl) rfl (by repeat (first | exact List.Mem.head _ | apply List.Mem.tail)) (by exact rfl)) ?_
      | refine OpJ.pure (OpP.load1 (by exact rfl) rfl (Src.ofR (by with_reducible assumption)) rfl (by assumption)) ?_
      | refine OpJ.pure (OpP.load1 (by exact rfl) rfl (Src.ofRow (by repeat (first | exact List.Mem.head _ | apply List.Mem.tail))) rfl (by assumption)) ?_
      | refine OpJ.pure (OpP.len rfl) ?_
      | refine OpJ.pure (OpP.len_string rfl) ?_
      | refine OpJ.pure (OpP.lss rfl rfl) ?_
      | refine OpJ.pure (OpP.idx1 rfl rfl (by omega) (by omega) (Src.ofR (by with_reducible assumption)) (ne_get (by assumption))) ?_
      | refine OpJ.pure (OpP.idx1 rfl rfl (by omega) (by omega) (Src.ofRow (by repeat (first | exact List.Mem.head _ | apply List.Mem.tail))) (ne_get (by assumption))) ?_
      | refine OpJ.pure (OpP.geq rfl rfl) ?_
      | refine OpJ.pure (OpP.gtr rfl rfl) ?_
      | refine OpJ.pure (OpP.pick_t rfl (by with_reducible assumption) rfl) ?_
      | refine OpJ.pure (OpP.pick_f rfl (by with_reducible assumption) rfl) ?_
      | refine OpJ.pure (OpP.pick_dt rfl (by omega) rfl) ?_
      | refine OpJ.pure (OpP.pick_df rfl (by omega) rfl) ?_
      | refine OpJ.pure (OpP.pick_t rfl rfl rfl) ?_
      | refine OpJ.pure (OpP.pick_f rfl rfl rfl) ?_
      | refine OpJ.pure (OpP.pick rfl rfl rfl) ?_
      | refine OpJ.pure (OpP.and_nat rfl rfl rfl (by first | with_reducible assumption | assumption | decide | exact lt_b32 (by omega) | exact lt_b8 (by omega) | exact lt_b64 (by omega)) (by first | with_reducible assumption | assumption | decide | exact lt_b32 (by omega) | exact lt_b8 (by omega) | exact lt_b64 (by omega))) ?_
      | refine OpJ.pure (OpP.and rfl rfl) ?_
      | refine OpJ.pure (OpP.conv_in rfl (by first | exact IntWalk.i64_in _ (by omega) | exact IntWalk.u8_in _ (by omega) | exact IntWalk.u32_in _ (by omega) | exact wrap_u64_in _ (by omega))) ?_
      | refine OpJ.pure (OpP.conv_int rfl) ?_
      | refine OpJ.pure (OpP.conv_string rfl) ?_
      | refine OpJ.pure (OpP.mul_in rfl rfl (by omega) (by omega)) ?_
      | refine OpJ.pure (OpP.mul rfl rfl) ?_
      | refine OpJ.pure (OpP.shl_nat rfl rfl rfl) ?_
      | refine OpJ.pure (OpP.shl rfl rfl (by omega)) ?_
      | refine OpJ.pure (OpP.or_nat rfl rfl rfl (by first | with_reducible assumption | assumption | decide | exact lt_b32 (by omega) | exact lt_b8 (by omega) | exact lt_b64 (by omega)) (by first | with_reducible assumption | assumption | decide | exact lt_b32 (by omega) | exact lt_b8 (by omega) | exact lt_b64 (by omega))) ?_
      | refine OpJ.pure (OpP.or rfl rfl) ?_
      | refine OpJ.pure (OpP.add_in rfl rfl (by omega) (by omega)) ?_
      | refine OpJ.pure (OpP.cat rfl rfl (by omega)) ?_
      | refine OpJ.pure (OpP.add rfl rfl) ?_
      | refine OpJ.pure (OpP.slice_lo rfl rfl (by omega) (by omega)) ?_
      | refine OpJ.pure (OpP.slice_str_lo rfl rfl (by omega) (by omega)) ?_)
    | (refine OpsJ.act ?_; first
      | (refine OpJ.store rfl rfl rfl (by first | exact List.Perm.refl _ | exact List.Perm.swap _ _ _ | exact permm2 _ _ _ _ | exact permm3 _ _ _ _ _ | exact permm4 _ _ _ _ _ _ | exact permm5 _ _ _ _ _ _ _) (by exact rfl) (by exact rfl) (by exact rfl) ?_; dsimp only [lsplice, take1, take2, take3, take4, drop1, drop2, drop3, drop4, List.take_zero, List.drop_zero, List.cons_append, List.nil_append, List.length_cons, List.length_nil, Nat.reduceAdd, fillL, sliceL, Value.cells, List.toList_toArray, List.append_nil, List.getElem?_cons_zero, get1, get2, get3, Option.getD_some]))
    | refine OpsJ.nil ?_
    | refine CodeJ.cond_t rfl (by with_reducible assumption) ?_
    | refine CodeJ.cond_f rfl (by with_reducible assumption) ?_
    | refine CodeJ.cond_dt rfl (by omega) ?_
    | refine CodeJ.cond_df rfl (by omega) ?_
    | refine CodeJ.cond_t rfl rfl ?_
    | refine CodeJ.cond_f rfl rfl ?_)
  refine CodeJ.mid (fun e s => dec bs = none ∧ e = [(0, .pointer (some ⟨g, 0, none⟩))] ∧ s = ⟨R, [.blk g [.slice A m c, .bool bad] 75]⟩) ?_ ?_
  rotate_left
  · rintro e1 s1 ⟨hd, rfl, rfl⟩
    repeat (first
      | refine CodeJ.seq' ?_
      | refine CodeJ.region ?_
      | refine CodeJ.block ?_
      | refine CodeJ.skip ?_
      | refine CodeJ.exit rfl ?_
      | refine CodeJ.ret' ?_
      | (refine OpsJ.put (d := 31) rfl ?_; refine OpJ.conv_bytes rfl (by first | exact List.Perm.refl _ | exact List.Perm.swap _ _ _ | exact permm2 _ _ _ _ | exact permm3 _ _ _ _ _ | exact permm4 _ _ _ _ _ _ | exact permm5 _ _ _ _ _ _ _) (fun D31 hdis31 hrc31 => ?_))
      | (refine OpsJ.put (d := 31) rfl ?_; refine OpJ.conv_string_bytes rfl (fun A31 c31 D31 hdis31 hrc31 hcap31 => ?_))
      | (refine OpsJ.put (d := 51) rfl ?_; refine OpJ.conv_bytes rfl (by first | exact List.Perm.refl _ | exact List.Perm.swap _ _ _ | exact permm2 _ _ _ _ | exact permm3 _ _ _ _ _ | exact permm4 _ _ _ _ _ _ | exact permm5 _ _ _ _ _ _ _) (fun D51 hdis51 hrc51 => ?_))
      | (refine OpsJ.put (d := 51) rfl ?_; refine OpJ.conv_string_bytes rfl (fun A51 c51 D51 hdis51 hrc51 hcap51 => ?_))
      | (refine OpsJ.gsel rfl rfl rfl rfl ?_; first | refine GuardJ.yes (by with_reducible assumption) ?_ | refine GuardJ.no (by with_reducible assumption) ?_ | refine GuardJ.dt rfl (by omega) ?_ | refine GuardJ.nf rfl (by omega) ?_ | refine GuardJ.df rfl (by omega) ?_ | refine GuardJ.nt rfl (by omega) ?_ | refine GuardJ.yes rfl ?_ | refine GuardJ.no rfl ?_)
      | (refine OpsJ.gund rfl rfl rfl rfl ?_)
      | (refine OpsJ.put rfl ?_; first
        | refine OpJ.pure (OpP.assign rfl) ?_
        | refine OpJ.pure (OpP.move rfl) ?_
        | refine OpJ.pure (OpP.eql rfl rfl) ?_
        | refine OpJ.pure (OpP.eql_string rfl rfl) ?_
        | refine OpJ.pure (OpP.eql_bool rfl rfl) ?_
        | refine OpJ.pure (OpP.eql_nil rfl rfl) ?_
        | refine OpJ.pure (OpP.eql_nil_slice rfl rfl) ?_
        | refine OpJ.pure (OpP.nilCheck rfl) ?_
        | refine OpJ.pure (OpP.fldAddr_lit rfl (by exact rfl)) ?_
        | refine OpJ.pure (OpP.fldAddr rfl (by exact rfl)) ?_
        | refine OpJ.pure (OpP.load_blk (by exact rfl) rfl (by repeat (first | exact List.Mem.head _ | apply List.Mem.tail)) rfl) ?_
        | refine OpJ.pure (OpP.loadN_blk (by exact rfl) rfl (by repeat (first | exact List.Mem.head _ | apply List.Mem.tail)) (by exact rfl)) ?_
        | refine OpJ.pure (OpP.load1 (by exact rfl) rfl (Src.ofR (by with_reducible assumption)) rfl (by assumption)) ?_
        | refine OpJ.pure (OpP.load1 (by exact rfl) rfl (Src.ofRow (by repeat (first | exact List.Mem.head _ | apply List.Mem.tail))) rfl (by assumption)) ?_
        | refine OpJ.pure (OpP.len rfl) ?_
        | refine OpJ.pure (OpP.len_string rfl) ?_
        | refine OpJ.pure (OpP.lss rfl rfl) ?_
        | refine OpJ.pure (OpP.idx1 rfl rfl (by omega) (by omega) (Src.ofR (by with_reducible assumption)) (ne_get (by assumption))) ?_
        | refine OpJ.pure (OpP.idx1 rfl rfl (by omega) (by omega) (Src.ofRow (by repeat (first | exact List.Mem.head _ | apply List.Mem.tail))) (ne_get (by assumption))) ?_
        | refine OpJ.pure (OpP.geq rfl rfl) ?_
        | refine OpJ.pure (OpP.gtr rfl rfl) ?_
        | refine OpJ.pure (OpP.pick_t rfl (by with_reducible assumption) rfl) ?_
        | refine OpJ.pure (OpP.pick_f rfl (by with_reducible assumption) rfl) ?_
        | refine OpJ.pure (OpP.pick_dt rfl (by omega) rfl) ?_
        | refine OpJ.pure (OpP.pick_df rfl (by omega) rfl) ?_
        | refine OpJ.pure (OpP.pick_t rfl rfl rfl) ?_
        | refine OpJ.pure (OpP.pick_f rfl rfl rfl) ?_
        | refine OpJ.pure (OpP.pick rfl rfl rfl) ?_
        | refine OpJ.pure (OpP.and_nat rfl rfl rfl (by first | with_reducible assumption | assumption | decide | exact lt_b32 (by omega) | exact lt_b8 (by omega) | exact lt_b64 (by omega)) (by first | with_reducible assumption | assumption | decide | exact lt_b32 (by omega) | exact lt_b8 (by omega) | exact lt_b64 (by omega))) ?_
        | refine OpJ.pure (OpP.and rfl rfl) ?_
        | refine OpJ.pure (OpP.conv_in rfl (by first | exact IntWalk.i64_in _ (by omega) | exact IntWalk.u8_in _ (by omega) | exact IntWalk.u32_in _ (by omega) | exact wrap_u64_in _ (by omega))) ?_
        | refine OpJ.pure (OpP.conv_int rfl) ?_
        | refine OpJ.pure (OpP.conv_string rfl) ?_
        | refine OpJ.pure (OpP.mul_in rfl rfl (by omega) (by omega)) ?_
        | refine OpJ.pure (OpP.mul rfl rfl) ?_
        | refine OpJ.pure (OpP.shl_nat rfl rfl rfl) ?_
        | refine OpJ.pure (OpP.shl rfl rfl (by omega)) ?_
        | refine OpJ.pure (OpP.or_nat rfl rfl rfl (by first | with_reducible assumption | assumption | decide | exact lt_b32 (by omega) | exact lt_b8 (by omega) | exact lt_b64 (by omega)) (by first | with_reducible assumption | assumption | decide | exact lt_b32 (by omega) | exact lt_b8 (by omega) | exact lt_b64 (by omega))) ?_
        | refine OpJ.pure (OpP.or rfl rfl) ?_
        | refine OpJ.pure (OpP.add_in rfl rfl (by omega) (by omega)) ?_
        | refine OpJ.pure (OpP.cat rfl rfl (by omega)) ?_
        | refine OpJ.pure (OpP.add rfl rfl) ?_
        | refine OpJ.pure (OpP.slice_lo rfl rfl (by omega) (by omega)) ?_
        | refine OpJ.pure (OpP.slice_str_lo rfl rfl (by omega) (by omega)) ?_)
      | (refine OpsJ.act ?_; first
        | (refine OpJ.store rfl rfl rfl (by first | exact List.Perm.refl _ | exact List.Perm.swap _ _ _ | exact permm2 _ _ _ _ | exact permm3 _ _ _ _ _ | exact permm4 _ _ _ _ _ _ | exact permm5 _ _ _ _ _ _ _) (by exact rfl) (by exact rfl) (by exact rfl) ?_; dsimp only [lsplice, take1, take2, take3, take4, drop1, drop2, drop3, drop4, List.take_zero, List.drop_zero, List.cons_append, List.nil_append, List.length_cons, List.length_nil, Nat.reduceAdd, fillL, sliceL, Value.cells, List.toList_toArray, List.append_nil, List.getElem?_cons_zero, get1, get2, get3, Option.getD_some]))
      | refine OpsJ.nil ?_
      | refine CodeJ.cond_t rfl (by with_reducible assumption) ?_
      | refine CodeJ.cond_f rfl (by with_reducible assumption) ?_
      | refine CodeJ.cond_dt rfl (by omega) ?_
      | refine CodeJ.cond_df rfl (by omega) ?_
      | refine CodeJ.cond_t rfl rfl ?_
      | refine CodeJ.cond_f rfl rfl ?_)
    refine OpsJ.put (d := 54) rfl (OpJ.call rfl (Split.all _ _ : Split _ ([_] ++ []) []) (fun R' hle hin => bad_calls R' g bs bad _ ⟨A, m, c, hm, hc, hA.mono hle, rfl⟩) ?_)
    rintro v D hs1 hd1 ⟨rfl, hR1⟩
    repeat (first
      | refine CodeJ.seq' ?_
      | refine CodeJ.region ?_
      | refine CodeJ.block ?_
      | refine CodeJ.skip ?_
      | refine CodeJ.exit rfl ?_
      | refine CodeJ.ret' ?_
      | (refine OpsJ.put (d := 31) rfl ?_; refine OpJ.conv_bytes rfl (by first | exact List.Perm.refl _ | exact List.Perm.swap _ _ _ | exact permm2 _ _ _ _ | exact permm3 _ _ _ _ _ | exact permm4 _ _ _ _ _ _ | exact permm5 _ _ _ _ _ _ _) (fun D31 hdis31 hrc31 => ?_))
      | (refine OpsJ.put (d := 31) rfl ?_; refine OpJ.conv_string_bytes rfl (fun A31 c31 D31 hdis31 hrc31 hcap31 => ?_))
      | (refine OpsJ.put (d := 51) rfl ?_; refine OpJ.conv_bytes rfl (by first | exact List.Perm.refl _ | exact List.Perm.swap _ _ _ | exact permm2 _ _ _ _ | exact permm3 _ _ _ _ _ | exact permm4 _ _ _ _ _ _ | exact permm5 _ _ _ _ _ _ _) (fun D51 hdis51 hrc51 => ?_))
      | (refine OpsJ.put (d := 51) rfl ?_; refine OpJ.conv_string_bytes rfl (fun A51 c51 D51 hdis51 hrc51 hcap51 => ?_))
      | (refine OpsJ.gsel rfl rfl rfl rfl ?_; first | refine GuardJ.yes (by with_reducible assumption) ?_ | refine GuardJ.no (by with_reducible assumption) ?_ | refine GuardJ.dt rfl (by omega) ?_ | refine GuardJ.nf rfl (by omega) ?_ | refine GuardJ.df rfl (by omega) ?_ | refine GuardJ.nt rfl (by omega) ?_ | refine GuardJ.yes rfl ?_ | refine GuardJ.no rfl ?_)
      | (refine OpsJ.gund rfl rfl rfl rfl ?_)
      | (refine OpsJ.put rfl ?_; first
        | refine OpJ.pure (OpP.assign rfl) ?_
        | refine OpJ.pure (OpP.move rfl) ?_
        | refine OpJ.pure (OpP.eql rfl rfl) ?_
        | refine OpJ.pure (OpP.eql_string rfl rfl) ?_
        | refine OpJ.pure (OpP.eql_bool rfl rfl) ?_
        | refine OpJ.pure (OpP.eql_nil rfl rfl) ?_
        | refine OpJ.pure (OpP.eql_nil_slice rfl rfl) ?_
        | refine OpJ.pure (OpP.nilCheck rfl) ?_
        | refine OpJ.pure (OpP.fldAddr_lit rfl (by exact rfl)) ?_
        | refine OpJ.pure (OpP.fldAddr rfl (by exact rfl)) ?_
        | refine OpJ.pure (OpP.load_blk (by exact rfl) rfl (by repeat (first | exact List.Mem.head _ | apply List.Mem.tail)) rfl) ?_
        | refine OpJ.pure (OpP.loadN_blk (by exact rfl) rfl (by repeat (first | exact List.Mem.head _ | apply List.Mem.tail)) (by exact rfl)) ?_
        | refine OpJ.pure (OpP.load1 (by exact rfl) rfl (Src.ofR (by with_reducible assumption)) rfl (by assumption)) ?_
        | refine OpJ.pure (OpP.load1 (by exact rfl) rfl (Src.ofRow (by repeat (first | exact List.Mem.head _ | apply List.Mem.tail))) rfl (by assumption)) ?_
        | refine OpJ.pure (OpP.len rfl) ?_
        | refine OpJ.pure (OpP.len_string rfl) ?_
        | refine OpJ.pure (OpP.lss rfl rfl) ?_
        | refine OpJ.pure (OpP.idx1 rfl rfl (by omega) (by omega) (Src.ofR (by with_reducible assumption)) (ne_get (by assumption))) ?_
        | refine OpJ.pure (OpP.idx1 rfl rfl (by omega) (by omega) (Src.ofRow (by repeat (first | exact List.Mem.head _ | apply List.Mem.tail))) (ne_get (by assumption))) ?_
        | refine OpJ.pure (OpP.geq rfl rfl) ?_
        | refine OpJ.pure (OpP.gtr rfl rfl) ?_
        | refine OpJ.pure (OpP.pick_t rfl (by with_reducible assumption) rfl) ?_
        | refine OpJ.pure (OpP.pick_f rfl (by with_reducible assumption) rfl) ?_
        | refine OpJ.pure (OpP.pick_dt rfl (by omega) rfl) ?_
        | refine OpJ.pure (OpP.pick_df rfl (by omega) rfl) ?_
        | refine OpJ.pure (OpP.pick_t rfl rfl rfl) ?_
        | refine OpJ.pure (OpP.pick_f rfl rfl rfl) ?_
        | refine OpJ.pure (OpP.pick rfl rfl rfl) ?_
        | refine OpJ.pure (OpP.and_nat rfl rfl rfl (by first | with_reducible assumption | assumption | decide | exact lt_b32 (by omega) | exact lt_b8 (by omega) | exact lt_b64 (by omega)) (by first | with_reducible assumption | assumption | decide | exact lt_b32 (by omega) | exact lt_b8 (by omega) | exact lt_b64 (by omega))) ?_
        | refine OpJ.pure (OpP.and rfl rfl) ?_
        | refine OpJ.pure (OpP.conv_in rfl (by first | exact IntWalk.i64_in _ (by omega) | exact IntWalk.u8_in _ (by omega) | exact IntWalk.u32_in _ (by omega) | exact wrap_u64_in _ (by omega))) ?_
        | refine OpJ.pure (OpP.conv_int rfl) ?_
        | refine OpJ.pure (OpP.conv_string rfl) ?_
        | refine OpJ.pure (OpP.mul_in rfl rfl (by omega) (by omega)) ?_
        | refine OpJ.pure (OpP.mul rfl rfl) ?_
        | refine OpJ.pure (OpP.shl_nat rfl rfl rfl) ?_
        | refine OpJ.pure (OpP.shl rfl rfl (by omega)) ?_
        | refine OpJ.pure (OpP.or_nat rfl rfl rfl (by first | with_reducible assumption | assumption | decide | exact lt_b32 (by omega) | exact lt_b8 (by omega) | exact lt_b64 (by omega)) (by first | with_reducible assumption | assumption | decide | exact lt_b32 (by omega) | exact lt_b8 (by omega) | exact lt_b64 (by omega))) ?_
        | refine OpJ.pure (OpP.or rfl rfl) ?_
        | refine OpJ.pure (OpP.add_in rfl rfl (by omega) (by omega)) ?_
        | refine OpJ.pure (OpP.cat rfl rfl (by omega)) ?_
        | refine OpJ.pure (OpP.add rfl rfl) ?_
        | refine OpJ.pure (OpP.slice_lo rfl rfl (by omega) (by omega)) ?_
        | refine OpJ.pure (OpP.slice_str_lo rfl rfl (by omega) (by omega)) ?_)
      | (refine OpsJ.act ?_; first
        | (refine OpJ.store rfl rfl rfl (by first | exact List.Perm.refl _ | exact List.Perm.swap _ _ _ | exact permm2 _ _ _ _ | exact permm3 _ _ _ _ _ | exact permm4 _ _ _ _ _ _ | exact permm5 _ _ _ _ _ _ _) (by exact rfl) (by exact rfl) (by exact rfl) ?_; dsimp only [lsplice, take1, take2, take3, take4, drop1, drop2, drop3, drop4, List.take_zero, List.drop_zero, List.cons_append, List.nil_append, List.length_cons, List.length_nil, Nat.reduceAdd, fillL, sliceL, Value.cells, List.toList_toArray, List.append_nil, List.getElem?_cons_zero, get1, get2, get3, Option.getD_some]))
      | refine OpsJ.nil ?_
      | refine CodeJ.cond_t rfl (by with_reducible assumption) ?_
      | refine CodeJ.cond_f rfl (by with_reducible assumption) ?_
      | refine CodeJ.cond_dt rfl (by omega) ?_
      | refine CodeJ.cond_df rfl (by omega) ?_
      | refine CodeJ.cond_t rfl rfl ?_
      | refine CodeJ.cond_f rfl rfl ?_)
    refine Ret.mk0 (hs2 := hs1) ?_ (ResJ.one Try.results23 rfl) (by repeat (first | exact IM.le_refl _ | assumption | refine IM.le_trans ?_ (IM.le_or _ _))) (SubL.app _ _)
    rw [hd]
    exact ⟨rfl, hR1⟩
  refine CodeJ.block ?_
  refine CodeJ.loop (fun k e s => ∃ (i u : Nat), i ≤ bs.length ∧ k = bs.length - i ∧ dec bs = decGo i u (bs.drop i) ∧ u < 128 ^ i ∧ i ≤ 9 ∧
      e = [(0, .pointer (some ⟨g, 0, none⟩)), (3, .int .u64 u), (11, .slice A m c), (12, .int .i64 m), (13, .int .i64 i)] ∧ s = ⟨R, [.blk g [.slice A m c, .bool bad] 75]⟩) bs.length
    ⟨0, 0, Nat.zero_le _, rfl, rfl, by decide, by decide, rfl, rfl⟩ (by repeat (first | exact SubE.nil _ | refine SubE.cons rfl ?_)) (by repeat (first | exact SubL.nil _ | refine SubL.p0 ?_ | refine SubL.p1 ?_ | refine SubL.p2 ?_ | refine SubL.p3 ?_ | refine SubL.p4 ?_ | refine SubL.p5 ?_ | refine SubL.p6 ?_ | refine SubL.p7 ?_)) ?_
  rintro k e1 s1 ⟨i, u, hi, hk, hdec, hu, hi9, rfl, rfl⟩
  repeat (first
    | refine CodeJ.seq' ?_
    | refine CodeJ.region ?_
    | refine CodeJ.block ?_
    | refine CodeJ.skip ?_
    | refine CodeJ.exit rfl ?_
    | refine CodeJ.ret' ?_
    | (refine OpsJ.put (d := 31) rfl ?_; refine OpJ.conv_bytes rfl (by first | exact List.Perm.refl _ | exact List.Perm.swap _ _ _ | exact permm2 _ _ _ _ | exact permm3 _ _ _ _ _ | exact permm4 _ _ _ _ _ _ | exact permm5 _ _ _ _ _ _ _) (fun D31 hdis31 hrc31 => ?_))
    | (refine OpsJ.put (d := 31) rfl ?_; refine OpJ.conv_string_bytes rfl (fun A31 c31 D31 hdis31 hrc31 hcap31 => ?_))
    | (refine OpsJ.put (d := 51) rfl ?_; refine OpJ.conv_bytes rfl (by first | exact List.Perm.refl _ | exact List.Perm.swap _ _ _ | exact permm2 _ _ _ _ | exact permm3 _ _ _ _ _ | exact permm4 _ _ _ _ _ _ | exact permm5 _ _ _ _ _ _ _) (fun D51 hdis51 hrc51 => ?_))
    | (refine OpsJ.put (d := 51) rfl ?_; refine OpJ.conv_string_bytes rfl (fun A51 c51 D51 hdis51 hrc51 hcap51 => ?_))
    | (refine OpsJ.gsel rfl rfl rfl rfl ?_; first | refine GuardJ.yes (by with_reducible assumption) ?_ | refine GuardJ.no (by with_reducible assumption) ?_ | refine GuardJ.dt rfl (by omega) ?_ | refine GuardJ.nf rfl (by omega) ?_ | refine GuardJ.df rfl (by omega) ?_ | refine GuardJ.nt rfl (by omega) ?_ | refine GuardJ.yes rfl ?_ | refine GuardJ.no rfl ?_)
    | (refine OpsJ.gund rfl rfl rfl rfl ?_)
    | (refine OpsJ.put rfl ?_; first
      | refine OpJ.pure (OpP.assign rfl) ?_
      | refine OpJ.pure (OpP.move rfl) ?_
      | refine OpJ.pure (OpP.eql rfl rfl) ?_
      | refine OpJ.pure (OpP.eql_string rfl rfl) ?_
      | refine OpJ.pure (OpP.eql_bool rfl rfl) ?_
      | refine OpJ.pure (OpP.eql_nil rfl rfl) ?_
      | refine OpJ.pure (OpP.eql_nil_slice rfl rfl) ?_
      | refine OpJ.pure (OpP.nilCheck rfl) ?_
      | refine OpJ.pure (OpP.fldAddr_lit rfl (by exact rfl)) ?_
      | refine OpJ.pure (OpP.fldAddr rfl (by exact rfl)) ?_
      | refine OpJ.pure (OpP.load_blk (by exact rfl) rfl (by repeat (first | exact List.Mem.head _ | apply List.Mem.tail)) rfl) ?_
      | refine OpJ.pure (OpP.loadN_blk (by exact rfl) rfl (by repeat (first | exact List.Mem.head _ | apply List.Mem.tail)) (by exact rfl)) ?_
      | refine OpJ.pure (OpP.load1 (by exact rfl) rfl (Src.ofR (by with_reducible assumption)) rfl (by assumption)) ?_
      | refine OpJ.pure (OpP.load1 (by exact rfl) rfl (Src.ofRow (by repeat (first | exact List.Mem.head _ | apply List.Mem.tail))) rfl (by assumption)) ?_
      | refine OpJ.pure (OpP.len rfl) ?_
      | refine OpJ.pure (OpP.len_string rfl) ?_
      | refine OpJ.pure (OpP.lss rfl rfl) ?_
      | refine OpJ.pure (OpP.idx1 rfl rfl (by omega) (by omega) (Src.ofR (by with_reducible assumption)) (ne_get (by assumption))) ?_
      | refine OpJ.pure (OpP.idx1 rfl rfl (by omega) (by omega) (Src.ofRow (by repeat (first | exact List.Mem.head _ | apply List.Mem.tail))) (ne_get (by assumption))) ?_
      | refine OpJ.pure (OpP.geq rfl rfl) ?_
      | refine OpJ.pure (OpP.gtr rfl rfl) ?_
      | refine OpJ.pure (OpP.pick_t rfl (by with_reducible assumption) rfl) ?_
      | refine OpJ.pure (OpP.pick_f rfl (by with_reducible assumption) rfl) ?_
      | refine OpJ.pure (OpP.pick_dt rfl (by omega) rfl) ?_
      | refine OpJ.pure (OpP.pick_df rfl (by omega) rfl) ?_
      | refine OpJ.pure (OpP.pick_t rfl rfl rfl) ?_
      | refine OpJ.pure (OpP.pick_f rfl rfl rfl) ?_
      | refine OpJ.pure (OpP.pick rfl rfl rfl) ?_
      | refine OpJ.pure (OpP.and_nat rfl rfl rfl (by first | with_reducible assumption | assumption | decide | exact lt_b32 (by omega) | exact lt_b8 (by omega) | exact lt_b64 (by omega)) (by first | with_reducible assumption | assumption | decide | exact lt_b32 (by omega) | exact lt_b8 (by omega) | exact lt_b64 (by omega))) ?_
      | refine OpJ.pure (OpP.and rfl rfl) ?_
      | refine OpJ.pure (OpP.conv_in rfl (by first | exact IntWalk.i64_in _ (by omega) | exact IntWalk.u8_in _ (by omega) | exact IntWalk.u32_in _ (by omega) | exact wrap_u64_in _ (by omega))) ?_
      | refine OpJ.pure (OpP.conv_int rfl) ?_
      | refine OpJ.pure (OpP.conv_string rfl) ?_
      | refine OpJ.pure (OpP.mul_in rfl rfl (by omega) (by omega)) ?_
      | refine OpJ.pure (OpP.mul rfl rfl) ?_
      | refine OpJ.pure (OpP.shl_nat rfl rfl rfl) ?_
      | refine OpJ.pure (OpP.shl rfl rfl (by omega)) ?_
      | refine OpJ.pure (OpP.or_nat rfl rfl rfl (by first | with_reducible assumption | assumption | decide | exact lt_b32 (by omega) | exact lt_b8 (by omega) | exact lt_b64 (by omega)) (by first | with_reducible assumption | assumption | decide | exact lt_b32 (by omega) | exact lt_b8 (by omega) | exact lt_b64 (by omega))) ?_
      | refine OpJ.pure (OpP.or rfl rfl) ?_
      | refine OpJ.pure (OpP.add_in rfl rfl (by omega) (by omega)) ?_
      | refine OpJ.pure (OpP.cat rfl rfl (by omega)) ?_
      | refine OpJ.pure (OpP.add rfl rfl) ?_
      | refine OpJ.pure (OpP.slice_lo rfl rfl (by omega) (by omega)) ?_
      | refine OpJ.pure (OpP.slice_str_lo rfl rfl (by omega) (by omega)) ?_)
    | (refine OpsJ.act ?_; first
      | (refine OpJ.store rfl rfl rfl (by first | exact List.Perm.refl _ | exact List.Perm.swap _ _ _ | exact permm2 _ _ _ _ | exact permm3 _ _ _ _ _ | exact permm4 _ _ _ _ _ _ | exact permm5 _ _ _ _ _ _ _) (by exact rfl) (by exact rfl) (by exact rfl) ?_; dsimp only [lsplice, take1, take2, take3, take4, drop1, drop2, drop3, drop4, List.take_zero, List.drop_zero, List.cons_append, List.nil_append, List.length_cons, List.length_nil, Nat.reduceAdd, fillL, sliceL, Value.cells, List.toList_toArray, List.append_nil, List.getElem?_cons_zero, get1, get2, get3, Option.getD_some]))
    | refine OpsJ.nil ?_
    | refine CodeJ.cond_t rfl (by with_reducible assumption) ?_
    | refine CodeJ.cond_f rfl (by with_reducible assumption) ?_
    | refine CodeJ.cond_dt rfl (by omega) ?_
    | refine CodeJ.cond_df rfl (by omega) ?_
    | refine CodeJ.cond_t rfl rfl ?_
    | refine CodeJ.cond_f rfl rfl ?_)
  refine CodeJ.cond_d rfl (fun hc => ?_) (fun hc => ?_)
  · have hcell := bcells_get (a := bs) (i := i) (by omega)
    have hdrop : bs.drop i = bs.getD i 0 :: bs.drop (i + 1) := by
      rw [List.drop_eq_getElem_cons (by omega)]; simp [List.getD_eq_getElem?_getD, show i < bs.length by omega]
    rw [hdrop] at hdec
    have hb256 : (bs.getD i 0).toNat < 256 := (bs.getD i 0).toNat_lt
    generalize bs.getD i 0 = b at *
    by_cases h9 : i ≥ 9
    · repeat (first
        | refine CodeJ.seq' ?_
        | refine CodeJ.region ?_
        | refine CodeJ.block ?_
        | refine CodeJ.skip ?_
        | refine CodeJ.exit rfl ?_
        | refine CodeJ.ret' ?_
        | (refine OpsJ.put (d := 31) rfl ?_; refine OpJ.conv_bytes rfl (by first | exact List.Perm.refl _ | exact List.Perm.swap _ _ _ | exact permm2 _ _ _ _ | exact permm3 _ _ _ _ _ | exact permm4 _ _ _ _ _ _ | exact permm5 _ _ _ _ _ _ _) (fun D31 hdis31 hrc31 => ?_))
        | (refine OpsJ.put (d := 31) rfl ?_; refine OpJ.conv_string_bytes rfl (fun A31 c31 D31 hdis31 hrc31 hcap31 => ?_))
        | (refine OpsJ.put (d := 51) rfl ?_; refine OpJ.conv_bytes rfl (by first | exact List.Perm.refl _ | exact List.Perm.swap _ _ _ | exact permm2 _ _ _ _ | exact permm3 _ _ _ _ _ | exact permm4 _ _ _ _ _ _ | exact permm5 _ _ _ _ _ _ _) (fun D51 hdis51 hrc51 => ?_))
        | (refine OpsJ.put (d := 51) rfl ?_; refine OpJ.conv_string_bytes rfl (fun A51 c51 D51 hdis51 hrc51 hcap51 => ?_))
        | (refine OpsJ.gsel rfl rfl rfl rfl ?_; first | refine GuardJ.yes (by with_reducible assumption) ?_ | refine GuardJ.no (by with_reducible assumption) ?_ | refine GuardJ.dt rfl (by omega) ?_ | refine GuardJ.nf rfl (by omega) ?_ | refine GuardJ.df rfl (by omega) ?_ | refine GuardJ.nt rfl (by omega) ?_ | refine GuardJ.yes rfl ?_ | refine GuardJ.no rfl ?_)
        | (refine OpsJ.gund rfl rfl rfl rfl ?_)
        | (refine OpsJ.put rfl ?_; first
          | refine OpJ.pure (OpP.assign rfl) ?_
          | refine OpJ.pure (OpP.move rfl) ?_
          | refine OpJ.pure (OpP.eql rfl rfl) ?_
          | refine OpJ.pure (OpP.eql_string rfl rfl) ?_
          | refine OpJ.pure (OpP.eql_bool rfl rfl) ?_
          | refine OpJ.pure (OpP.eql_nil rfl rfl) ?_
          | refine OpJ.pure (OpP.eql_nil_slice rfl rfl) ?_
          | refine OpJ.pure (OpP.nilCheck rfl) ?_
          | refine OpJ.pure (OpP.fldAddr_lit rfl (by exact rfl)) ?_
          | refine OpJ.pure (OpP.fldAddr rfl (by exact rfl)) ?_
          | refine OpJ.pure (OpP.load_blk (by exact rfl) rfl (by repeat (first | exact List.Mem.head _ | apply List.Mem.tail)) rfl) ?_
          | refine OpJ.pure (OpP.loadN_blk (by exact rfl) rfl (by repeat (first | exact List.Mem.head _ | apply List.Mem.tail)) (by exact rfl)) ?_
          | refine OpJ.pure (OpP.load1 (by exact rfl) rfl (Src.ofR (by with_reducible assumption)) rfl (by assumption)) ?_
          | refine OpJ.pure (OpP.load1 (by exact rfl) rfl (Src.ofRow (by repeat (first | exact List.Mem.head _ | apply List.Mem.tail))) rfl (by assumption)) ?_
          | refine OpJ.pure (OpP.len rfl) ?_
          | refine OpJ.pure (OpP.len_string rfl) ?_
          | refine OpJ.pure (OpP.lss rfl rfl) ?_
          | refine OpJ.pure (OpP.idx1 rfl rfl (by omega) (by omega) (Src.ofR (by with_reducible assumption)) (ne_get (by assumption))) ?_
          | refine OpJ.pure (OpP.idx1 rfl rfl (by omega) (by omega) (Src.ofRow (by repeat (first | exact List.Mem.head _ | apply List.Mem.tail))) (ne_get (by assumption))) ?_
          | refine OpJ.pure (OpP.geq rfl rfl) ?_
          | refine OpJ.pure (OpP.gtr rfl rfl) ?_
          | refine OpJ.pure (OpP.pick_t rfl (by with_reducible assumption) rfl) ?_
          | refine OpJ.pure (OpP.pick_f rfl (by with_reducible assumption) rfl) ?_
          | refine OpJ.pure (OpP.pick_dt rfl (by omega) rfl) ?_
          | refine OpJ.pure (OpP.pick_df rfl (by omega) rfl) ?_
          | refine OpJ.pure (OpP.pick_t rfl rfl rfl) ?_
          | refine OpJ.pure (OpP.pick_f rfl rfl rfl) ?_
          | refine OpJ.pure (OpP.pick rfl rfl rfl) ?_
          | refine OpJ.pure (OpP.and_nat rfl rfl rfl (by first | with_reducible assumption | assumption | decide | exact lt_b32 (by omega) | exact lt_b8 (by omega) | exact lt_b64 (by omega)) (by first | with_reducible assumption | assumption | decide | exact lt_b32 (by omega) | exact lt_b8 (by omega) | exact lt_b64 (by omega))) ?_
          | refine OpJ.pure (OpP.and rfl rfl) ?_
          | refine OpJ.pure (OpP.conv_in rfl (by first | exact IntWalk.i64_in _ (by omega) | exact IntWalk.u8_in _ (by omega) | exact IntWalk.u32_in _ (by omega) | exact wrap_u64_in _ (by omega))) ?_
          | refine OpJ.pure (OpP.conv_int rfl) ?_
          | refine OpJ.pure (OpP.conv_string rfl) ?_
          | refine OpJ.pure (OpP.mul_in rfl rfl (by omega) (by omega)) ?_
          | refine OpJ.pure (OpP.mul rfl rfl) ?_
          | refine OpJ.pure (OpP.shl_nat rfl rfl rfl) ?_
          | refine OpJ.pure (OpP.shl rfl rfl (by omega)) ?_
          | refine OpJ.pure (OpP.or_nat rfl rfl rfl (by first | with_reducible assumption | assumption | decide | exact lt_b32 (by omega) | exact lt_b8 (by omega) | exact lt_b64 (by omega)) (by first | with_reducible assumption | assumption | decide | exact lt_b32 (by omega) | exact lt_b8 (by omega) | exact lt_b64 (by omega))) ?_
          | refine OpJ.pure (OpP.or rfl rfl) ?_
          | refine OpJ.pure (OpP.add_in rfl rfl (by omega) (by omega)) ?_
          | refine OpJ.pure (OpP.cat rfl rfl (by omega)) ?_
          | refine OpJ.pure (OpP.add rfl rfl) ?_
          | refine OpJ.pure (OpP.slice_lo rfl rfl (by omega) (by omega)) ?_
          | refine OpJ.pure (OpP.slice_str_lo rfl rfl (by omega) (by omega)) ?_)
        | (refine OpsJ.act ?_; first
          | (refine OpJ.store rfl rfl rfl (by first | exact List.Perm.refl _ | exact List.Perm.swap _ _ _ | exact permm2 _ _ _ _ | exact permm3 _ _ _ _ _ | exact permm4 _ _ _ _ _ _ | exact permm5 _ _ _ _ _ _ _) (by exact rfl) (by exact rfl) (by exact rfl) ?_; dsimp only [lsplice, take1, take2, take3, take4, drop1, drop2, drop3, drop4, List.take_zero, List.drop_zero, List.cons_append, List.nil_append, List.length_cons, List.length_nil, Nat.reduceAdd, fillL, sliceL, Value.cells, List.toList_toArray, List.append_nil, List.getElem?_cons_zero, get1, get2, get3, Option.getD_some]))
        | refine OpsJ.nil ?_
        | refine CodeJ.cond_t rfl (by with_reducible assumption) ?_
        | refine CodeJ.cond_f rfl (by with_reducible assumption) ?_
        | refine CodeJ.cond_dt rfl (by omega) ?_
        | refine CodeJ.cond_df rfl (by omega) ?_
        | refine CodeJ.cond_t rfl rfl ?_
        | refine CodeJ.cond_f rfl rfl ?_)
      refine ⟨_, _, _, ⟨?_, rfl, rfl⟩, (by repeat (first | exact IM.le_refl _ | assumption | refine IM.le_trans ?_ (IM.le_or _ _))), (by repeat (first | exact SubE.nil _ | refine SubE.cons rfl ?_)), (by repeat (first | exact SubL.nil _ | refine SubL.p0 ?_ | refine SubL.p1 ?_ | refine SubL.p2 ?_ | refine SubL.p3 ?_ | refine SubL.p4 ?_ | refine SubL.p5 ?_ | refine SubL.p6 ?_ | refine SubL.p7 ?_))⟩
      rw [hdec, decGo, if_pos (Or.inl h9)]
    by_cases h0 : i > 0 ∧ b.toNat = 0
    · obtain ⟨h0a, h0b⟩ := h0
      repeat (first
        | refine CodeJ.seq' ?_
        | refine CodeJ.region ?_
        | refine CodeJ.block ?_
        | refine CodeJ.skip ?_
        | refine CodeJ.exit rfl ?_
        | refine CodeJ.ret' ?_
        | (refine OpsJ.put (d := 31) rfl ?_; refine OpJ.conv_bytes rfl (by first | exact List.Perm.refl _ | exact List.Perm.swap _ _ _ | exact permm2 _ _ _ _ | exact permm3 _ _ _ _ _ | exact permm4 _ _ _ _ _ _ | exact permm5 _ _ _ _ _ _ _) (fun D31 hdis31 hrc31 => ?_))
        | (refine OpsJ.put (d := 31) rfl ?_; refine OpJ.conv_string_bytes rfl (fun A31 c31 D31 hdis31 hrc31 hcap31 => ?_))
        | (refine OpsJ.put (d := 51) rfl ?_; refine OpJ.conv_bytes rfl (by first | exact List.Perm.refl _ | exact List.Perm.swap _ _ _ | exact permm2 _ _ _ _ | exact permm3 _ _ _ _ _ | exact permm4 _ _ _ _ _ _ | exact permm5 _ _ _ _ _ _ _) (fun D51 hdis51 hrc51 => ?_))
        | (refine OpsJ.put (d := 51) rfl ?_; refine OpJ.conv_string_bytes rfl (fun A51 c51 D51 hdis51 hrc51 hcap51 => ?_))
        | (refine OpsJ.gsel rfl rfl rfl rfl ?_; first | refine GuardJ.yes (by with_reducible assumption) ?_ | refine GuardJ.no (by with_reducible assumption) ?_ | refine GuardJ.dt rfl (by omega) ?_ | refine GuardJ.nf rfl (by omega) ?_ | refine GuardJ.df rfl (by omega) ?_ | refine GuardJ.nt rfl (by omega) ?_ | refine GuardJ.yes rfl ?_ | refine GuardJ.no rfl ?_)
        | (refine OpsJ.gund rfl rfl rfl rfl ?_)
        | (refine OpsJ.put rfl ?_; first
          | refine OpJ.pure (OpP.assign rfl) ?_
          | refine OpJ.pure (OpP.move rfl) ?_
          | refine OpJ.pure (OpP.eql rfl rfl) ?_
          | refine OpJ.pure (OpP.eql_string rfl rfl) ?_
          | refine OpJ.pure (OpP.eql_bool rfl rfl) ?_
          | refine OpJ.pure (OpP.eql_nil rfl rfl) ?_
          | refine OpJ.pure (OpP.eql_nil_slice rfl rfl) ?_
          | refine OpJ.pure (OpP.nilCheck rfl) ?_
          | refine OpJ.pure (OpP.fldAddr_lit rfl (by exact rfl)) ?_
          | refine OpJ.pure (OpP.fldAddr rfl (by exact rfl)) ?_
          | refine OpJ.pure (OpP.load_blk (by exact rfl) rfl (by repeat (first | exact List.Mem.head _ | apply List.Mem.tail)) rfl) ?_
          | refine OpJ.pure (OpP.loadN_blk (by exact rfl) rfl (by repeat (first | exact List.Mem.head _ | apply List.Mem.tail)) (by exact rfl)) ?_
          | refine OpJ.pure (OpP.load1 (by exact rfl) rfl (Src.ofR (by with_reducible assumption)) rfl (by assumption)) ?_
          | refine OpJ.pure (OpP.load1 (by exact rfl) rfl (Src.ofRow (by repeat (first | exact List.Mem.head _ | apply List.Mem.tail))) rfl (by assumption)) ?_
          | refine OpJ.pure (OpP.len rfl) ?_
          | refine OpJ.pure (OpP.len_string rfl) ?_
          | refine OpJ.pure (OpP.lss rfl rfl) ?_
          | refine OpJ.pure (OpP.idx1 rfl rfl (by omega) (by omega) (Src.ofR (by with_reducible assumption)) (ne_get (by assumption))) ?_
          | refine OpJ.pure (OpP.idx1 rfl rfl (by omega) (by omega) (Src.ofRow (by repeat (first | exact List.Mem.head _ | apply List.Mem.tail))) (ne_get (by assumption))) ?_
          | refine OpJ.pure (OpP.geq rfl rfl) ?_
          | refine OpJ.pure (OpP.gtr rfl rfl) ?_
          | refine OpJ.pure (OpP.pick_t rfl (by with_reducible assumption) rfl) ?_
          | refine OpJ.pure (OpP.pick_f rfl (by with_reducible assumption) rfl) ?_
          | refine OpJ.pure (OpP.pick_dt rfl (by omega) rfl) ?_
          | refine OpJ.pure (OpP.pick_df rfl (by omega) rfl) ?_
          | refine OpJ.pure (OpP.pick_t rfl rfl rfl) ?_
          | refine OpJ.pure (OpP.pick_f rfl rfl rfl) ?_
          | refine OpJ.pure (OpP.pick rfl rfl rfl) ?_
          | refine OpJ.pure (OpP.and_nat rfl rfl rfl (by first | with_reducible assumption | assumption | decide | exact lt_b32 (by omega) | exact lt_b8 (by omega) | exact lt_b64 (by omega)) (by first | with_reducible assumption | assumption | decide | exact lt_b32 (by omega) | exact lt_b8 (by omega) | exact lt_b64 (by omega))) ?_
          | refine OpJ.pure (OpP.and rfl rfl) ?_
          | refine OpJ.pure (OpP.conv_in rfl (by first | exact IntWalk.i64_in _ (by omega) | exact IntWalk.u8_in _ (by omega) | exact IntWalk.u32_in _ (by omega) | exact wrap_u64_in _ (by omega))) ?_
          | refine OpJ.pure (OpP.conv_int rfl) ?_
          | refine OpJ.pure (OpP.conv_string rfl) ?_
          | refine OpJ.pure (OpP.mul_in rfl rfl (by omega) (by omega)) ?_
          | refine OpJ.pure (OpP.mul rfl rfl) ?_
          | refine OpJ.pure (OpP.shl_nat rfl rfl rfl) ?_
          | refine OpJ.pure (OpP.shl rfl rfl (by omega)) ?_
          | refine OpJ.pure (OpP.or_nat rfl rfl rfl (by first | with_reducible assumption | assumption | decide | exact lt_b32 (by omega) | exact lt_b8 (by omega) | exact lt_b64 (by omega)) (by first | with_reducible assumption | assumption | decide | exact lt_b32 (by omega) | exact lt_b8 (by omega) | exact lt_b64 (by omega))) ?_
          | refine OpJ.pure (OpP.or rfl rfl) ?_
          | refine OpJ.pure (OpP.add_in rfl rfl (by omega) (by omega)) ?_
          | refine OpJ.pure (OpP.cat rfl rfl (by omega)) ?_
          | refine OpJ.pure (OpP.add rfl rfl) ?_
          | refine OpJ.pure (OpP.slice_lo rfl rfl (by omega) (by omega)) ?_
          | refine OpJ.pure (OpP.slice_str_lo rfl rfl (by omega) (by omega)) ?_)
        | (refine OpsJ.act ?_; first
          | (refine OpJ.store rfl rfl rfl (by first | exact List.Perm.refl _ | exact List.Perm.swap _ _ _ | exact permm2 _ _ _ _ | exact permm3 _ _ _ _ _ | exact permm4 _ _ _ _ _ _ | exact permm5 _ _ _ _ _ _ _) (by exact rfl) (by exact rfl) (by exact rfl) ?_; dsimp only [lsplice, take1, take2, take3, take4, drop1, drop2, drop3, drop4, List.take_zero, List.drop_zero, List.cons_append, List.nil_append, List.length_cons, List.length_nil, Nat.reduceAdd, fillL, sliceL, Value.cells, List.toList_toArray, List.append_nil, List.getElem?_cons_zero, get1, get2, get3, Option.getD_some]))
        | refine OpsJ.nil ?_
        | refine CodeJ.cond_t rfl (by with_reducible assumption) ?_
        | refine CodeJ.cond_f rfl (by with_reducible assumption) ?_
        | refine CodeJ.cond_dt rfl (by omega) ?_
        | refine CodeJ.cond_df rfl (by omega) ?_
        | refine CodeJ.cond_t rfl rfl ?_
        | refine CodeJ.cond_f rfl rfl ?_)
      refine ⟨_, _, _, ⟨?_, rfl, rfl⟩, (by repeat (first | exact IM.le_refl _ | assumption | refine IM.le_trans ?_ (IM.le_or _ _))), (by repeat (first | exact SubE.nil _ | refine SubE.cons rfl ?_)), (by repeat (first | exact SubL.nil _ | refine SubL.p0 ?_ | refine SubL.p1 ?_ | refine SubL.p2 ?_ | refine SubL.p3 ?_ | refine SubL.p4 ?_ | refine SubL.p5 ?_ | refine SubL.p6 ?_ | refine SubL.p7 ?_))⟩
      rw [hdec, decGo, if_pos (Or.inr ⟨h0a, UInt8.toNat_inj.1 (by simpa using h0b)⟩)]
    have hdec2 : dec bs = if b.toNat < 128 then (if u + b.toNat * 128 ^ i > 4611686018427387904 then none else some (u + b.toNat * 128 ^ i, bs.drop (i + 1))) else decGo (i + 1) (u + (b.toNat - 128) * 128 ^ i) (bs.drop (i + 1)) := by
      rw [hdec, decGo, if_neg]
      rintro (h | ⟨h, h'⟩)
      · exact h9 h
      · exact h0 ⟨h, by rw [h']; rfl⟩
    have hp128 : 128 ^ (i + 1) ≤ 128 ^ 9 := Nat.pow_le_pow_right (by decide) (by omega)
    have hps : 128 ^ (i + 1) = 128 * 128 ^ i := by rw [Nat.pow_succ, Nat.mul_comm]
    have hq1 : b.toNat % 128 * 128 ^ i ≤ 127 * 128 ^ i := Nat.mul_le_mul_right _ (by omega)
    have h99 : (128 : Nat) ^ 9 = 9223372036854775808 := by decide
    have hpow : b.toNat % 128 * 2 ^ (7 * i) = b.toNat % 128 * 128 ^ i := by rw [Nat.pow_mul]
    have hfit : b.toNat % 128 * 2 ^ (7 * i) < 18446744073709551616 := by rw [hpow]; omega
    have hor : u ||| b.toNat % 128 * 128 ^ i = u + b.toNat % 128 * 128 ^ i := by
      have h1 : u < 2 ^ (7 * i) := by rw [Nat.pow_mul]; exact hu
      have h2 := Nat.two_pow_add_eq_or_of_lt h1 (b.toNat % 128)
      rw [← hpow, Nat.or_comm, Nat.mul_comm, ← h2, Nat.add_comm]
    generalize hq : b.toNat % 128 * 128 ^ i = q at *
    have hsum : u + q < 9223372036854775808 := by omega
    by_cases hc128 : b.toNat < 128
    · have hq2 : b.toNat * 128 ^ i = q := by rw [← hq, Nat.mod_eq_of_lt hc128]
      rw [if_pos hc128, hq2] at hdec2
      by_cases hbig : u + q > 4611686018427387904
      · rw [if_pos hbig] at hdec2
        by_cases hi0 : i = 0
        all_goals
          have hi1 : i = 0 ∨ b.toNat ≠ 0 := by omega
          repeat (first
            | (refine OpsJ.put (d := 30) rfl (OpJ.pure (OpP.and_127 rfl rfl rfl (lt_b8 hb256) (by decide)) ?_))
            | (refine OpsJ.put (d := 34) rfl (OpJ.pure (OpP.nat_eq (OpP.shl_u64 (q := 7 * i) rfl rfl (by omega) (by omega) hfit) hpow) ?_))
            | (refine OpsJ.put (d := 35) rfl (OpJ.pure (OpP.nat_eq (OpP.or_nat rfl rfl rfl (lt_b64 (by omega)) (lt_b64 (by omega))) hor) ?_))
            | refine CodeJ.seq' ?_
            | refine CodeJ.region ?_
            | refine CodeJ.block ?_
            | refine CodeJ.skip ?_
            | refine CodeJ.exit rfl ?_
            | refine CodeJ.ret' ?_
            | (refine OpsJ.put (d := 31) rfl ?_; refine OpJ.conv_bytes rfl (by first | exact List.Perm.refl _ | exact List.Perm.swap _ _ _ | exact permm2 _ _ _ _ | exact permm3 _ _ _ _ _ | exact permm4 _ _ _ _ _ _ | exact permm5 _ _ _ _ _ _ _) (fun D31 hdis31 hrc31 => ?_))
            | (refine OpsJ.put (d := 31) rfl ?_; refine OpJ.conv_string_bytes rfl (fun A31 c31 D31 hdis31 hrc31 hcap31 => ?_))
            | (refine OpsJ.put (d := 51) rfl ?_; refine OpJ.conv_bytes rfl (by first | exact List.Perm.refl _ | exact List.Perm.swap _ _ _ | exact permm2 _ _ _ _ | exact permm3 _ _ _ _ _ | exact permm4 _ _ _ _ _ _ | exact permm5 _ _ _ _ _ _ _) (fun D51 hdis51 hrc51 => ?_))
            | (refine OpsJ.put (d := 51) rfl ?_; refine OpJ.conv_string_bytes rfl (fun A51 c51 D51 hdis51 hrc51 hcap51 => ?_))
            | (refine OpsJ.gsel rfl rfl rfl rfl ?_; first | refine GuardJ.yes (by with_reducible assumption) ?_ | refine GuardJ.no (by with_reducible assumption) ?_ | refine GuardJ.dt rfl (by omega) ?_ | refine GuardJ.nf rfl (by omega) ?_ | refine GuardJ.df rfl (by omega) ?_ | refine GuardJ.nt rfl (by omega) ?_ | refine GuardJ.yes rfl ?_ | refine GuardJ.no rfl ?_)
            | (refine OpsJ.gund rfl rfl rfl rfl ?_)
            | (refine OpsJ.put rfl ?_; first
              | refine OpJ.pure (OpP.assign rfl) ?_
              | refine OpJ.pure (OpP.move rfl) ?_
              | refine OpJ.pure (OpP.eql rfl rfl) ?_
              | refine OpJ.pure (OpP.eql_string rfl rfl) ?_
              | refine OpJ.pure (OpP.eql_bool rfl rfl) ?_
              | refine OpJ.pure (OpP.eql_nil rfl rfl) ?_
              | refine OpJ.pure (OpP.eql_nil_slice rfl rfl) ?_
              | refine OpJ.pure (OpP.nilCheck rfl) ?_
              | refine OpJ.pure (OpP.fldAddr_lit rfl (by exact rfl)) ?_
              | refine OpJ.pure (OpP.fldAddr rfl (by exact rfl)) ?_
              | refine OpJ.pure (OpP.load_blk (by exact rfl) rfl (by repeat (first | exact List.Mem.head _ | apply List.Mem.tail)) rfl) ?_
              | refine OpJ.pure (OpP.loadN_blk (by exact rfl) rfl (by repeat (first | exact List.Mem.head _ | apply List.Mem.tail)) (by exact rfl)) ?_
              | refine OpJ.pure (OpP.load1 (by exact rfl) rfl (Src.ofR (by with_reducible assumption)) rfl (by assumption)) ?_
              | refine OpJ.pure (OpP.load1 (by exact rfl) rfl (Src.ofRow (by repeat (first | exact List.Mem.head _ | apply List.Mem.tail))) rfl (by assumption)) ?_
              | refine OpJ.pure (OpP.len rfl) ?_
              | refine OpJ.pure (OpP.len_string rfl) ?_
              | refine OpJ.pure (OpP.lss rfl rfl) ?_
              | refine OpJ.pure (OpP.idx1 rfl rfl (by omega) (by omega) (Src.ofR (by with_reducible assumption)) (ne_get (by assumption))) ?_
              | refine OpJ.pure (OpP.idx1 rfl rfl (by omega) (by omega) (Src.ofRow (by repeat (first | exact List.Mem.head _ | apply List.Mem.tail))) (ne_get (by assumption))) ?_
              | refine OpJ.pure (OpP.geq rfl rfl) ?_
              | refine OpJ.pure (OpP.gtr rfl rfl) ?_
              | refine OpJ.pure (OpP.pick_t rfl (by with_reducible assumption) rfl) ?_
              | refine OpJ.pure (OpP.pick_f rfl (by with_reducible assumption) rfl) ?_
              | refine OpJ.pure (OpP.pick_dt rfl (by omega) rfl) ?_
              | refine OpJ.pure (OpP.pick_df rfl (by omega) rfl) ?_
              | refine OpJ.pure (OpP.pick_t rfl rfl rfl) ?_
              | refine OpJ.pure (OpP.pick_f rfl rfl rfl) ?_
              | refine OpJ.pure (OpP.pick rfl rfl rfl) ?_
              | refine OpJ.pure (OpP.and_nat rfl rfl rfl (by first | with_reducible assumption | assumption | decide | exact lt_b32 (by omega) | exact lt_b8 (by omega) | exact lt_b64 (by omega)) (by first | with_reducible assumption | assumption | decide | exact lt_b32 (by omega) | exact lt_b8 (by omega) | exact lt_b64 (by omega))) ?_
              | refine OpJ.pure (OpP.and rfl rfl) ?_
              | refine OpJ.pure (OpP.conv_in rfl (by first | exact IntWalk.i64_in _ (by omega) | exact IntWalk.u8_in _ (by omega) | exact IntWalk.u32_in _ (by omega) | exact wrap_u64_in _ (by omega))) ?_
              | refine OpJ.pure (OpP.conv_int rfl) ?_
              | refine OpJ.pure (OpP.conv_string rfl) ?_
              | refine OpJ.pure (OpP.mul_in rfl rfl (by omega) (by omega)) ?_
              | refine OpJ.pure (OpP.mul rfl rfl) ?_
              | refine OpJ.pure (OpP.shl_nat rfl rfl rfl) ?_
              | refine OpJ.pure (OpP.shl rfl rfl (by omega)) ?_
              | refine OpJ.pure (OpP.or_nat rfl rfl rfl (by first | with_reducible assumption | assumption | decide | exact lt_b32 (by omega) | exact lt_b8 (by omega) | exact lt_b64 (by omega)) (by first | with_reducible assumption | assumption | decide | exact lt_b32 (by omega) | exact lt_b8 (by omega) | exact lt_b64 (by omega))) ?_
              | refine OpJ.pure (OpP.or rfl rfl) ?_
              | refine OpJ.pure (OpP.add_in rfl rfl (by omega) (by omega)) ?_
              | refine OpJ.pure (OpP.cat rfl rfl (by omega)) ?_
              | refine OpJ.pure (OpP.add rfl rfl) ?_
              | refine OpJ.pure (OpP.slice_lo rfl rfl (by omega) (by omega)) ?_
              | refine OpJ.pure (OpP.slice_str_lo rfl rfl (by omega) (by omega)) ?_)
            | (refine OpsJ.act ?_; first
              | (refine OpJ.store rfl rfl rfl (by first | exact List.Perm.refl _ | exact List.Perm.swap _ _ _ | exact permm2 _ _ _ _ | exact permm3 _ _ _ _ _ | exact permm4 _ _ _ _ _ _ | exact permm5 _ _ _ _ _ _ _) (by exact rfl) (by exact rfl) (by exact rfl) ?_; dsimp only [lsplice, take1, take2, take3, take4, drop1, drop2, drop3, drop4, List.take_zero, List.drop_zero, List.cons_append, List.nil_append, List.length_cons, List.length_nil, Nat.reduceAdd, fillL, sliceL, Value.cells, List.toList_toArray, List.append_nil, List.getElem?_cons_zero, get1, get2, get3, Option.getD_some]))
            | refine OpsJ.nil ?_
            | refine CodeJ.cond_t rfl (by with_reducible assumption) ?_
            | refine CodeJ.cond_f rfl (by with_reducible assumption) ?_
            | refine CodeJ.cond_dt rfl (by omega) ?_
            | refine CodeJ.cond_df rfl (by omega) ?_
            | refine CodeJ.cond_t rfl rfl ?_
            | refine CodeJ.cond_f rfl rfl ?_)
          exact ⟨_, _, _, ⟨hdec2, rfl, rfl⟩, (by repeat (first | exact IM.le_refl _ | assumption | refine IM.le_trans ?_ (IM.le_or _ _))), (by repeat (first | exact SubE.nil _ | refine SubE.cons rfl ?_)), (by repeat (first | exact SubL.nil _ | refine SubL.p0 ?_ | refine SubL.p1 ?_ | refine SubL.p2 ?_ | refine SubL.p3 ?_ | refine SubL.p4 ?_ | refine SubL.p5 ?_ | refine SubL.p6 ?_ | refine SubL.p7 ?_))⟩
      · rw [if_neg hbig] at hdec2
        by_cases hi0 : i = 0
        all_goals
          have hi1 : i = 0 ∨ b.toNat ≠ 0 := by omega
          repeat (first
            | (refine OpsJ.put (d := 30) rfl (OpJ.pure (OpP.and_127 rfl rfl rfl (lt_b8 hb256) (by decide)) ?_))
            | (refine OpsJ.put (d := 34) rfl (OpJ.pure (OpP.nat_eq (OpP.shl_u64 (q := 7 * i) rfl rfl (by omega) (by omega) hfit) hpow) ?_))
            | (refine OpsJ.put (d := 35) rfl (OpJ.pure (OpP.nat_eq (OpP.or_nat rfl rfl rfl (lt_b64 (by omega)) (lt_b64 (by omega))) hor) ?_))
            | refine CodeJ.seq' ?_
            | refine CodeJ.region ?_
            | refine CodeJ.block ?_
            | refine CodeJ.skip ?_
            | refine CodeJ.exit rfl ?_
            | refine CodeJ.ret' ?_
            | (refine OpsJ.put (d := 31) rfl ?_; refine OpJ.conv_bytes rfl (by first | exact List.Perm.refl _ | exact List.Perm.swap _ _ _ | exact permm2 _ _ _ _ | exact permm3 _ _ _ _ _ | exact permm4 _ _ _ _ _ _ | exact permm5 _ _ _ _ _ _ _) (fun D31 hdis31 hrc31 => ?_))
            | (refine OpsJ.put (d := 31) rfl ?_; refine OpJ.conv_string_bytes rfl (fun A31 c31 D31 hdis31 hrc31 hcap31 => ?_))
            | (refine OpsJ.put (d := 51) rfl ?_; refine OpJ.conv_bytes rfl (by first | exact List.Perm.refl _ | exact List.Perm.swap _ _ _ | exact permm2 _ _ _ _ | exact permm3 _ _ _ _ _ | exact permm4 _ _ _ _ _ _ | exact permm5 _ _ _ _ _ _ _) (fun D51 hdis51 hrc51 => ?_))
            | (refine OpsJ.put (d := 51) rfl ?_; refine OpJ.conv_string_bytes rfl (fun A51 c51 D51 hdis51 hrc51 hcap51 => ?_))
            | (refine OpsJ.gsel rfl rfl rfl rfl ?_; first | refine GuardJ.yes (by with_reducible assumption) ?_ | refine GuardJ.no (by with_reducible assumption) ?_ | refine GuardJ.dt rfl (by omega) ?_ | refine GuardJ.nf rfl (by omega) ?_ | refine GuardJ.df rfl (by omega) ?_ | refine GuardJ.nt rfl (by omega) ?_ | refine GuardJ.yes rfl ?_ | refine GuardJ.no rfl ?_)
            | (refine OpsJ.gund rfl rfl rfl rfl ?_)
            | (refine OpsJ.put rfl ?_; first
              | refine OpJ.pure (OpP.assign rfl) ?_
              | refine OpJ.pure (OpP.move rfl) ?_
              | refine OpJ.pure (OpP.eql rfl rfl) ?_
              | refine OpJ.pure (OpP.eql_string rfl rfl) ?_
              | refine OpJ.pure (OpP.eql_bool rfl rfl) ?_
              | refine OpJ.pure (OpP.eql_nil rfl rfl) ?_
              | refine OpJ.pure (OpP.eql_nil_slice rfl rfl) ?_
              | refine OpJ.pure (OpP.nilCheck rfl) ?_
              | refine OpJ.pure (OpP.fldAddr_lit rfl (by exact rfl)) ?_
              | refine OpJ.pure (OpP.fldAddr rfl (by exact rfl)) ?_
              | refine OpJ.pure (OpP.load_blk (by exact rfl) rfl (by repeat (first | exact List.Mem.head _ | apply List.Mem.tail)) rfl) ?_
              | refine OpJ.pure (OpP.loadN_blk (by exact rfl) rfl (by repeat (first | exact List.Mem.head _ | apply List.Mem.tail)) (by exact rfl)) ?_
              | refine OpJ.pure (OpP.load1 (by exact rfl) rfl (Src.ofR (by with_reducible assumption)) rfl (by assumption)) ?_
              | refine OpJ.pure (OpP.load1 (by exact rfl) rfl (Src.ofRow (by repeat (first | exact List.Mem.head _ | apply List.Mem.tail))) rfl (by assumption)) ?_
              | refine OpJ.pure (OpP.len rfl) ?_
              | refine OpJ.pure (OpP.len_string rfl) ?_
              | refine OpJ.pure (OpP.lss rfl rfl) ?_
              | refine OpJ.pure (OpP.idx1 rfl rfl (by omega) (by omega) (Src.ofR (by with_reducible assumption)) (ne_get (by assumption))) ?_
              | refine OpJ.pure (OpP.idx1 rfl rfl (by omega) (by omega) (Src.ofRow (by repeat (first | exact List.Mem.head _ | apply List.Mem.tail))) (ne_get (by assumption))) ?_
              | refine OpJ.pure (OpP.geq rfl rfl) ?_
              | refine OpJ.pure (OpP.gtr rfl rfl) ?_
              | refine OpJ.pure (OpP.pick_t rfl (by with_reducible assumption) rfl) ?_
              | refine OpJ.pure (OpP.pick_f rfl (by with_reducible assumption) rfl) ?_
              | refine OpJ.pure (OpP.pick_dt rfl (by omega) rfl) ?_
              | refine OpJ.pure (OpP.pick_df rfl (by omega) rfl) ?_
              | refine OpJ.pure (OpP.pick_t rfl rfl rfl) ?_
              | refine OpJ.pure (OpP.pick_f rfl rfl rfl) ?_
              | refine OpJ.pure (OpP.pick rfl rfl rfl) ?_
              | refine OpJ.pure (OpP.and_nat rfl rfl rfl (by first | with_reducible assumption | assumption | decide | exact lt_b32 (by omega) | exact lt_b8 (by omega) | exact lt_b64 (by omega)) (by first | with_reducible assumption | assumption | decide | exact lt_b32 (by omega) | exact lt_b8 (by omega) | exact lt_b64 (by omega))) ?_
              | refine OpJ.pure (OpP.and rfl rfl) ?_
              | refine OpJ.pure (OpP.conv_in rfl (by first | exact IntWalk.i64_in _ (by omega) | exact IntWalk.u8_in _ (by omega) | exact IntWalk.u32_in _ (by omega) | exact wrap_u64_in _ (by omega))) ?_
              | refine OpJ.pure (OpP.conv_int rfl) ?_
              | refine OpJ.pure (OpP.conv_string rfl) ?_
              | refine OpJ.pure (OpP.mul_in rfl rfl (by omega) (by omega)) ?_
              | refine OpJ.pure (OpP.mul rfl rfl) ?_
              | refine OpJ.pure (OpP.shl_nat rfl rfl rfl) ?_
              | refine OpJ.pure (OpP.shl rfl rfl (by omega)) ?_
              | refine OpJ.pure (OpP.or_nat rfl rfl rfl (by first | with_reducible assumption | assumption | decide | exact lt_b32 (by omega) | exact lt_b8 (by omega) | exact lt_b64 (by omega)) (by first | with_reducible assumption | assumption | decide | exact lt_b32 (by omega) | exact lt_b8 (by omega) | exact lt_b64 (by omega))) ?_
              | refine OpJ.pure (OpP.or rfl rfl) ?_
              | refine OpJ.pure (OpP.add_in rfl rfl (by omega) (by omega)) ?_
              | refine OpJ.pure (OpP.cat rfl rfl (by omega)) ?_
              | refine OpJ.pure (OpP.add rfl rfl) ?_
              | refine OpJ.pure (OpP.slice_lo rfl rfl (by omega) (by omega)) ?_
              | refine OpJ.pure (OpP.slice_str_lo rfl rfl (by omega) (by omega)) ?_)
            | (refine OpsJ.act ?_; first
              | (refine OpJ.store rfl rfl rfl (by first | exact List.Perm.refl _ | exact List.Perm.swap _ _ _ | exact permm2 _ _ _ _ | exact permm3 _ _ _ _ _ | exact permm4 _ _ _ _ _ _ | exact permm5 _ _ _ _ _ _ _) (by exact rfl) (by exact rfl) (by exact rfl) ?_; dsimp only [lsplice, take1, take2, take3, take4, drop1, drop2, drop3, drop4, List.take_zero, List.drop_zero, List.cons_append, List.nil_append, List.length_cons, List.length_nil, Nat.reduceAdd, fillL, sliceL, Value.cells, List.toList_toArray, List.append_nil, List.getElem?_cons_zero, get1, get2, get3, Option.getD_some]))
            | refine OpsJ.nil ?_
            | refine CodeJ.cond_t rfl (by with_reducible assumption) ?_
            | refine CodeJ.cond_f rfl (by with_reducible assumption) ?_
            | refine CodeJ.cond_dt rfl (by omega) ?_
            | refine CodeJ.cond_df rfl (by omega) ?_
            | refine CodeJ.cond_t rfl rfl ?_
            | refine CodeJ.cond_f rfl rfl ?_)
          refine Ret.mk0 (hs2 := [.blk g [.slice (cutA A ((i : Int) + 1).toNat c 1) (m - ((i : Int) + 1).toNat) (c - ((i : Int) + 1).toNat), .bool bad] 75]) ?_ (ResJ.one Try.results23 rfl) (by repeat (first | exact IM.le_refl _ | assumption | refine IM.le_trans ?_ (IM.le_or _ _))) (by repeat (first | exact SubL.nil _ | refine SubL.p0 ?_ | refine SubL.p1 ?_ | refine SubL.p2 ?_ | refine SubL.p3 ?_ | refine SubL.p4 ?_ | refine SubL.p5 ?_ | refine SubL.p6 ?_ | refine SubL.p7 ?_))
          rw [hdec2]
          have hti : ((i : Int) + 1).toNat = i + 1 := by omega
          refine ⟨rfl, fun R1 hR1 => ⟨_, _, _, ?_, ?_, ?_, rfl⟩⟩
          · rw [hti, List.length_drop, hm]
          · omega
          · rw [hti, bcells_drop]
            have h1 := (hA0.mono hR1).cut (i + 1) c 1 (by rw [bcells_length]; omega) (fun h => by rw [List.drop_eq_nil_iff, bcells_length]; omega)
            rwa [Nat.mul_one] at h1
    · have hq2 : (b.toNat - 128) * 128 ^ i = q := by rw [← hq]; congr 1; omega
      rw [if_neg hc128, hq2] at hdec2
      by_cases hi0 : i = 0
      all_goals
        have hi1 : i = 0 ∨ b.toNat ≠ 0 := by omega
        repeat (first
          | (refine OpsJ.put (d := 30) rfl (OpJ.pure (OpP.and_127 rfl rfl rfl (lt_b8 hb256) (by decide)) ?_))
          | (refine OpsJ.put (d := 34) rfl (OpJ.pure (OpP.nat_eq (OpP.shl_u64 (q := 7 * i) rfl rfl (by omega) (by omega) hfit) hpow) ?_))
          | (refine OpsJ.put (d := 35) rfl (OpJ.pure (OpP.nat_eq (OpP.or_nat rfl rfl rfl (lt_b64 (by omega)) (lt_b64 (by omega))) hor) ?_))
          | refine CodeJ.seq' ?_
          | refine CodeJ.region ?_
          | refine CodeJ.block ?_
          | refine CodeJ.skip ?_
          | refine CodeJ.exit rfl ?_
          | refine CodeJ.ret' ?_
          | (refine OpsJ.put (d := 31) rfl ?_; refine OpJ.conv_bytes rfl (by first | exact List.Perm.refl _ | exact List.Perm.swap _ _ _ | exact permm2 _ _ _ _ | exact permm3 _ _ _ _ _ | exact permm4 _ _ _ _ _ _ | exact permm5 _ _ _ _ _ _ _) (fun D31 hdis31 hrc31 => ?_))
          | (refine OpsJ.put (d := 31) rfl ?_; refine OpJ.conv_string_bytes rfl (fun A31 c31 D31 hdis31 hrc31 hcap31 => ?_))
          | (refine OpsJ.put (d := 51) rfl ?_; refine OpJ.conv_bytes rfl (by first | exact List.Perm.refl _ | exact List.Perm.swap _ _ _ | exact permm2 _ _ _ _ | exact permm3 _ _ _ _ _ | exact permm4 _ _ _ _ _ _ | exact permm5 _ _ _ _ _ _ _) (fun D51 hdis51 hrc51 => ?_))
          | (refine OpsJ.put (d := 51) rfl ?_; refine OpJ.conv_string_bytes rfl (fun A51 c51 D51 hdis51 hrc51 hcap51 => ?_))
          | (refine OpsJ.gsel rfl rfl rfl rfl ?_; first | refine GuardJ.yes (by with_reducible assumption) ?_ | refine GuardJ.no (by with_reducible assumption) ?_ | refine GuardJ.dt rfl (by omega) ?_ | refine GuardJ.nf rfl (by omega) ?_ | refine GuardJ.df rfl (by omega) ?_ | refine GuardJ.nt rfl (by omega) ?_ | refine GuardJ.yes rfl ?_ | refine GuardJ.no rfl ?_)
          | (refine OpsJ.gund rfl rfl rfl rfl ?_)
          | (refine OpsJ.put rfl ?_; first
            | refine OpJ.pure (OpP.assign rfl) ?_
            | refine OpJ.pure (OpP.move rfl) ?_
            | refine OpJ.pure (OpP.eql rfl rfl) ?_
            | refine OpJ.pure (OpP.eql_string rfl rfl) ?_
            | refine OpJ.pure (OpP.eql_bool rfl rfl) ?_
            | refine OpJ.pure (OpP.eql_nil rfl rfl) ?_
            | refine OpJ.pure (OpP.eql_nil_slice rfl rfl) ?_
            | refine OpJ.pure (OpP.nilCheck rfl) ?_
            | refine OpJ.pure (OpP.fldAddr_lit rfl (by exact rfl)) ?_
            | refine OpJ.pure (OpP.fldAddr rfl (by exact rfl)) ?_
            | refine OpJ.pure (OpP.load_blk (by exact rfl) rfl (by repeat (first | exact List.Mem.head _ | apply List.Mem.tail)) rfl) ?_
            | refine OpJ.pure (OpP.loadN_blk (by exact rfl) rfl (by repeat (first | exact List.Mem.head _ | apply List.Mem.tail)) (by exact rfl)) ?_
            | refine OpJ.pure (OpP.load1 (by exact rfl) rfl (Src.ofR (by with_reducible assumption)) rfl (by assumption)) ?_
            | refine OpJ.pure (OpP.load1 (by exact rfl) rfl (Src.ofRow (by repeat (first | exact List.Mem.head _ | apply List.Mem.tail))) rfl (by assumption)) ?_
            | refine OpJ.pure (OpP.len rfl) ?_
            | refine OpJ.pure (OpP.len_string rfl) ?_
            | refine OpJ.pure (OpP.lss rfl rfl) ?_
            | refine OpJ.pure (OpP.idx1 rfl rfl (by omega) (by omega) (Src.ofR (by with_reducible assumption)) (ne_get (by assumption))) ?_
            | refine OpJ.pure (OpP.idx1 rfl rfl (by omega) (by omega) (Src.ofRow (by repeat (first | exact List.Mem.head _ | apply List.Mem.tail))) (ne_get (by assumption))) ?_
            | refine OpJ.pure (OpP.geq rfl rfl) ?_
            | refine OpJ.pure (OpP.gtr rfl rfl) ?_
            | refine OpJ.pure (OpP.pick_t rfl (by with_reducible assumption) rfl) ?_
            | refine OpJ.pure (OpP.pick_f rfl (by with_reducible assumption) rfl) ?_
            | refine OpJ.pure (OpP.pick_dt rfl (by omega) rfl) ?_
            | refine OpJ.pure (OpP.pick_df rfl (by omega) rfl) ?_
            | refine OpJ.pure (OpP.pick_t rfl rfl rfl) ?_
            | refine OpJ.pure (OpP.pick_f rfl rfl rfl) ?_
            | refine OpJ.pure (OpP.pick rfl rfl rfl) ?_
            | refine OpJ.pure (OpP.and_nat rfl rfl rfl (by first | with_reducible assumption | assumption | decide | exact lt_b32 (by omega) | exact lt_b8 (by omega) | exact lt_b64 (by omega)) (by first | with_reducible assumption | assumption | decide | exact lt_b32 (by omega) | exact lt_b8 (by omega) | exact lt_b64 (by omega))) ?_
            | refine OpJ.pure (OpP.and rfl rfl) ?_
            | refine OpJ.pure (OpP.conv_in rfl (by first | exact IntWalk.i64_in _ (by omega) | exact IntWalk.u8_in _ (by omega) | exact IntWalk.u32_in _ (by omega) | exact wrap_u64_in _ (by omega))) ?_
            | refine OpJ.pure (OpP.conv_int rfl) ?_
            | refine OpJ.pure (OpP.conv_string rfl) ?_
            | refine OpJ.pure (OpP.mul_in rfl rfl (by omega) (by omega)) ?_
            | refine OpJ.pure (OpP.mul rfl rfl) ?_
            | refine OpJ.pure (OpP.shl_nat rfl rfl rfl) ?_
            | refine OpJ.pure (OpP.shl rfl rfl (by omega)) ?_
            | refine OpJ.pure (OpP.or_nat rfl rfl rfl (by first | with_reducible assumption | assumption | decide | exact lt_b32 (by omega) | exact lt_b8 (by omega) | exact lt_b64 (by omega)) (by first | with_reducible assumption | assumption | decide | exact lt_b32 (by omega) | exact lt_b8 (by omega) | exact lt_b64 (by omega))) ?_
            | refine OpJ.pure (OpP.or rfl rfl) ?_
            | refine OpJ.pure (OpP.add_in rfl rfl (by omega) (by omega)) ?_
            | refine OpJ.pure (OpP.cat rfl rfl (by omega)) ?_
            | refine OpJ.pure (OpP.add rfl rfl) ?_
            | refine OpJ.pure (OpP.slice_lo rfl rfl (by omega) (by omega)) ?_
            | refine OpJ.pure (OpP.slice_str_lo rfl rfl (by omega) (by omega)) ?_)
          | (refine OpsJ.act ?_; first
            | (refine OpJ.store rfl rfl rfl (by first | exact List.Perm.refl _ | exact List.Perm.swap _ _ _ | exact permm2 _ _ _ _ | exact permm3 _ _ _ _ _ | exact permm4 _ _ _ _ _ _ | exact permm5 _ _ _ _ _ _ _) (by exact rfl) (by exact rfl) (by exact rfl) ?_; dsimp only [lsplice, take1, take2, take3, take4, drop1, drop2, drop3, drop4, List.take_zero, List.drop_zero, List.cons_append, List.nil_append, List.length_cons, List.length_nil, Nat.reduceAdd, fillL, sliceL, Value.cells, List.toList_toArray, List.append_nil, List.getElem?_cons_zero, get1, get2, get3, Option.getD_some]))
          | refine OpsJ.nil ?_
          | refine CodeJ.cond_t rfl (by with_reducible assumption) ?_
          | refine CodeJ.cond_f rfl (by with_reducible assumption) ?_
          | refine CodeJ.cond_dt rfl (by omega) ?_
          | refine CodeJ.cond_df rfl (by omega) ?_
          | refine CodeJ.cond_t rfl rfl ?_
          | refine CodeJ.cond_f rfl rfl ?_)
        exact ⟨bs.length - (i + 1), _, _, _, by omega, ⟨i + 1, u + q, by omega, rfl, hdec2, by omega, by omega, rfl, rfl⟩, (by repeat (first | exact IM.le_refl _ | assumption | refine IM.le_trans ?_ (IM.le_or _ _))), (by repeat (first | exact SubE.nil _ | refine SubE.cons rfl ?_)), (by repeat (first | exact SubL.nil _ | refine SubL.p0 ?_ | refine SubL.p1 ?_ | refine SubL.p2 ?_ | refine SubL.p3 ?_ | refine SubL.p4 ?_ | refine SubL.p5 ?_ | refine SubL.p6 ?_ | refine SubL.p7 ?_))⟩
  · repeat (first
      | refine CodeJ.seq' ?_
      | refine CodeJ.region ?_
      | refine CodeJ.block ?_
      | refine CodeJ.skip ?_
      | refine CodeJ.exit rfl ?_
      | refine CodeJ.ret' ?_
      | (refine OpsJ.put (d := 31) rfl ?_; refine OpJ.conv_bytes rfl (by first | exact List.Perm.refl _ | exact List.Perm.swap _ _ _ | exact permm2 _ _ _ _ | exact permm3 _ _ _ _ _ | exact permm4 _ _ _ _ _ _ | exact permm5 _ _ _ _ _ _ _) (fun D31 hdis31 hrc31 => ?_))
      | (refine OpsJ.put (d := 31) rfl ?_; refine OpJ.conv_string_bytes rfl (fun A31 c31 D31 hdis31 hrc31 hcap31 => ?_))
      | (refine OpsJ.put (d := 51) rfl ?_; refine OpJ.conv_bytes rfl (by first | exact List.Perm.refl _ | exact List.Perm.swap _ _ _ | exact permm2 _ _ _ _ | exact permm3 _ _ _ _ _ | exact permm4 _ _ _ _ _ _ | exact permm5 _ _ _ _ _ _ _) (fun D51 hdis51 hrc51 => ?_))
      | (refine OpsJ.put (d := 51) rfl ?_; refine OpJ.conv_string_bytes rfl (fun A51 c51 D51 hdis51 hrc51 hcap51 => ?_))
      | (refine OpsJ.gsel rfl rfl rfl rfl ?_; first | refine GuardJ.yes (by with_reducible assumption) ?_ | refine GuardJ.no (by with_reducible assumption) ?_ | refine GuardJ.dt rfl (by omega) ?_ | refine GuardJ.nf rfl (by omega) ?_ | refine GuardJ.df rfl (by omega) ?_ | refine GuardJ.nt rfl (by omega) ?_ | refine GuardJ.yes rfl ?_ | refine GuardJ.no rfl ?_)
      | (refine OpsJ.gund rfl rfl rfl rfl ?_)
      | (refine OpsJ.put rfl ?_; first
        | refine OpJ.pure (OpP.assign rfl) ?_
        | refine OpJ.pure (OpP.move rfl) ?_
        | refine OpJ.pure (OpP.eql rfl rfl) ?_
        | refine OpJ.pure (OpP.eql_string rfl rfl) ?_
        | refine OpJ.pure (OpP.eql_bool rfl rfl) ?_
        | refine OpJ.pure (OpP.eql_nil rfl rfl) ?_
        | refine OpJ.pure (OpP.eql_nil_slice rfl rfl) ?_
        | refine OpJ.pure (OpP.nilCheck rfl) ?_
        | refine OpJ.pure (OpP.fldAddr_lit rfl (by exact rfl)) ?_
        | refine OpJ.pure (OpP.fldAddr rfl (by exact rfl)) ?_
        | refine OpJ.pure (OpP.load_blk (by exact rfl) rfl (by repeat (first | exact List.Mem.head _ | apply List.Mem.tail)) rfl) ?_
        | refine OpJ.pure (OpP.loadN_blk (by exact rfl) rfl (by repeat (first | exact List.Mem.head _ | apply List.Mem.tail)) (by exact rfl)) ?_
        | refine OpJ.pure (OpP.load1 (by exact rfl) rfl (Src.ofR (by with_reducible assumption)) rfl (by assumption)) ?_
        | refine OpJ.pure (OpP.load1 (by exact rfl) rfl (Src.ofRow (by repeat (first | exact List.Mem.head _ | apply List.Mem.tail))) rfl (by assumption)) ?_
        | refine OpJ.pure (OpP.len rfl) ?_
        | refine OpJ.pure (OpP.len_string rfl) ?_
        | refine OpJ.pure (OpP.lss rfl rfl) ?_
        | refine OpJ.pure (OpP.idx1 rfl rfl (by omega) (by omega) (Src.ofR (by with_reducible assumption)) (ne_get (by assumption))) ?_
        | refine OpJ.pure (OpP.idx1 rfl rfl (by omega) (by omega) (Src.ofRow (by repeat (first | exact List.Mem.head _ | apply List.Mem.tail))) (ne_get (by assumption))) ?_
        | refine OpJ.pure (OpP.geq rfl rfl) ?_
        | refine OpJ.pure (OpP.gtr rfl rfl) ?_
        | refine OpJ.pure (OpP.pick_t rfl (by with_reducible assumption) rfl) ?_
        | refine OpJ.pure (OpP.pick_f rfl (by with_reducible assumption) rfl) ?_
        | refine OpJ.pure (OpP.pick_dt rfl (by omega) rfl) ?_
        | refine OpJ.pure (OpP.pick_df rfl (by omega) rfl) ?_
        | refine OpJ.pure (OpP.pick_t rfl rfl rfl) ?_
        | refine OpJ.pure (OpP.pick_f rfl rfl rfl) ?_
        | refine OpJ.pure (OpP.pick rfl rfl rfl) ?_
        | refine OpJ.pure (OpP.and_nat rfl rfl rfl (by first | with_reducible assumption | assumption | decide | exact lt_b32 (by omega) | exact lt_b8 (by omega) | exact lt_b64 (by omega)) (by first | with_reducible assumption | assumption | decide | exact lt_b32 (by omega) | exact lt_b8 (by omega) | exact lt_b64 (by omega))) ?_
        | refine OpJ.pure (OpP.and rfl rfl) ?_
        | refine OpJ.pure (OpP.conv_in rfl (by first | exact IntWalk.i64_in _ (by omega) | exact IntWalk.u8_in _ (by omega) | exact IntWalk.u32_in _ (by omega) | exact wrap_u64_in _ (by omega))) ?_
        | refine OpJ.pure (OpP.conv_int rfl) ?_
        | refine OpJ.pure (OpP.conv_string rfl) ?_
        | refine OpJ.pure (OpP.mul_in rfl rfl (by omega) (by omega)) ?_
        | refine OpJ.pure (OpP.mul rfl rfl) ?_
        | refine OpJ.pure (OpP.shl_nat rfl rfl rfl) ?_
        | refine OpJ.pure (OpP.shl rfl rfl (by omega)) ?_
        | refine OpJ.pure (OpP.or_nat rfl rfl rfl (by first | with_reducible assumption | assumption | decide | exact lt_b32 (by omega) | exact lt_b8 (by omega) | exact lt_b64 (by omega)) (by first | with_reducible assumption | assumption | decide | exact lt_b32 (by omega) | exact lt_b8 (by omega) | exact lt_b64 (by omega))) ?_
        | refine OpJ.pure (OpP.or rfl rfl) ?_
        | refine OpJ.pure (OpP.add_in rfl rfl (by omega) (by omega)) ?_
        | refine OpJ.pure (OpP.cat rfl rfl (by omega)) ?_
        | refine OpJ.pure (OpP.add rfl rfl) ?_
        | refine OpJ.pure (OpP.slice_lo rfl rfl (by omega) (by omega)) ?_
        | refine OpJ.pure (OpP.slice_str_lo rfl rfl (by omega) (by omega)) ?_)
      | (refine OpsJ.act ?_; first
        | (refine OpJ.store rfl rfl rfl (by first | exact List.Perm.refl _ | exact List.Perm.swap _ _ _ | exact permm2 _ _ _ _ | exact permm3 _ _ _ _ _ | exact permm4 _ _ _ _ _ _ | exact permm5 _ _ _ _ _ _ _) (by exact rfl) (by exact rfl) (by exact rfl) ?_; dsimp only [lsplice, take1, take2, take3, take4, drop1, drop2, drop3, drop4, List.take_zero, List.drop_zero, List.cons_append, List.nil_append, List.length_cons, List.length_nil, Nat.reduceAdd, fillL, sliceL, Value.cells, List.toList_toArray, List.append_nil, List.getElem?_cons_zero, get1, get2, get3, Option.getD_some]))
      | refine OpsJ.nil ?_
      | refine CodeJ.cond_t rfl (by with_reducible assumption) ?_
      | refine CodeJ.cond_f rfl (by with_reducible assumption) ?_
      | refine CodeJ.cond_dt rfl (by omega) ?_
      | refine CodeJ.cond_df rfl (by omega) ?_
      | refine CodeJ.cond_t rfl rfl ?_
      | refine CodeJ.cond_f rfl rfl ?_)
    refine ⟨_, _, _, ⟨?_, rfl, rfl⟩, (by repeat (first | exact IM.le_refl _ | assumption | refine IM.le_trans ?_ (IM.le_or _ _))), (by repeat (first | exact SubE.nil _ | refine SubE.cons rfl ?_)), (by repeat (first | exact SubL.nil _ | refine SubL.p0 ?_ | refine SubL.p1 ?_ | refine SubL.p2 ?_ | refine SubL.p3 ?_ | refine SubL.p4 ?_ | refine SubL.p5 ?_ | refine SubL.p6 ?_ | refine SubL.p7 ?_))⟩
    rw [hdec, List.drop_of_length_le (by omega)]; rfl
end Go.Proofs.Ytdicpnnmhjgnbaa.FW
