/- octet: what stands on no Writer and no Reader; winnowerlaw1.OctetOfNothing: the walk. -/
import Derived.Test.YtdicpnnmhjgnbaaOc8
import Derived.Test.YtdicpnnmhjgnbaaOpen2
namespace Go.Proofs.Ytdicpnnmhjgnbaa.FW
open Go Go.RowKit Go.Proofs
set_option linter.unusedVariables false
set_option linter.unusedSimpArgs false
set_option maxRecDepth 100000
set_option maxHeartbeats 4000000
attribute [local irreducible] OpsJ CodeJ OpJ OpQ OpP QuietJ CallJ HoldJ Src RC
theorem wnums_nil (R : IM) (B : Option Addr) (m c : Nat) : CallJ Try.prog 17 #[.pointer none, .slice B m c] ⟨R, []⟩ (fun v D hs' => v = .tuple #[] ∧ hs' = []) := by
  refine CallJ.of2 Try.func17 rfl Try.ntmps17 rfl (fun W0 => ?_)
  repeat (first
    | refine CodeJ.seq' ?_
    | refine CodeJ.region ?_
    | refine CodeJ.block ?_
    | refine CodeJ.skip ?_
    | refine CodeJ.exit rfl ?_
    | refine CodeJ.ret' ?_
    | (refine OpsJ.put (d := 18) rfl ?_; refine OpJ.conv_bytes rfl (by first | exact List.Perm.refl _ | exact List.Perm.swap _ _ _ | exact permm2 _ _ _ _ | exact permm3 _ _ _ _ _ | exact permm4 _ _ _ _ _ _ | exact permm5 _ _ _ _ _ _ _) (fun D18 hdis18 hrc18 => ?_))
    | (refine OpsJ.put (d := 18) rfl ?_; refine OpJ.conv_string_bytes rfl (fun A18 c18 D18 hdis18 hrc18 hcap18 => ?_))
    | (refine OpsJ.put (d := 29) rfl ?_; refine OpJ.conv_bytes rfl (by first | exact List.Perm.refl _ | exact List.Perm.swap _ _ _ | exact permm2 _ _ _ _ | exact permm3 _ _ _ _ _ | exact permm4 _ _ _ _ _ _ | exact permm5 _ _ _ _ _ _ _) (fun D29 hdis29 hrc29 => ?_))
    | (refine OpsJ.put (d := 29) rfl ?_; refine OpJ.conv_string_bytes rfl (fun A29 c29 D29 hdis29 hrc29 hcap29 => ?_))
    | (refine OpsJ.put (d := 41) rfl ?_; refine OpJ.conv_bytes rfl (by first | exact List.Perm.refl _ | exact List.Perm.swap _ _ _ | exact permm2 _ _ _ _ | exact permm3 _ _ _ _ _ | exact permm4 _ _ _ _ _ _ | exact permm5 _ _ _ _ _ _ _) (fun D41 hdis41 hrc41 => ?_))
    | (refine OpsJ.put (d := 41) rfl ?_; refine OpJ.conv_string_bytes rfl (fun A41 c41 D41 hdis41 hrc41 hcap41 => ?_))
    | (refine OpsJ.put rfl ?_; first
      | refine OpJ.pure (OpP.move rfl) ?_
      | refine OpJ.pure (OpP.eql rfl rfl) ?_
      | refine OpJ.pure (OpP.eql_string rfl rfl) ?_
      | refine OpJ.pure (OpP.eql_bool rfl rfl) ?_
      | refine OpJ.pure (OpP.eql_nil rfl rfl) ?_
      | refine OpJ.pure (OpP.eql_nil_slice rfl rfl) ?_
      | refine OpJ.pure (OpP.len rfl) ?_
      | refine OpJ.pure (OpP.len_string rfl) ?_
      | refine OpJ.pure (OpP.lss rfl rfl) ?_
      | refine OpJ.pure (OpP.idx1 rfl rfl (by omega) (by omega) (Src.ofR (by with_reducible assumption)) (ne_get (by assumption))) ?_
      | refine OpJ.pure (OpP.idx1 rfl rfl (by omega) (by omega) (Src.ofRow (by repeat (first | exact List.Mem.head _ | apply List.Mem.tail))) (ne_get (by assumption))) ?_
      | refine OpJ.pure (OpP.load_blk (by exact rfl) rfl (by repeat (first | exact List.Mem.head _ | apply List.Mem.tail)) rfl) ?_
      | refine OpJ.pure (OpP.loadN_blk (by exact rfl) rfl (by repeat (first | exact List.Mem.head _ | apply List.Mem.tail)) (by exact rfl)) ?_
      | refine OpJ.pure (OpP.load1 (by exact rfl) rfl (Src.ofR (by with_reducible assumption)) rfl (by assumption)) ?_
      | refine OpJ.pure (OpP.load1 (by exact rfl) rfl (Src.ofRow (by repeat (first | exact List.Mem.head _ | apply List.Mem.tail))) rfl (by assumption)) ?_
      | refine OpJ.pure (OpP.assign rfl) ?_
      | refine OpJ.pure (OpP.min rfl rfl) ?_
      | refine OpJ.pure (OpP.max rfl rfl) ?_
      | refine OpJ.pure (OpP.conv_in rfl (by first | exact IntWalk.i64_in _ (by omega) | exact IntWalk.u8_in _ (by omega) | exact IntWalk.u32_in _ (by omega) | exact wrap_u64_in _ (by omega))) ?_
      | refine OpJ.pure (OpP.conv_int rfl) ?_
      | refine OpJ.pure (OpP.conv_string rfl) ?_
      | refine OpJ.pure (OpP.geq rfl rfl) ?_
      | refine OpJ.pure (OpP.nilCheck rfl) ?_
      | refine OpJ.pure (OpP.fldAddr_lit rfl (by exact rfl)) ?_
      | refine OpJ.pure (OpP.fldAddr rfl (by exact rfl)) ?_
      | refine OpJ.pure (OpP.or_nat rfl rfl rfl (by first | with_reducible assumption | assumption | decide | exact lt_b32 (by omega) | exact lt_b8 (by omega) | exact lt_b64 (by omega)) (by first | with_reducible assumption | assumption | decide | exact lt_b32 (by omega) | exact lt_b8 (by omega) | exact lt_b64 (by omega))) ?_
      | refine OpJ.pure (OpP.or rfl rfl) ?_
      | (refine OpJ.buildSlice rfl rfl (by exact rfl) (by exact rfl) rfl (fun _ => ?_); dsimp only [lsplice, take1, take2, take3, take4, drop1, drop2, drop3, drop4, List.take_zero, List.drop_zero, List.cons_append, List.nil_append, List.length_cons, List.length_nil, Nat.reduceAdd, fillL, sliceL, Value.cells, List.toList_toArray, List.append_nil, List.getElem?_cons_zero, get1, get2, get3, Option.getD_some])
      | refine OpJ.append rfl rfl (by first | exact List.Perm.refl _ | exact List.Perm.swap _ _ _ | exact permm2 _ _ _ _ | exact permm3 _ _ _ _ _ | exact permm4 _ _ _ _ _ _ | exact permm5 _ _ _ _ _ _ _) (Src.ofRow (by repeat (first | exact List.Mem.head _ | apply List.Mem.tail))) (by exact rfl) (by exact rfl) (by exact rfl) (by exact rfl) (by omega) (by omega) (fun _ _ => ?_)
      | refine OpJ.pure (OpP.shr_nat rfl rfl rfl) ?_
      | refine OpJ.pure (OpP.shr rfl rfl (by omega)) ?_
      | refine OpJ.pure (OpP.add_in rfl rfl (by omega) (by omega)) ?_
      | refine OpJ.pure (OpP.cat rfl rfl (by omega)) ?_
      | refine OpJ.pure (OpP.add rfl rfl) ?_)
    | (refine OpsJ.act ?_; first
      | (refine OpJ.store rfl rfl rfl (by first | exact List.Perm.refl _ | exact List.Perm.swap _ _ _ | exact permm2 _ _ _ _ | exact permm3 _ _ _ _ _ | exact permm4 _ _ _ _ _ _ | exact permm5 _ _ _ _ _ _ _) (by exact rfl) (by exact rfl) (by exact rfl) ?_; dsimp only [lsplice, take1, take2, take3, take4, drop1, drop2, drop3, drop4, List.take_zero, List.drop_zero, List.cons_append, List.nil_append, List.length_cons, List.length_nil, Nat.reduceAdd, fillL, sliceL, Value.cells, List.toList_toArray, List.append_nil, List.getElem?_cons_zero, get1, get2, get3, Option.getD_some]))
    | refine OpsJ.nil ?_
    | refine CodeJ.cond_t rfl (by with_reducible assumption) ?_
    | refine CodeJ.cond_f rfl (by with_reducible assumption) ?_
    | refine CodeJ.cond_dt rfl (by omega) ?_
    | refine CodeJ.cond_df rfl (by omega) ?_
    | refine CodeJ.cond_t rfl rfl ?_
    | refine CodeJ.cond_f rfl rfl ?_)
  exact Ret.mk0 ⟨rfl, rfl⟩ (ResJ.none Try.results17) (by repeat (first | exact IM.le_refl _ | assumption | refine IM.le_trans ?_ (IM.le_or _ _))) (by repeat (first | exact SubL.nil _ | refine SubL.p0 ?_ | refine SubL.p1 ?_ | refine SubL.p2 ?_ | refine SubL.p3 ?_ | refine SubL.p4 ?_ | refine SubL.p5 ?_ | refine SubL.p6 ?_ | refine SubL.p7 ?_))
theorem wraw_nil (R : IM) (B : Option Addr) (m c : Nat) : CallJ Try.prog 43 #[.pointer none, .slice B m c] ⟨R, []⟩ (fun v D hs' => v = .tuple #[] ∧ hs' = []) := by
  refine CallJ.of2 Try.func43 rfl Try.ntmps43 rfl (fun W0 => ?_)
  repeat (first
    | refine CodeJ.seq' ?_
    | refine CodeJ.region ?_
    | refine CodeJ.block ?_
    | refine CodeJ.skip ?_
    | refine CodeJ.exit rfl ?_
    | refine CodeJ.ret' ?_
    | (refine OpsJ.put rfl ?_; first
      | refine OpJ.pure (OpP.move rfl) ?_
      | refine OpJ.pure (OpP.neq rfl rfl) ?_
      | refine OpJ.pure (OpP.neq_string rfl rfl) ?_
      | refine OpJ.pure (OpP.neq_bool rfl rfl) ?_
      | refine OpJ.pure (OpP.neq_nil rfl rfl) ?_
      | refine OpJ.pure (OpP.neq_nil_slice rfl rfl) ?_
      | refine OpJ.pure (OpP.nilCheck rfl) ?_
      | refine OpJ.pure (OpP.fldAddr_lit rfl (by exact rfl)) ?_
      | refine OpJ.pure (OpP.fldAddr rfl (by exact rfl)) ?_
      | refine OpJ.pure (OpP.load_blk (by exact rfl) rfl (by repeat (first | exact List.Mem.head _ | apply List.Mem.tail)) rfl) ?_
      | refine OpJ.pure (OpP.loadN_blk (by exact rfl) rfl (by repeat (first | exact List.Mem.head _ | apply List.Mem.tail)) (by exact rfl)) ?_
      | refine OpJ.pure (OpP.load1 (by exact rfl) rfl (Src.ofR (by with_reducible assumption)) rfl (by assumption)) ?_
      | refine OpJ.pure (OpP.load1 (by exact rfl) rfl (Src.ofRow (by repeat (first | exact List.Mem.head _ | apply List.Mem.tail))) rfl (by assumption)) ?_
      | refine OpJ.append rfl rfl (by first | exact List.Perm.refl _ | exact List.Perm.swap _ _ _ | exact permm2 _ _ _ _ | exact permm3 _ _ _ _ _ | exact permm4 _ _ _ _ _ _ | exact permm5 _ _ _ _ _ _ _) (Src.ofRow (by repeat (first | exact List.Mem.head _ | apply List.Mem.tail))) (by exact rfl) (by exact rfl) (by exact rfl) (by exact rfl) (by omega) (by omega) (fun _ _ => ?_))
    | (refine OpsJ.act ?_; first
      | (refine OpJ.store rfl rfl rfl (by first | exact List.Perm.refl _ | exact List.Perm.swap _ _ _ | exact permm2 _ _ _ _ | exact permm3 _ _ _ _ _ | exact permm4 _ _ _ _ _ _ | exact permm5 _ _ _ _ _ _ _) (by exact rfl) (by exact rfl) (by exact rfl) ?_; dsimp only [lsplice, take1, take2, take3, take4, drop1, drop2, drop3, drop4, List.take_zero, List.drop_zero, List.cons_append, List.nil_append, List.length_cons, List.length_nil, Nat.reduceAdd, fillL, sliceL, Value.cells, List.toList_toArray, List.append_nil, List.getElem?_cons_zero, get1, get2, get3, Option.getD_some]))
    | refine OpsJ.nil ?_
    | refine CodeJ.cond_t rfl (by with_reducible assumption) ?_
    | refine CodeJ.cond_f rfl (by with_reducible assumption) ?_
    | refine CodeJ.cond_dt rfl (by omega) ?_
    | refine CodeJ.cond_df rfl (by omega) ?_
    | refine CodeJ.cond_t rfl rfl ?_
    | refine CodeJ.cond_f rfl rfl ?_)
  exact Ret.mk0 ⟨rfl, rfl⟩ (ResJ.none Try.results43) (by repeat (first | exact IM.le_refl _ | assumption | refine IM.le_trans ?_ (IM.le_or _ _))) (by repeat (first | exact SubL.nil _ | refine SubL.p0 ?_ | refine SubL.p1 ?_ | refine SubL.p2 ?_ | refine SubL.p3 ?_ | refine SubL.p4 ?_ | refine SubL.p5 ?_ | refine SubL.p6 ?_ | refine SubL.p7 ?_))
theorem wout_nil (R : IM) : CallJ Try.prog 18 #[.pointer none] ⟨R, []⟩ (fun v D hs' => v = .slice none 0 0 ∧ hs' = []) := by
  refine CallJ.of1 Try.func18 rfl Try.ntmps18 rfl (fun W0 => ?_)
  repeat (first
    | refine CodeJ.seq' ?_
    | refine CodeJ.region ?_
    | refine CodeJ.block ?_
    | refine CodeJ.skip ?_
    | refine CodeJ.exit rfl ?_
    | refine CodeJ.ret' ?_
    | (refine OpsJ.put rfl ?_; first
      | refine OpJ.pure (OpP.assign rfl) ?_
      | refine OpJ.pure (OpP.move rfl) ?_
      | refine OpJ.pure (OpP.eql rfl rfl) ?_
      | refine OpJ.pure (OpP.eql_string rfl rfl) ?_
      | refine OpJ.pure (OpP.eql_bool rfl rfl) ?_
      | refine OpJ.pure (OpP.eql_nil rfl rfl) ?_
      | refine OpJ.pure (OpP.eql_nil_slice rfl rfl) ?_
      | refine OpJ.pure (OpP.nilCheck rfl) ?_
      | refine OpJ.pure (OpP.fldAddr_lit rfl (by exact rfl)) ?_
      | refine OpJ.pure (OpP.fldAddr rfl (by exact rfl)) ?_
      | refine OpJ.pure (OpP.load_blk (by exact rfl) rfl (by repeat (first | exact List.Mem.head _ | apply List.Mem.tail)) rfl) ?_
      | refine OpJ.pure (OpP.loadN_blk (by exact rfl) rfl (by repeat (first | exact List.Mem.head _ | apply List.Mem.tail)) (by exact rfl)) ?_
      | refine OpJ.pure (OpP.load1 (by exact rfl) rfl (Src.ofR (by with_reducible assumption)) rfl (by assumption)) ?_
      | refine OpJ.pure (OpP.load1 (by exact rfl) rfl (Src.ofRow (by repeat (first | exact List.Mem.head _ | apply List.Mem.tail))) rfl (by assumption)) ?_)
    | refine OpsJ.nil ?_
    | refine CodeJ.cond_t rfl (by with_reducible assumption) ?_
    | refine CodeJ.cond_f rfl (by with_reducible assumption) ?_
    | refine CodeJ.cond_dt rfl (by omega) ?_
    | refine CodeJ.cond_df rfl (by omega) ?_
    | refine CodeJ.cond_t rfl rfl ?_
    | refine CodeJ.cond_f rfl rfl ?_)
  exact Ret.mk0 ⟨rfl, rfl⟩ (ResJ.one Try.results18 rfl) (by repeat (first | exact IM.le_refl _ | assumption | refine IM.le_trans ?_ (IM.le_or _ _))) (by repeat (first | exact SubL.nil _ | refine SubL.p0 ?_ | refine SubL.p1 ?_ | refine SubL.p2 ?_ | refine SubL.p3 ?_ | refine SubL.p4 ?_ | refine SubL.p5 ?_ | refine SubL.p6 ?_ | refine SubL.p7 ?_))
theorem rbad_nil (R : IM) : CallJ Try.prog 47 #[.pointer none] ⟨R, []⟩ (fun v D hs' => v = .tuple #[] ∧ hs' = []) := by
  refine CallJ.of1 Try.func47 rfl Try.ntmps47 rfl (fun W0 => ?_)
  repeat (first
    | refine CodeJ.seq' ?_
    | refine CodeJ.region ?_
    | refine CodeJ.block ?_
    | refine CodeJ.skip ?_
    | refine CodeJ.exit rfl ?_
    | refine CodeJ.ret' ?_
    | (refine OpsJ.put rfl ?_; first
      | refine OpJ.pure (OpP.move rfl) ?_
      | refine OpJ.pure (OpP.neq rfl rfl) ?_
      | refine OpJ.pure (OpP.neq_string rfl rfl) ?_
      | refine OpJ.pure (OpP.neq_bool rfl rfl) ?_
      | refine OpJ.pure (OpP.neq_nil rfl rfl) ?_
      | refine OpJ.pure (OpP.neq_nil_slice rfl rfl) ?_
      | refine OpJ.pure (OpP.nilCheck rfl) ?_
      | refine OpJ.pure (OpP.fldAddr_lit rfl (by exact rfl)) ?_
      | refine OpJ.pure (OpP.fldAddr rfl (by exact rfl)) ?_)
    | (refine OpsJ.act ?_; first
      | (refine OpJ.store rfl rfl rfl (by first | exact List.Perm.refl _ | exact List.Perm.swap _ _ _ | exact permm2 _ _ _ _ | exact permm3 _ _ _ _ _ | exact permm4 _ _ _ _ _ _ | exact permm5 _ _ _ _ _ _ _) (by exact rfl) (by exact rfl) (by exact rfl) ?_; dsimp only [lsplice, take1, take2, take3, take4, drop1, drop2, drop3, drop4, List.take_zero, List.drop_zero, List.cons_append, List.nil_append, List.length_cons, List.length_nil, Nat.reduceAdd, fillL, sliceL, Value.cells, List.toList_toArray, List.append_nil, List.getElem?_cons_zero, get1, get2, get3, Option.getD_some]))
    | refine OpsJ.nil ?_
    | refine CodeJ.cond_t rfl (by with_reducible assumption) ?_
    | refine CodeJ.cond_f rfl (by with_reducible assumption) ?_
    | refine CodeJ.cond_dt rfl (by omega) ?_
    | refine CodeJ.cond_df rfl (by omega) ?_
    | refine CodeJ.cond_t rfl rfl ?_
    | refine CodeJ.cond_f rfl rfl ?_)
  exact Ret.mk0 ⟨rfl, rfl⟩ (ResJ.none Try.results47) (by repeat (first | exact IM.le_refl _ | assumption | refine IM.le_trans ?_ (IM.le_or _ _))) (by repeat (first | exact SubL.nil _ | refine SubL.p0 ?_ | refine SubL.p1 ?_ | refine SubL.p2 ?_ | refine SubL.p3 ?_ | refine SubL.p4 ?_ | refine SubL.p5 ?_ | refine SubL.p6 ?_ | refine SubL.p7 ?_))
theorem rnum_nil (R : IM) : CallJ Try.prog 23 #[.pointer none] ⟨R, []⟩ (fun v D hs' => v = .int .i64 0 ∧ hs' = []) := by
  refine CallJ.of1 Try.func23 rfl Try.ntmps23 rfl (fun W0 => ?_)
  repeat (first
    | refine CodeJ.seq' ?_
    | refine CodeJ.region ?_
    | refine CodeJ.block ?_
    | refine CodeJ.skip ?_
    | refine CodeJ.exit rfl ?_
    | refine CodeJ.ret' ?_
    | (refine OpsJ.put (d := 31) rfl ?_; refine OpJ.conv_bytes rfl (by first | exact List.Perm.refl _ | exact List.Perm.swap _ _ _ | exact permm2 _ _ _ _ | exact permm3 _ _ _ _ _ | exact permm4 _ _ _ _ _ _ | exact permm5 _ _ _ _ _ _ _) (fun D31 hdis31 hrc31 => ?_))
    | (refine OpsJ.put (d := 31) rfl ?_; refine OpJ.conv_string_bytes rfl (fun A31 c31 D31 hdis31 hrc31 hcap31 => ?_))
    | (refine OpsJ.put (d := 51) rfl ?_; refine OpJ.conv_bytes rfl (by first | exact List.Perm.refl _ | exact List.Perm.swap _ _ _ | exact permm2 _ _ _ _ | exact permm3 _ _ _ _ _ | exact permm4 _ _ _ _ _ _ | exact permm5 _ _ _ _ _ _ _) (fun D51 hdis51 hrc51 => ?_))
    | (refine OpsJ.put (d := 51) rfl ?_; refine OpJ.conv_string_bytes rfl (fun A51 c51 D51 hdis51 hrc51 hcap51 => ?_))
    | (refine OpsJ.gsel rfl rfl rfl rfl ?_; first | refine GuardJ.yes (by with_reducible assumption) ?_ | refine GuardJ.no (by with_reducible assumption) ?_ | refine GuardJ.dt rfl (by omega) ?_ | refine GuardJ.nf rfl (by omega) ?_ | refine GuardJ.df rfl (by omega) ?_ | refine GuardJ.nt rfl (by omega) ?_ | refine GuardJ.yes rfl ?_ | refine GuardJ.no rfl ?_)
    | (refine OpsJ.gund rfl rfl rfl rfl ?_)
    | (refine OpsJ.put rfl ?_; first
      | refine OpJ.pure (OpP.assign rfl) ?_
      | refine OpJ.pure (OpP.move rfl) ?_
      | refine OpJ.pure (OpP.eql rfl rfl) ?_
      | refine OpJ.pure (OpP.eql_string rfl rfl) ?_
      | refine OpJ.pure (OpP.eql_bool rfl rfl) ?_
      | refine OpJ.pure (OpP.eql_nil rfl rfl) ?_
      | refine OpJ.pure (OpP.eql_nil_slice rfl rfl) ?_
      | refine OpJ.pure (OpP.nilCheck rfl) ?_
      | refine OpJ.pure (OpP.fldAddr_lit rfl (by exact rfl)) ?_
      | refine OpJ.pure (OpP.fldAddr rfl (by exact rfl)) ?_
      | refine OpJ.pure (OpP.load_blk (by exact rfl) rfl (by repeat (first | exact List.Mem.head _ | apply List.Mem.tail)) rfl) ?_
      | refine OpJ.pure (OpP.loadN_blk (by exact rfl) rfl (by repeat (first | exact List.Mem.head _ | apply List.Mem.tail)) (by exact rfl)) ?_
      | refine OpJ.pure (OpP.load1 (by exact rfl) rfl (Src.ofR (by with_reducible assumption)) rfl (by assumption)) ?_
      | refine OpJ.pure (OpP.load1 (by exact rfl) rfl (Src.ofRow (by repeat (first | exact List.Mem.head _ | apply List.Mem.tail))) rfl (by assumption)) ?_
      | refine OpJ.pure (OpP.len rfl) ?_
      | refine OpJ.pure (OpP.len_string rfl) ?_
      | refine OpJ.pure (OpP.lss rfl rfl) ?_
      | refine OpJ.pure (OpP.idx1 rfl rfl (by omega) (by omega) (Src.ofR (by with_reducible assumption)) (ne_get (by assumption))) ?_
      | refine OpJ.pure (OpP.idx1 rfl rfl (by omega) (by omega) (Src.ofRow (by repeat (first | exact List.Mem.head _ | apply List.Mem.tail))) (ne_get (by assumption))) ?_
      | refine OpJ.pure (OpP.geq rfl rfl) ?_
      | refine OpJ.pure (OpP.gtr rfl rfl) ?_
      | refine OpJ.pure (OpP.pick_t rfl (by with_reducible assumption) rfl) ?_
      | refine OpJ.pure (OpP.pick_f rfl (by with_reducible assumption) rfl) ?_
      | refine OpJ.pure (OpP.pick_dt rfl (by omega) rfl) ?_
      | refine OpJ.pure (OpP.pick_df rfl (by omega) rfl) ?_
      | refine OpJ.pure (OpP.pick_t rfl rfl rfl) ?_
      | refine OpJ.pure (OpP.pick_f rfl rfl rfl) ?_
      | refine OpJ.pure (OpP.pick rfl rfl rfl) ?_
      | refine OpJ.pure (OpP.and_nat rfl rfl rfl (by first | with_reducible assumption | assumption | decide | exact lt_b32 (by omega) | exact lt_b8 (by omega) | exact lt_b64 (by omega)) (by first | with_reducible assumption | assumption | decide | exact lt_b32 (by omega) | exact lt_b8 (by omega) | exact lt_b64 (by omega))) ?_
      | refine OpJ.pure (OpP.and rfl rfl) ?_
      | refine OpJ.pure (OpP.conv_in rfl (by first | exact IntWalk.i64_in _ (by omega) | exact IntWalk.u8_in _ (by omega) | exact IntWalk.u32_in _ (by omega) | exact wrap_u64_in _ (by omega))) ?_
      | refine OpJ.pure (OpP.conv_int rfl) ?_
      | refine OpJ.pure (OpP.conv_string rfl) ?_
      | refine OpJ.pure (OpP.mul_in rfl rfl (by omega) (by omega)) ?_
      | refine OpJ.pure (OpP.mul rfl rfl) ?_
      | refine OpJ.pure (OpP.shl_nat rfl rfl rfl) ?_
      | refine OpJ.pure (OpP.shl rfl rfl (by omega)) ?_
      | refine OpJ.pure (OpP.or_nat rfl rfl rfl (by first | with_reducible assumption | assumption | decide | exact lt_b32 (by omega) | exact lt_b8 (by omega) | exact lt_b64 (by omega)) (by first | with_reducible assumption | assumption | decide | exact lt_b32 (by omega) | exact lt_b8 (by omega) | exact lt_b64 (by omega))) ?_
      | refine OpJ.pure (OpP.or rfl rfl) ?_
      | refine OpJ.pure (OpP.add_in rfl rfl (by omega) (by omega)) ?_
      | refine OpJ.pure (OpP.cat rfl rfl (by omega)) ?_
      | refine OpJ.pure (OpP.add rfl rfl) ?_
      | refine OpJ.pure (OpP.slice_lo rfl rfl (by omega) (by omega)) ?_
      | refine OpJ.pure (OpP.slice_str_lo rfl rfl (by omega) (by omega)) ?_)
    | (refine OpsJ.act ?_; first
      | (refine OpJ.store rfl rfl rfl (by first | exact List.Perm.refl _ | exact List.Perm.swap _ _ _ | exact permm2 _ _ _ _ | exact permm3 _ _ _ _ _ | exact permm4 _ _ _ _ _ _ | exact permm5 _ _ _ _ _ _ _) (by exact rfl) (by exact rfl) (by exact rfl) ?_; dsimp only [lsplice, take1, take2, take3, take4, drop1, drop2, drop3, drop4, List.take_zero, List.drop_zero, List.cons_append, List.nil_append, List.length_cons, List.length_nil, Nat.reduceAdd, fillL, sliceL, Value.cells, List.toList_toArray, List.append_nil, List.getElem?_cons_zero, get1, get2, get3, Option.getD_some]))
    | refine OpsJ.nil ?_
    | refine CodeJ.cond_t rfl (by with_reducible assumption) ?_
    | refine CodeJ.cond_f rfl (by with_reducible assumption) ?_
    | refine CodeJ.cond_dt rfl (by omega) ?_
    | refine CodeJ.cond_df rfl (by omega) ?_
    | refine CodeJ.cond_t rfl rfl ?_
    | refine CodeJ.cond_f rfl rfl ?_)
  exact Ret.mk0 ⟨rfl, rfl⟩ (ResJ.one Try.results23 rfl) (by repeat (first | exact IM.le_refl _ | assumption | refine IM.le_trans ?_ (IM.le_or _ _))) (by repeat (first | exact SubL.nil _ | refine SubL.p0 ?_ | refine SubL.p1 ?_ | refine SubL.p2 ?_ | refine SubL.p3 ?_ | refine SubL.p4 ?_ | refine SubL.p5 ?_ | refine SubL.p6 ?_ | refine SubL.p7 ?_))
theorem rleft_nil (R : IM) : CallJ Try.prog 45 #[.pointer none] ⟨R, []⟩ (fun v D hs' => v = .int .i64 0 ∧ hs' = []) := by
  refine CallJ.of1 Try.func45 rfl Try.ntmps45 rfl (fun W0 => ?_)
  repeat (first
    | refine CodeJ.seq' ?_
    | refine CodeJ.region ?_
    | refine CodeJ.block ?_
    | refine CodeJ.skip ?_
    | refine CodeJ.exit rfl ?_
    | refine CodeJ.ret' ?_
    | (refine OpsJ.put rfl ?_; first
      | refine OpJ.pure (OpP.assign rfl) ?_
      | refine OpJ.pure (OpP.move rfl) ?_
      | refine OpJ.pure (OpP.eql rfl rfl) ?_
      | refine OpJ.pure (OpP.eql_string rfl rfl) ?_
      | refine OpJ.pure (OpP.eql_bool rfl rfl) ?_
      | refine OpJ.pure (OpP.eql_nil rfl rfl) ?_
      | refine OpJ.pure (OpP.eql_nil_slice rfl rfl) ?_
      | refine OpJ.pure (OpP.nilCheck rfl) ?_
      | refine OpJ.pure (OpP.fldAddr_lit rfl (by exact rfl)) ?_
      | refine OpJ.pure (OpP.fldAddr rfl (by exact rfl)) ?_
      | refine OpJ.pure (OpP.load_blk (by exact rfl) rfl (by repeat (first | exact List.Mem.head _ | apply List.Mem.tail)) rfl) ?_
      | refine OpJ.pure (OpP.loadN_blk (by exact rfl) rfl (by repeat (first | exact List.Mem.head _ | apply List.Mem.tail)) (by exact rfl)) ?_
      | refine OpJ.pure (OpP.load1 (by exact rfl) rfl (Src.ofR (by with_reducible assumption)) rfl (by assumption)) ?_
      | refine OpJ.pure (OpP.load1 (by exact rfl) rfl (Src.ofRow (by repeat (first | exact List.Mem.head _ | apply List.Mem.tail))) rfl (by assumption)) ?_
      | refine OpJ.pure (OpP.len rfl) ?_
      | refine OpJ.pure (OpP.len_string rfl) ?_)
    | refine OpsJ.nil ?_
    | refine CodeJ.cond_t rfl (by with_reducible assumption) ?_
    | refine CodeJ.cond_f rfl (by with_reducible assumption) ?_
    | refine CodeJ.cond_dt rfl (by omega) ?_
    | refine CodeJ.cond_df rfl (by omega) ?_
    | refine CodeJ.cond_t rfl rfl ?_
    | refine CodeJ.cond_f rfl rfl ?_)
  exact Ret.mk0 ⟨rfl, rfl⟩ (ResJ.one Try.results45 rfl) (by repeat (first | exact IM.le_refl _ | assumption | refine IM.le_trans ?_ (IM.le_or _ _))) (by repeat (first | exact SubL.nil _ | refine SubL.p0 ?_ | refine SubL.p1 ?_ | refine SubL.p2 ?_ | refine SubL.p3 ?_ | refine SubL.p4 ?_ | refine SubL.p5 ?_ | refine SubL.p6 ?_ | refine SubL.p7 ?_))
theorem rgood_nil (R : IM) : CallJ Try.prog 24 #[.pointer none] ⟨R, []⟩ (fun v D hs' => v = .bool false ∧ hs' = []) := by
  refine CallJ.of1 Try.func24 rfl Try.ntmps24 rfl (fun W0 => ?_)
  repeat (first
    | refine CodeJ.seq' ?_
    | refine CodeJ.region ?_
    | refine CodeJ.block ?_
    | refine CodeJ.skip ?_
    | refine CodeJ.exit rfl ?_
    | refine CodeJ.ret' ?_
    | (refine OpsJ.gsel rfl rfl rfl rfl ?_; first | refine GuardJ.yes (by with_reducible assumption) ?_ | refine GuardJ.no (by with_reducible assumption) ?_ | refine GuardJ.dt rfl (by omega) ?_ | refine GuardJ.nf rfl (by omega) ?_ | refine GuardJ.df rfl (by omega) ?_ | refine GuardJ.nt rfl (by omega) ?_ | refine GuardJ.yes rfl ?_ | refine GuardJ.no rfl ?_)
    | (refine OpsJ.gund rfl rfl rfl rfl ?_)
    | (refine OpsJ.put rfl ?_; first
      | refine OpJ.pure (OpP.assign rfl) ?_
      | refine OpJ.pure (OpP.move rfl) ?_
      | refine OpJ.pure (OpP.neq rfl rfl) ?_
      | refine OpJ.pure (OpP.neq_string rfl rfl) ?_
      | refine OpJ.pure (OpP.neq_bool rfl rfl) ?_
      | refine OpJ.pure (OpP.neq_nil rfl rfl) ?_
      | refine OpJ.pure (OpP.neq_nil_slice rfl rfl) ?_
      | refine OpJ.pure (OpP.nilCheck rfl) ?_
      | refine OpJ.pure (OpP.fldAddr_lit rfl (by exact rfl)) ?_
      | refine OpJ.pure (OpP.fldAddr rfl (by exact rfl)) ?_
      | refine OpJ.pure (OpP.load_blk (by exact rfl) rfl (by repeat (first | exact List.Mem.head _ | apply List.Mem.tail)) rfl) ?_
      | refine OpJ.pure (OpP.loadN_blk (by exact rfl) rfl (by repeat (first | exact List.Mem.head _ | apply List.Mem.tail)) (by exact rfl)) ?_
      | refine OpJ.pure (OpP.load1 (by exact rfl) rfl (Src.ofR (by with_reducible assumption)) rfl (by assumption)) ?_
      | refine OpJ.pure (OpP.load1 (by exact rfl) rfl (Src.ofRow (by repeat (first | exact List.Mem.head _ | apply List.Mem.tail))) rfl (by assumption)) ?_
      | refine OpJ.pure (OpP.not rfl) ?_
      | refine OpJ.pure (OpP.pick_t rfl (by with_reducible assumption) rfl) ?_
      | refine OpJ.pure (OpP.pick_f rfl (by with_reducible assumption) rfl) ?_
      | refine OpJ.pure (OpP.pick_dt rfl (by omega) rfl) ?_
      | refine OpJ.pure (OpP.pick_df rfl (by omega) rfl) ?_
      | refine OpJ.pure (OpP.pick_t rfl rfl rfl) ?_
      | refine OpJ.pure (OpP.pick_f rfl rfl rfl) ?_
      | refine OpJ.pure (OpP.pick rfl rfl rfl) ?_)
    | refine OpsJ.nil ?_
    | refine CodeJ.cond_t rfl (by with_reducible assumption) ?_
    | refine CodeJ.cond_f rfl (by with_reducible assumption) ?_
    | refine CodeJ.cond_dt rfl (by omega) ?_
    | refine CodeJ.cond_df rfl (by omega) ?_
    | refine CodeJ.cond_t rfl rfl ?_
    | refine CodeJ.cond_f rfl rfl ?_)
  exact Ret.mk0 ⟨rfl, rfl⟩ (ResJ.one Try.results24 rfl) (by repeat (first | exact IM.le_refl _ | assumption | refine IM.le_trans ?_ (IM.le_or _ _))) (by repeat (first | exact SubL.nil _ | refine SubL.p0 ?_ | refine SubL.p1 ?_ | refine SubL.p2 ?_ | refine SubL.p3 ?_ | refine SubL.p4 ?_ | refine SubL.p5 ?_ | refine SubL.p6 ?_ | refine SubL.p7 ?_))
theorem rwhole_nil (R : IM) : CallJ Try.prog 25 #[.pointer none] ⟨R, []⟩ (fun v D hs' => v = .bool false ∧ hs' = []) := by
  refine CallJ.of1 Try.func25 rfl Try.ntmps25 rfl (fun W0 => ?_)
  repeat (first
    | refine CodeJ.seq' ?_
    | refine CodeJ.region ?_
    | refine CodeJ.block ?_
    | refine CodeJ.skip ?_
    | refine CodeJ.exit rfl ?_
    | refine CodeJ.ret' ?_
    | (refine OpsJ.gsel rfl rfl rfl rfl ?_; first | refine GuardJ.yes (by with_reducible assumption) ?_ | refine GuardJ.no (by with_reducible assumption) ?_ | refine GuardJ.dt rfl (by omega) ?_ | refine GuardJ.nf rfl (by omega) ?_ | refine GuardJ.df rfl (by omega) ?_ | refine GuardJ.nt rfl (by omega) ?_ | refine GuardJ.yes rfl ?_ | refine GuardJ.no rfl ?_)
    | (refine OpsJ.gund rfl rfl rfl rfl ?_)
    | (refine OpsJ.put rfl ?_; first
      | refine OpJ.pure (OpP.assign rfl) ?_
      | refine OpJ.pure (OpP.move rfl) ?_
      | refine OpJ.pure (OpP.nilCheck rfl) ?_
      | refine OpJ.pure (OpP.fldAddr_lit rfl (by exact rfl)) ?_
      | refine OpJ.pure (OpP.fldAddr rfl (by exact rfl)) ?_
      | refine OpJ.pure (OpP.load_blk (by exact rfl) rfl (by repeat (first | exact List.Mem.head _ | apply List.Mem.tail)) rfl) ?_
      | refine OpJ.pure (OpP.loadN_blk (by exact rfl) rfl (by repeat (first | exact List.Mem.head _ | apply List.Mem.tail)) (by exact rfl)) ?_
      | refine OpJ.pure (OpP.load1 (by exact rfl) rfl (Src.ofR (by with_reducible assumption)) rfl (by assumption)) ?_
      | refine OpJ.pure (OpP.load1 (by exact rfl) rfl (Src.ofRow (by repeat (first | exact List.Mem.head _ | apply List.Mem.tail))) rfl (by assumption)) ?_
      | refine OpJ.pure (OpP.len rfl) ?_
      | refine OpJ.pure (OpP.len_string rfl) ?_
      | refine OpJ.pure (OpP.eql rfl rfl) ?_
      | refine OpJ.pure (OpP.eql_string rfl rfl) ?_
      | refine OpJ.pure (OpP.eql_bool rfl rfl) ?_
      | refine OpJ.pure (OpP.eql_nil rfl rfl) ?_
      | refine OpJ.pure (OpP.eql_nil_slice rfl rfl) ?_
      | refine OpJ.pure (OpP.pick_t rfl (by with_reducible assumption) rfl) ?_
      | refine OpJ.pure (OpP.pick_f rfl (by with_reducible assumption) rfl) ?_
      | refine OpJ.pure (OpP.pick_dt rfl (by omega) rfl) ?_
      | refine OpJ.pure (OpP.pick_df rfl (by omega) rfl) ?_
      | refine OpJ.pure (OpP.pick_t rfl rfl rfl) ?_
      | refine OpJ.pure (OpP.pick_f rfl rfl rfl) ?_
      | refine OpJ.pure (OpP.pick rfl rfl rfl) ?_)
    | refine OpsJ.nil ?_
    | refine CodeJ.cond_t rfl (by with_reducible assumption) ?_
    | refine CodeJ.cond_f rfl (by with_reducible assumption) ?_
    | refine CodeJ.cond_dt rfl (by omega) ?_
    | refine CodeJ.cond_df rfl (by omega) ?_
    | refine CodeJ.cond_t rfl rfl ?_
    | refine CodeJ.cond_f rfl rfl ?_)
  refine OpsJ.put (d := 4) rfl (OpJ.call (pass := []) rfl Split.nil (fun R' hle hin => rgood_nil R') ?_)
  rintro v D hs1 hd ⟨rfl, rfl⟩
  repeat (first
    | refine CodeJ.seq' ?_
    | refine CodeJ.region ?_
    | refine CodeJ.block ?_
    | refine CodeJ.skip ?_
    | refine CodeJ.exit rfl ?_
    | refine CodeJ.ret' ?_
    | (refine OpsJ.gsel rfl rfl rfl rfl ?_; first | refine GuardJ.yes (by with_reducible assumption) ?_ | refine GuardJ.no (by with_reducible assumption) ?_ | refine GuardJ.dt rfl (by omega) ?_ | refine GuardJ.nf rfl (by omega) ?_ | refine GuardJ.df rfl (by omega) ?_ | refine GuardJ.nt rfl (by omega) ?_ | refine GuardJ.yes rfl ?_ | refine GuardJ.no rfl ?_)
    | (refine OpsJ.gund rfl rfl rfl rfl ?_)
    | (refine OpsJ.put rfl ?_; first
      | refine OpJ.pure (OpP.assign rfl) ?_
      | refine OpJ.pure (OpP.move rfl) ?_
      | refine OpJ.pure (OpP.nilCheck rfl) ?_
      | refine OpJ.pure (OpP.fldAddr_lit rfl (by exact rfl)) ?_
      | refine OpJ.pure (OpP.fldAddr rfl (by exact rfl)) ?_
      | refine OpJ.pure (OpP.load_blk (by exact rfl) rfl (by repeat (first | exact List.Mem.head _ | apply List.Mem.tail)) rfl) ?_
      | refine OpJ.pure (OpP.loadN_blk (by exact rfl) rfl (by repeat (first | exact List.Mem.head _ | apply List.Mem.tail)) (by exact rfl)) ?_
      | refine OpJ.pure (OpP.load1 (by exact rfl) rfl (Src.ofR (by with_reducible assumption)) rfl (by assumption)) ?_
      | refine OpJ.pure (OpP.load1 (by exact rfl) rfl (Src.ofRow (by repeat (first | exact List.Mem.head _ | apply List.Mem.tail))) rfl (by assumption)) ?_
      | refine OpJ.pure (OpP.len rfl) ?_
      | refine OpJ.pure (OpP.len_string rfl) ?_
      | refine OpJ.pure (OpP.eql rfl rfl) ?_
      | refine OpJ.pure (OpP.eql_string rfl rfl) ?_
      | refine OpJ.pure (OpP.eql_bool rfl rfl) ?_
      | refine OpJ.pure (OpP.eql_nil rfl rfl) ?_
      | refine OpJ.pure (OpP.eql_nil_slice rfl rfl) ?_
      | refine OpJ.pure (OpP.pick_t rfl (by with_reducible assumption) rfl) ?_
      | refine OpJ.pure (OpP.pick_f rfl (by with_reducible assumption) rfl) ?_
      | refine OpJ.pure (OpP.pick_dt rfl (by omega) rfl) ?_
      | refine OpJ.pure (OpP.pick_df rfl (by omega) rfl) ?_
      | refine OpJ.pure (OpP.pick_t rfl rfl rfl) ?_
      | refine OpJ.pure (OpP.pick_f rfl rfl rfl) ?_
      | refine OpJ.pure (OpP.pick rfl rfl rfl) ?_)
    | refine OpsJ.nil ?_
    | refine CodeJ.cond_t rfl (by with_reducible assumption) ?_
    | refine CodeJ.cond_f rfl (by with_reducible assumption) ?_
    | refine CodeJ.cond_dt rfl (by omega) ?_
    | refine CodeJ.cond_df rfl (by omega) ?_
    | refine CodeJ.cond_t rfl rfl ?_
    | refine CodeJ.cond_f rfl rfl ?_)
  exact Ret.mk0 ⟨rfl, rfl⟩ (ResJ.one Try.results25 rfl) (by repeat (first | exact IM.le_refl _ | assumption | refine IM.le_trans ?_ (IM.le_or _ _))) (by repeat (first | exact SubL.nil _ | refine SubL.p0 ?_ | refine SubL.p1 ?_ | refine SubL.p2 ?_ | refine SubL.p3 ?_ | refine SubL.p4 ?_ | refine SubL.p5 ?_ | refine SubL.p6 ?_ | refine SubL.p7 ?_))
theorem rraw_nil (R : IM) (n : Int) : CallJ Try.prog 46 #[.pointer none, .int .i64 n] ⟨R, []⟩ (fun v D hs' => v = .slice none 0 0 ∧ hs' = []) := by
  refine CallJ.of2 Try.func46 rfl Try.ntmps46 rfl (fun W0 => ?_)
  repeat (first
    | refine CodeJ.seq' ?_
    | refine CodeJ.region ?_
    | refine CodeJ.block ?_
    | refine CodeJ.skip ?_
    | refine CodeJ.exit rfl ?_
    | refine CodeJ.ret' ?_
    | (refine OpsJ.gsel rfl rfl rfl rfl ?_; first | refine GuardJ.yes (by with_reducible assumption) ?_ | refine GuardJ.no (by with_reducible assumption) ?_ | refine GuardJ.dt rfl (by omega) ?_ | refine GuardJ.nf rfl (by omega) ?_ | refine GuardJ.df rfl (by omega) ?_ | refine GuardJ.nt rfl (by omega) ?_ | refine GuardJ.yes rfl ?_ | refine GuardJ.no rfl ?_)
    | (refine OpsJ.gund rfl rfl rfl rfl ?_)
    | (refine OpsJ.put rfl ?_; first
      | refine OpJ.pure (OpP.assign rfl) ?_
      | refine OpJ.pure (OpP.move rfl) ?_
      | refine OpJ.pure (OpP.eql rfl rfl) ?_
      | refine OpJ.pure (OpP.eql_string rfl rfl) ?_
      | refine OpJ.pure (OpP.eql_bool rfl rfl) ?_
      | refine OpJ.pure (OpP.eql_nil rfl rfl) ?_
      | refine OpJ.pure (OpP.eql_nil_slice rfl rfl) ?_
      | refine OpJ.pure (OpP.lss rfl rfl) ?_
      | refine OpJ.pure (OpP.pick_t rfl (by with_reducible assumption) rfl) ?_
      | refine OpJ.pure (OpP.pick_f rfl (by with_reducible assumption) rfl) ?_
      | refine OpJ.pure (OpP.pick_dt rfl (by omega) rfl) ?_
      | refine OpJ.pure (OpP.pick_df rfl (by omega) rfl) ?_
      | refine OpJ.pure (OpP.pick_t rfl rfl rfl) ?_
      | refine OpJ.pure (OpP.pick_f rfl rfl rfl) ?_
      | refine OpJ.pure (OpP.pick rfl rfl rfl) ?_
      | refine OpJ.pure (OpP.nilCheck rfl) ?_
      | refine OpJ.pure (OpP.fldAddr_lit rfl (by exact rfl)) ?_
      | refine OpJ.pure (OpP.fldAddr rfl (by exact rfl)) ?_
      | refine OpJ.pure (OpP.load_blk (by exact rfl) rfl (by repeat (first | exact List.Mem.head _ | apply List.Mem.tail)) rfl) ?_
      | refine OpJ.pure (OpP.loadN_blk (by exact rfl) rfl (by repeat (first | exact List.Mem.head _ | apply List.Mem.tail)) (by exact rfl)) ?_
      | refine OpJ.pure (OpP.load1 (by exact rfl) rfl (Src.ofR (by with_reducible assumption)) rfl (by assumption)) ?_
      | refine OpJ.pure (OpP.load1 (by exact rfl) rfl (Src.ofRow (by repeat (first | exact List.Mem.head _ | apply List.Mem.tail))) rfl (by assumption)) ?_
      | refine OpJ.pure (OpP.len rfl) ?_
      | refine OpJ.pure (OpP.len_string rfl) ?_
      | refine OpJ.pure (OpP.gtr rfl rfl) ?_
      | refine OpJ.pure (OpP.slice_hi rfl rfl (by omega) (by omega)) ?_
      | refine OpJ.pure (OpP.slice_lo rfl rfl (by omega) (by omega)) ?_
      | refine OpJ.pure (OpP.slice_str_lo rfl rfl (by omega) (by omega)) ?_)
    | (refine OpsJ.act ?_; first
      | (refine OpJ.store rfl rfl rfl (by first | exact List.Perm.refl _ | exact List.Perm.swap _ _ _ | exact permm2 _ _ _ _ | exact permm3 _ _ _ _ _ | exact permm4 _ _ _ _ _ _ | exact permm5 _ _ _ _ _ _ _) (by exact rfl) (by exact rfl) (by exact rfl) ?_; dsimp only [lsplice, take1, take2, take3, take4, drop1, drop2, drop3, drop4, List.take_zero, List.drop_zero, List.cons_append, List.nil_append, List.length_cons, List.length_nil, Nat.reduceAdd, fillL, sliceL, Value.cells, List.toList_toArray, List.append_nil, List.getElem?_cons_zero, get1, get2, get3, Option.getD_some]))
    | refine OpsJ.nil ?_
    | refine CodeJ.cond_t rfl (by with_reducible assumption) ?_
    | refine CodeJ.cond_f rfl (by with_reducible assumption) ?_
    | refine CodeJ.cond_dt rfl (by omega) ?_
    | refine CodeJ.cond_df rfl (by omega) ?_
    | refine CodeJ.cond_t rfl rfl ?_
    | refine CodeJ.cond_f rfl rfl ?_)
  refine OpsJ.put (d := 22) rfl (OpJ.call (pass := []) rfl Split.nil (fun R' hle hin => rbad_nil R') ?_)
  rintro v D hs1 hd ⟨rfl, rfl⟩
  repeat (first
    | refine CodeJ.seq' ?_
    | refine CodeJ.region ?_
    | refine CodeJ.block ?_
    | refine CodeJ.skip ?_
    | refine CodeJ.exit rfl ?_
    | refine CodeJ.ret' ?_
    | (refine OpsJ.gsel rfl rfl rfl rfl ?_; first | refine GuardJ.yes (by with_reducible assumption) ?_ | refine GuardJ.no (by with_reducible assumption) ?_ | refine GuardJ.dt rfl (by omega) ?_ | refine GuardJ.nf rfl (by omega) ?_ | refine GuardJ.df rfl (by omega) ?_ | refine GuardJ.nt rfl (by omega) ?_ | refine GuardJ.yes rfl ?_ | refine GuardJ.no rfl ?_)
    | (refine OpsJ.gund rfl rfl rfl rfl ?_)
    | (refine OpsJ.put rfl ?_; first
      | refine OpJ.pure (OpP.assign rfl) ?_
      | refine OpJ.pure (OpP.move rfl) ?_
      | refine OpJ.pure (OpP.eql rfl rfl) ?_
      | refine OpJ.pure (OpP.eql_string rfl rfl) ?_
      | refine OpJ.pure (OpP.eql_bool rfl rfl) ?_
      | refine OpJ.pure (OpP.eql_nil rfl rfl) ?_
      | refine OpJ.pure (OpP.eql_nil_slice rfl rfl) ?_
      | refine OpJ.pure (OpP.lss rfl rfl) ?_
      | refine OpJ.pure (OpP.pick_t rfl (by with_reducible assumption) rfl) ?_
      | refine OpJ.pure (OpP.pick_f rfl (by with_reducible assumption) rfl) ?_
      | refine OpJ.pure (OpP.pick_dt rfl (by omega) rfl) ?_
      | refine OpJ.pure (OpP.pick_df rfl (by omega) rfl) ?_
      | refine OpJ.pure (OpP.pick_t rfl rfl rfl) ?_
      | refine OpJ.pure (OpP.pick_f rfl rfl rfl) ?_
      | refine OpJ.pure (OpP.pick rfl rfl rfl) ?_
      | refine OpJ.pure (OpP.nilCheck rfl) ?_
      | refine OpJ.pure (OpP.fldAddr_lit rfl (by exact rfl)) ?_
      | refine OpJ.pure (OpP.fldAddr rfl (by exact rfl)) ?_
      | refine OpJ.pure (OpP.load_blk (by exact rfl) rfl (by repeat (first | exact List.Mem.head _ | apply List.Mem.tail)) rfl) ?_
      | refine OpJ.pure (OpP.loadN_blk (by exact rfl) rfl (by repeat (first | exact List.Mem.head _ | apply List.Mem.tail)) (by exact rfl)) ?_
      | refine OpJ.pure (OpP.load1 (by exact rfl) rfl (Src.ofR (by with_reducible assumption)) rfl (by assumption)) ?_
      | refine OpJ.pure (OpP.load1 (by exact rfl) rfl (Src.ofRow (by repeat (first | exact List.Mem.head _ | apply List.Mem.tail))) rfl (by assumption)) ?_
      | refine OpJ.pure (OpP.len rfl) ?_
      | refine OpJ.pure (OpP.len_string rfl) ?_
      | refine OpJ.pure (OpP.gtr rfl rfl) ?_
      | refine OpJ.pure (OpP.slice_hi rfl rfl (by omega) (by omega)) ?_
      | refine OpJ.pure (OpP.slice_lo rfl rfl (by omega) (by omega)) ?_
      | refine OpJ.pure (OpP.slice_str_lo rfl rfl (by omega) (by omega)) ?_)
    | (refine OpsJ.act ?_; first
      | (refine OpJ.store rfl rfl rfl (by first | exact List.Perm.refl _ | exact List.Perm.swap _ _ _ | exact permm2 _ _ _ _ | exact permm3 _ _ _ _ _ | exact permm4 _ _ _ _ _ _ | exact permm5 _ _ _ _ _ _ _) (by exact rfl) (by exact rfl) (by exact rfl) ?_; dsimp only [lsplice, take1, take2, take3, take4, drop1, drop2, drop3, drop4, List.take_zero, List.drop_zero, List.cons_append, List.nil_append, List.length_cons, List.length_nil, Nat.reduceAdd, fillL, sliceL, Value.cells, List.toList_toArray, List.append_nil, List.getElem?_cons_zero, get1, get2, get3, Option.getD_some]))
    | refine OpsJ.nil ?_
    | refine CodeJ.cond_t rfl (by with_reducible assumption) ?_
    | refine CodeJ.cond_f rfl (by with_reducible assumption) ?_
    | refine CodeJ.cond_dt rfl (by omega) ?_
    | refine CodeJ.cond_df rfl (by omega) ?_
    | refine CodeJ.cond_t rfl rfl ?_
    | refine CodeJ.cond_f rfl rfl ?_)
  exact Ret.mk0 ⟨rfl, rfl⟩ (ResJ.one Try.results46 rfl) (by repeat (first | exact IM.le_refl _ | assumption | refine IM.le_trans ?_ (IM.le_or _ _))) (by repeat (first | exact SubL.nil _ | refine SubL.p0 ?_ | refine SubL.p1 ?_ | refine SubL.p2 ?_ | refine SubL.p3 ?_ | refine SubL.p4 ?_ | refine SubL.p5 ?_ | refine SubL.p6 ?_ | refine SubL.p7 ?_))
theorem rbytes_nil (R : IM) : CallJ Try.prog 44 #[.pointer none] ⟨R, []⟩ (fun v D hs' => v = .slice none 0 0 ∧ hs' = []) := by
  refine CallJ.of1 Try.func44 rfl Try.ntmps44 rfl (fun W0 => ?_)
  repeat (first
    | refine CodeJ.seq' ?_
    | refine CodeJ.region ?_
    | refine CodeJ.block ?_
    | refine CodeJ.skip ?_
    | refine CodeJ.exit rfl ?_
    | refine CodeJ.ret' ?_
    | (refine OpsJ.put rfl ?_; first
      | refine OpJ.pure (OpP.assign rfl) ?_
      | refine OpJ.pure (OpP.move rfl) ?_)
    | refine OpsJ.nil ?_
    | refine CodeJ.cond_t rfl (by with_reducible assumption) ?_
    | refine CodeJ.cond_f rfl (by with_reducible assumption) ?_
    | refine CodeJ.cond_dt rfl (by omega) ?_
    | refine CodeJ.cond_df rfl (by omega) ?_
    | refine CodeJ.cond_t rfl rfl ?_
    | refine CodeJ.cond_f rfl rfl ?_)
  refine OpsJ.put (d := 5) rfl (OpJ.call (pass := []) rfl Split.nil (fun R' hle hin => rnum_nil R') ?_)
  rintro v D hs1 hd ⟨rfl, rfl⟩
  repeat (first
    | refine CodeJ.seq' ?_
    | refine CodeJ.region ?_
    | refine CodeJ.block ?_
    | refine CodeJ.skip ?_
    | refine CodeJ.exit rfl ?_
    | refine CodeJ.ret' ?_
    | (refine OpsJ.put rfl ?_; first
      | refine OpJ.pure (OpP.assign rfl) ?_
      | refine OpJ.pure (OpP.move rfl) ?_)
    | refine OpsJ.nil ?_
    | refine CodeJ.cond_t rfl (by with_reducible assumption) ?_
    | refine CodeJ.cond_f rfl (by with_reducible assumption) ?_
    | refine CodeJ.cond_dt rfl (by omega) ?_
    | refine CodeJ.cond_df rfl (by omega) ?_
    | refine CodeJ.cond_t rfl rfl ?_
    | refine CodeJ.cond_f rfl rfl ?_)
  refine OpsJ.put (d := 6) rfl (OpJ.call (pass := []) rfl Split.nil (fun R' hle hin => rraw_nil R' 0) ?_)
  rintro v D hs1 hd ⟨rfl, rfl⟩
  repeat (first
    | refine CodeJ.seq' ?_
    | refine CodeJ.region ?_
    | refine CodeJ.block ?_
    | refine CodeJ.skip ?_
    | refine CodeJ.exit rfl ?_
    | refine CodeJ.ret' ?_
    | (refine OpsJ.put rfl ?_; first
      | refine OpJ.pure (OpP.assign rfl) ?_
      | refine OpJ.pure (OpP.move rfl) ?_)
    | refine OpsJ.nil ?_
    | refine CodeJ.cond_t rfl (by with_reducible assumption) ?_
    | refine CodeJ.cond_f rfl (by with_reducible assumption) ?_
    | refine CodeJ.cond_dt rfl (by omega) ?_
    | refine CodeJ.cond_df rfl (by omega) ?_
    | refine CodeJ.cond_t rfl rfl ?_
    | refine CodeJ.cond_f rfl rfl ?_)
  exact Ret.mk0 ⟨rfl, rfl⟩ (ResJ.one Try.results44 rfl) (by repeat (first | exact IM.le_refl _ | assumption | refine IM.le_trans ?_ (IM.le_or _ _))) (by repeat (first | exact SubL.nil _ | refine SubL.p0 ?_ | refine SubL.p1 ?_ | refine SubL.p2 ?_ | refine SubL.p3 ?_ | refine SubL.p4 ?_ | refine SubL.p5 ?_ | refine SubL.p6 ?_ | refine SubL.p7 ?_))
theorem wbytes_nil (R : IM) (B : Option Addr) (m c : Nat) (vs : List Value) (hB : RC R B vs) (hm : m = vs.length) (hvs : ∀ i, i < vs.length → ∃ A n c', vs[i]? = some (.slice A n c')) (hm9 : m ≤ 1000000) :
    CallJ Try.prog 40 #[.pointer none, .slice B m c] ⟨R, []⟩ (fun v D hs' => v = .tuple #[] ∧ hs' = []) := by
  refine CallJ.of2 Try.func40 rfl Try.ntmps40 rfl (fun W0 => ?_)
  repeat (first
    | refine CodeJ.seq' ?_
    | refine CodeJ.region ?_
    | refine CodeJ.block ?_
    | refine CodeJ.skip ?_
    | refine CodeJ.exit rfl ?_
    | refine CodeJ.ret' ?_
    | (refine OpsJ.put rfl ?_; first
      | refine OpJ.pure (OpP.move rfl) ?_
      | refine OpJ.pure (OpP.len rfl) ?_
      | refine OpJ.pure (OpP.len_string rfl) ?_
      | refine OpJ.pure (OpP.lss rfl rfl) ?_
      | refine OpJ.pure (OpP.idx1 rfl rfl (by omega) (by omega) (Src.ofR (by with_reducible assumption)) (ne_get (by assumption))) ?_
      | refine OpJ.pure (OpP.idx1 rfl rfl (by omega) (by omega) (Src.ofRow (by repeat (first | exact List.Mem.head _ | apply List.Mem.tail))) (ne_get (by assumption))) ?_
      | refine OpJ.pure (OpP.load_blk (by exact rfl) rfl (by repeat (first | exact List.Mem.head _ | apply List.Mem.tail)) rfl) ?_
      | refine OpJ.pure (OpP.loadN_blk (by exact rfl) rfl (by repeat (first | exact List.Mem.head _ | apply List.Mem.tail)) (by exact rfl)) ?_
      | refine OpJ.pure (OpP.load1 (by exact rfl) rfl (Src.ofR (by with_reducible assumption)) rfl (by assumption)) ?_
      | refine OpJ.pure (OpP.load1 (by exact rfl) rfl (Src.ofRow (by repeat (first | exact List.Mem.head _ | apply List.Mem.tail))) rfl (by assumption)) ?_
      | refine OpJ.pure (OpP.assign rfl) ?_
      | (refine OpJ.buildSlice rfl rfl (by exact rfl) (by exact rfl) rfl (fun _ => ?_); dsimp only [lsplice, take1, take2, take3, take4, drop1, drop2, drop3, drop4, List.take_zero, List.drop_zero, List.cons_append, List.nil_append, List.length_cons, List.length_nil, Nat.reduceAdd, fillL, sliceL, Value.cells, List.toList_toArray, List.append_nil, List.getElem?_cons_zero, get1, get2, get3, Option.getD_some])
      | refine OpJ.pure (OpP.add_in rfl rfl (by omega) (by omega)) ?_
      | refine OpJ.pure (OpP.cat rfl rfl (by omega)) ?_
      | refine OpJ.pure (OpP.add rfl rfl) ?_)
    | refine OpsJ.nil ?_
    | refine CodeJ.cond_t rfl (by with_reducible assumption) ?_
    | refine CodeJ.cond_f rfl (by with_reducible assumption) ?_
    | refine CodeJ.cond_dt rfl (by omega) ?_
    | refine CodeJ.cond_df rfl (by omega) ?_
    | refine CodeJ.cond_t rfl rfl ?_
    | refine CodeJ.cond_f rfl rfl ?_)
  refine CodeJ.loop (fun k e s => ∃ (i : Nat) (R1 : IM), i ≤ m ∧ k = m - i ∧ IM.le R R1 ∧
      e = [(0, .pointer none), (6, .slice B m c), (7, .int .i64 m), (8, .int .i64 i)] ∧ s = ⟨R1, []⟩) m
    ⟨0, R, Nat.zero_le _, rfl, IM.le_refl _, rfl, rfl⟩ (by repeat (first | exact SubE.nil _ | refine SubE.cons rfl ?_)) (by repeat (first | exact SubL.nil _ | refine SubL.p0 ?_ | refine SubL.p1 ?_ | refine SubL.p2 ?_ | refine SubL.p3 ?_ | refine SubL.p4 ?_ | refine SubL.p5 ?_ | refine SubL.p6 ?_ | refine SubL.p7 ?_)) ?_
  rintro k e1 s1 ⟨i, R1, hi, hk, hle1, rfl, rfl⟩
  have hB1 : RC R1 B vs := hB.mono hle1
  repeat (first
    | refine CodeJ.seq' ?_
    | refine CodeJ.region ?_
    | refine CodeJ.block ?_
    | refine CodeJ.skip ?_
    | refine CodeJ.exit rfl ?_
    | refine CodeJ.ret' ?_
    | (refine OpsJ.put rfl ?_; first
      | refine OpJ.pure (OpP.move rfl) ?_
      | refine OpJ.pure (OpP.len rfl) ?_
      | refine OpJ.pure (OpP.len_string rfl) ?_
      | refine OpJ.pure (OpP.lss rfl rfl) ?_
      | refine OpJ.pure (OpP.idx1 rfl rfl (by omega) (by omega) (Src.ofR (by with_reducible assumption)) (ne_get (by assumption))) ?_
      | refine OpJ.pure (OpP.idx1 rfl rfl (by omega) (by omega) (Src.ofRow (by repeat (first | exact List.Mem.head _ | apply List.Mem.tail))) (ne_get (by assumption))) ?_
      | refine OpJ.pure (OpP.load_blk (by exact rfl) rfl (by repeat (first | exact List.Mem.head _ | apply List.Mem.tail)) rfl) ?_
      | refine OpJ.pure (OpP.loadN_blk (by exact rfl) rfl (by repeat (first | exact List.Mem.head _ | apply List.Mem.tail)) (by exact rfl)) ?_
      | refine OpJ.pure (OpP.load1 (by exact rfl) rfl (Src.ofR (by with_reducible assumption)) rfl (by assumption)) ?_
      | refine OpJ.pure (OpP.load1 (by exact rfl) rfl (Src.ofRow (by repeat (first | exact List.Mem.head _ | apply List.Mem.tail))) rfl (by assumption)) ?_
      | refine OpJ.pure (OpP.assign rfl) ?_
      | (refine OpJ.buildSlice rfl rfl (by exact rfl) (by exact rfl) rfl (fun _ => ?_); dsimp only [lsplice, take1, take2, take3, take4, drop1, drop2, drop3, drop4, List.take_zero, List.drop_zero, List.cons_append, List.nil_append, List.length_cons, List.length_nil, Nat.reduceAdd, fillL, sliceL, Value.cells, List.toList_toArray, List.append_nil, List.getElem?_cons_zero, get1, get2, get3, Option.getD_some])
      | refine OpJ.pure (OpP.add_in rfl rfl (by omega) (by omega)) ?_
      | refine OpJ.pure (OpP.cat rfl rfl (by omega)) ?_
      | refine OpJ.pure (OpP.add rfl rfl) ?_)
    | refine OpsJ.nil ?_
    | refine CodeJ.cond_t rfl (by with_reducible assumption) ?_
    | refine CodeJ.cond_f rfl (by with_reducible assumption) ?_
    | refine CodeJ.cond_dt rfl (by omega) ?_
    | refine CodeJ.cond_df rfl (by omega) ?_
    | refine CodeJ.cond_t rfl rfl ?_
    | refine CodeJ.cond_f rfl rfl ?_)
  refine CodeJ.cond_d rfl (fun hc => ?_) (fun hc => ?_)
  · obtain ⟨A, n, c', hcell⟩ := hvs i (by omega)
    repeat (first
      | refine CodeJ.seq' ?_
      | refine CodeJ.region ?_
      | refine CodeJ.block ?_
      | refine CodeJ.skip ?_
      | refine CodeJ.exit rfl ?_
      | refine CodeJ.ret' ?_
      | (refine OpsJ.put rfl ?_; first
        | refine OpJ.pure (OpP.move rfl) ?_
        | refine OpJ.pure (OpP.len rfl) ?_
        | refine OpJ.pure (OpP.len_string rfl) ?_
        | refine OpJ.pure (OpP.lss rfl rfl) ?_
        | refine OpJ.pure (OpP.idx1 rfl rfl (by omega) (by omega) (Src.ofR (by with_reducible assumption)) (ne_get (by assumption))) ?_
        | refine OpJ.pure (OpP.idx1 rfl rfl (by omega) (by omega) (Src.ofRow (by repeat (first | exact List.Mem.head _ | apply List.Mem.tail))) (ne_get (by assumption))) ?_
        | refine OpJ.pure (OpP.load_blk (by exact rfl) rfl (by repeat (first | exact List.Mem.head _ | apply List.Mem.tail)) rfl) ?_
        | refine OpJ.pure (OpP.loadN_blk (by exact rfl) rfl (by repeat (first | exact List.Mem.head _ | apply List.Mem.tail)) (by exact rfl)) ?_
        | refine OpJ.pure (OpP.load1 (by exact rfl) rfl (Src.ofR (by with_reducible assumption)) rfl (by assumption)) ?_
        | refine OpJ.pure (OpP.load1 (by exact rfl) rfl (Src.ofRow (by repeat (first | exact List.Mem.head _ | apply List.Mem.tail))) rfl (by assumption)) ?_
        | refine OpJ.pure (OpP.assign rfl) ?_
        | (refine OpJ.buildSlice rfl rfl (by exact rfl) (by exact rfl) rfl (fun _ => ?_); dsimp only [lsplice, take1, take2, take3, take4, drop1, drop2, drop3, drop4, List.take_zero, List.drop_zero, List.cons_append, List.nil_append, List.length_cons, List.length_nil, Nat.reduceAdd, fillL, sliceL, Value.cells, List.toList_toArray, List.append_nil, List.getElem?_cons_zero, get1, get2, get3, Option.getD_some])
        | refine OpJ.pure (OpP.add_in rfl rfl (by omega) (by omega)) ?_
        | refine OpJ.pure (OpP.cat rfl rfl (by omega)) ?_
        | refine OpJ.pure (OpP.add rfl rfl) ?_)
      | refine OpsJ.nil ?_
      | refine CodeJ.cond_t rfl (by with_reducible assumption) ?_
      | refine CodeJ.cond_f rfl (by with_reducible assumption) ?_
      | refine CodeJ.cond_dt rfl (by omega) ?_
      | refine CodeJ.cond_df rfl (by omega) ?_
      | refine CodeJ.cond_t rfl rfl ?_
      | refine CodeJ.cond_f rfl rfl ?_)
    refine OpsJ.put (d := 16) rfl (OpJ.call (pass := []) rfl Split.nil (fun R' hle hin => wnums_nil R' _ _ _) ?_)
    rintro v D hs1 hd ⟨rfl, rfl⟩
    repeat (first
      | refine CodeJ.seq' ?_
      | refine CodeJ.region ?_
      | refine CodeJ.block ?_
      | refine CodeJ.skip ?_
      | refine CodeJ.exit rfl ?_
      | refine CodeJ.ret' ?_
      | (refine OpsJ.put rfl ?_; first
        | refine OpJ.pure (OpP.move rfl) ?_
        | refine OpJ.pure (OpP.len rfl) ?_
        | refine OpJ.pure (OpP.len_string rfl) ?_
        | refine OpJ.pure (OpP.lss rfl rfl) ?_
        | refine OpJ.pure (OpP.idx1 rfl rfl (by omega) (by omega) (Src.ofR (by with_reducible assumption)) (ne_get (by assumption))) ?_
        | refine OpJ.pure (OpP.idx1 rfl rfl (by omega) (by omega) (Src.ofRow (by repeat (first | exact List.Mem.head _ | apply List.Mem.tail))) (ne_get (by assumption))) ?_
        | refine OpJ.pure (OpP.load_blk (by exact rfl) rfl (by repeat (first | exact List.Mem.head _ | apply List.Mem.tail)) rfl) ?_
        | refine OpJ.pure (OpP.loadN_blk (by exact rfl) rfl (by repeat (first | exact List.Mem.head _ | apply List.Mem.tail)) (by exact rfl)) ?_
        | refine OpJ.pure (OpP.load1 (by exact rfl) rfl (Src.ofR (by with_reducible assumption)) rfl (by assumption)) ?_
        | refine OpJ.pure (OpP.load1 (by exact rfl) rfl (Src.ofRow (by repeat (first | exact List.Mem.head _ | apply List.Mem.tail))) rfl (by assumption)) ?_
        | refine OpJ.pure (OpP.assign rfl) ?_
        | (refine OpJ.buildSlice rfl rfl (by exact rfl) (by exact rfl) rfl (fun _ => ?_); dsimp only [lsplice, take1, take2, take3, take4, drop1, drop2, drop3, drop4, List.take_zero, List.drop_zero, List.cons_append, List.nil_append, List.length_cons, List.length_nil, Nat.reduceAdd, fillL, sliceL, Value.cells, List.toList_toArray, List.append_nil, List.getElem?_cons_zero, get1, get2, get3, Option.getD_some])
        | refine OpJ.pure (OpP.add_in rfl rfl (by omega) (by omega)) ?_
        | refine OpJ.pure (OpP.cat rfl rfl (by omega)) ?_
        | refine OpJ.pure (OpP.add rfl rfl) ?_)
      | refine OpsJ.nil ?_
      | refine CodeJ.cond_t rfl (by with_reducible assumption) ?_
      | refine CodeJ.cond_f rfl (by with_reducible assumption) ?_
      | refine CodeJ.cond_dt rfl (by omega) ?_
      | refine CodeJ.cond_df rfl (by omega) ?_
      | refine CodeJ.cond_t rfl rfl ?_
      | refine CodeJ.cond_f rfl rfl ?_)
    refine OpsJ.put (d := 19) rfl (OpJ.call (pass := []) rfl Split.nil (fun R' hle hin => wraw_nil R' _ _ _) ?_)
    rintro v D2 hs2 hd2 ⟨rfl, rfl⟩
    repeat (first
      | refine CodeJ.seq' ?_
      | refine CodeJ.region ?_
      | refine CodeJ.block ?_
      | refine CodeJ.skip ?_
      | refine CodeJ.exit rfl ?_
      | refine CodeJ.ret' ?_
      | (refine OpsJ.put rfl ?_; first
        | refine OpJ.pure (OpP.move rfl) ?_
        | refine OpJ.pure (OpP.len rfl) ?_
        | refine OpJ.pure (OpP.len_string rfl) ?_
        | refine OpJ.pure (OpP.lss rfl rfl) ?_
        | refine OpJ.pure (OpP.idx1 rfl rfl (by omega) (by omega) (Src.ofR (by with_reducible assumption)) (ne_get (by assumption))) ?_
        | refine OpJ.pure (OpP.idx1 rfl rfl (by omega) (by omega) (Src.ofRow (by repeat (first | exact List.Mem.head _ | apply List.Mem.tail))) (ne_get (by assumption))) ?_
        | refine OpJ.pure (OpP.load_blk (by exact rfl) rfl (by repeat (first | exact List.Mem.head _ | apply List.Mem.tail)) rfl) ?_
        | refine OpJ.pure (OpP.loadN_blk (by exact rfl) rfl (by repeat (first | exact List.Mem.head _ | apply List.Mem.tail)) (by exact rfl)) ?_
        | refine OpJ.pure (OpP.load1 (by exact rfl) rfl (Src.ofR (by with_reducible assumption)) rfl (by assumption)) ?_
        | refine OpJ.pure (OpP.load1 (by exact rfl) rfl (Src.ofRow (by repeat (first | exact List.Mem.head _ | apply List.Mem.tail))) rfl (by assumption)) ?_
        | refine OpJ.pure (OpP.assign rfl) ?_
        | (refine OpJ.buildSlice rfl rfl (by exact rfl) (by exact rfl) rfl (fun _ => ?_); dsimp only [lsplice, take1, take2, take3, take4, drop1, drop2, drop3, drop4, List.take_zero, List.drop_zero, List.cons_append, List.nil_append, List.length_cons, List.length_nil, Nat.reduceAdd, fillL, sliceL, Value.cells, List.toList_toArray, List.append_nil, List.getElem?_cons_zero, get1, get2, get3, Option.getD_some])
        | refine OpJ.pure (OpP.add_in rfl rfl (by omega) (by omega)) ?_
        | refine OpJ.pure (OpP.cat rfl rfl (by omega)) ?_
        | refine OpJ.pure (OpP.add rfl rfl) ?_)
      | refine OpsJ.nil ?_
      | refine CodeJ.cond_t rfl (by with_reducible assumption) ?_
      | refine CodeJ.cond_f rfl (by with_reducible assumption) ?_
      | refine CodeJ.cond_dt rfl (by omega) ?_
      | refine CodeJ.cond_df rfl (by omega) ?_
      | refine CodeJ.cond_t rfl rfl ?_
      | refine CodeJ.cond_f rfl rfl ?_)
    exact ⟨m - (i + 1), _, _, _, by omega, ⟨i + 1, _, by omega, rfl, IM.le_trans hle1 (by repeat (first | exact IM.le_refl _ | assumption | refine IM.le_trans ?_ (IM.le_or _ _))), rfl, rfl⟩, (by repeat (first | exact IM.le_refl _ | assumption | refine IM.le_trans ?_ (IM.le_or _ _))), (by repeat (first | exact SubE.nil _ | refine SubE.cons rfl ?_)), (by repeat (first | exact SubL.nil _ | refine SubL.p0 ?_ | refine SubL.p1 ?_ | refine SubL.p2 ?_ | refine SubL.p3 ?_ | refine SubL.p4 ?_ | refine SubL.p5 ?_ | refine SubL.p6 ?_ | refine SubL.p7 ?_))⟩
  · repeat (first
      | refine CodeJ.seq' ?_
      | refine CodeJ.region ?_
      | refine CodeJ.block ?_
      | refine CodeJ.skip ?_
      | refine CodeJ.exit rfl ?_
      | refine CodeJ.ret' ?_
      | (refine OpsJ.put rfl ?_; first
        | refine OpJ.pure (OpP.move rfl) ?_
        | refine OpJ.pure (OpP.len rfl) ?_
        | refine OpJ.pure (OpP.len_string rfl) ?_
        | refine OpJ.pure (OpP.lss rfl rfl) ?_
        | refine OpJ.pure (OpP.idx1 rfl rfl (by omega) (by omega) (Src.ofR (by with_reducible assumption)) (ne_get (by assumption))) ?_
        | refine OpJ.pure (OpP.idx1 rfl rfl (by omega) (by omega) (Src.ofRow (by repeat (first | exact List.Mem.head _ | apply List.Mem.tail))) (ne_get (by assumption))) ?_
        | refine OpJ.pure (OpP.load_blk (by exact rfl) rfl (by repeat (first | exact List.Mem.head _ | apply List.Mem.tail)) rfl) ?_
        | refine OpJ.pure (OpP.loadN_blk (by exact rfl) rfl (by repeat (first | exact List.Mem.head _ | apply List.Mem.tail)) (by exact rfl)) ?_
        | refine OpJ.pure (OpP.load1 (by exact rfl) rfl (Src.ofR (by with_reducible assumption)) rfl (by assumption)) ?_
        | refine OpJ.pure (OpP.load1 (by exact rfl) rfl (Src.ofRow (by repeat (first | exact List.Mem.head _ | apply List.Mem.tail))) rfl (by assumption)) ?_
        | refine OpJ.pure (OpP.assign rfl) ?_
        | (refine OpJ.buildSlice rfl rfl (by exact rfl) (by exact rfl) rfl (fun _ => ?_); dsimp only [lsplice, take1, take2, take3, take4, drop1, drop2, drop3, drop4, List.take_zero, List.drop_zero, List.cons_append, List.nil_append, List.length_cons, List.length_nil, Nat.reduceAdd, fillL, sliceL, Value.cells, List.toList_toArray, List.append_nil, List.getElem?_cons_zero, get1, get2, get3, Option.getD_some])
        | refine OpJ.pure (OpP.add_in rfl rfl (by omega) (by omega)) ?_
        | refine OpJ.pure (OpP.cat rfl rfl (by omega)) ?_
        | refine OpJ.pure (OpP.add rfl rfl) ?_)
      | refine OpsJ.nil ?_
      | refine CodeJ.cond_t rfl (by with_reducible assumption) ?_
      | refine CodeJ.cond_f rfl (by with_reducible assumption) ?_
      | refine CodeJ.cond_dt rfl (by omega) ?_
      | refine CodeJ.cond_df rfl (by omega) ?_
      | refine CodeJ.cond_t rfl rfl ?_
      | refine CodeJ.cond_f rfl rfl ?_)
    exact Ret.mk0 ⟨rfl, rfl⟩ (ResJ.none Try.results40) (by repeat (first | exact IM.le_refl _ | assumption | refine IM.le_trans ?_ (IM.le_or _ _))) (by repeat (first | exact SubL.nil _ | refine SubL.p0 ?_ | refine SubL.p1 ?_ | refine SubL.p2 ?_ | refine SubL.p3 ?_ | refine SubL.p4 ?_ | refine SubL.p5 ?_ | refine SubL.p6 ?_ | refine SubL.p7 ?_))
theorem rnums_nil (R : IM) (B : Option Addr) (m c : Nat) (vs : List Value) (hB : RC R B vs) (hm : m = vs.length) (hvs : ∀ i, i < vs.length → vs[i]? = some (.pointer none)) (hm9 : m ≤ 1000000) :
    CallJ Try.prog 48 #[.pointer none, .slice B m c] ⟨R, []⟩ (fun v D hs' => v = .tuple #[] ∧ hs' = []) := by
  refine CallJ.of2 Try.func48 rfl Try.ntmps48 rfl (fun W0 => ?_)
  repeat (first
    | refine CodeJ.seq' ?_
    | refine CodeJ.region ?_
    | refine CodeJ.block ?_
    | refine CodeJ.skip ?_
    | refine CodeJ.exit rfl ?_
    | refine CodeJ.ret' ?_
    | (refine OpsJ.put rfl ?_; first
      | refine OpJ.pure (OpP.move rfl) ?_
      | refine OpJ.pure (OpP.len rfl) ?_
      | refine OpJ.pure (OpP.len_string rfl) ?_
      | refine OpJ.pure (OpP.lss rfl rfl) ?_
      | refine OpJ.pure (OpP.idx1 rfl rfl (by omega) (by omega) (Src.ofR (by with_reducible assumption)) (ne_get (by assumption))) ?_
      | refine OpJ.pure (OpP.idx1 rfl rfl (by omega) (by omega) (Src.ofRow (by repeat (first | exact List.Mem.head _ | apply List.Mem.tail))) (ne_get (by assumption))) ?_
      | refine OpJ.pure (OpP.load_blk (by exact rfl) rfl (by repeat (first | exact List.Mem.head _ | apply List.Mem.tail)) rfl) ?_
      | refine OpJ.pure (OpP.loadN_blk (by exact rfl) rfl (by repeat (first | exact List.Mem.head _ | apply List.Mem.tail)) (by exact rfl)) ?_
      | refine OpJ.pure (OpP.load1 (by exact rfl) rfl (Src.ofR (by with_reducible assumption)) rfl (by assumption)) ?_
      | refine OpJ.pure (OpP.load1 (by exact rfl) rfl (Src.ofRow (by repeat (first | exact List.Mem.head _ | apply List.Mem.tail))) rfl (by assumption)) ?_
      | refine OpJ.pure (OpP.assign rfl) ?_
      | refine OpJ.pure (OpP.neq rfl rfl) ?_
      | refine OpJ.pure (OpP.neq_string rfl rfl) ?_
      | refine OpJ.pure (OpP.neq_bool rfl rfl) ?_
      | refine OpJ.pure (OpP.neq_nil rfl rfl) ?_
      | refine OpJ.pure (OpP.neq_nil_slice rfl rfl) ?_
      | refine OpJ.pure (OpP.nilCheck rfl) ?_
      | refine OpJ.pure (OpP.add_in rfl rfl (by omega) (by omega)) ?_
      | refine OpJ.pure (OpP.cat rfl rfl (by omega)) ?_
      | refine OpJ.pure (OpP.add rfl rfl) ?_)
    | (refine OpsJ.act ?_; first
      | (refine OpJ.store rfl rfl rfl (by first | exact List.Perm.refl _ | exact List.Perm.swap _ _ _ | exact permm2 _ _ _ _ | exact permm3 _ _ _ _ _ | exact permm4 _ _ _ _ _ _ | exact permm5 _ _ _ _ _ _ _) (by exact rfl) (by exact rfl) (by exact rfl) ?_; dsimp only [lsplice, take1, take2, take3, take4, drop1, drop2, drop3, drop4, List.take_zero, List.drop_zero, List.cons_append, List.nil_append, List.length_cons, List.length_nil, Nat.reduceAdd, fillL, sliceL, Value.cells, List.toList_toArray, List.append_nil, List.getElem?_cons_zero, get1, get2, get3, Option.getD_some]))
    | refine OpsJ.nil ?_
    | refine CodeJ.cond_t rfl (by with_reducible assumption) ?_
    | refine CodeJ.cond_f rfl (by with_reducible assumption) ?_
    | refine CodeJ.cond_dt rfl (by omega) ?_
    | refine CodeJ.cond_df rfl (by omega) ?_
    | refine CodeJ.cond_t rfl rfl ?_
    | refine CodeJ.cond_f rfl rfl ?_)
  refine CodeJ.loop (fun k e s => ∃ (i : Nat) (R1 : IM), i ≤ m ∧ k = m - i ∧ IM.le R R1 ∧
      e = [(0, .pointer none), (7, .slice B m c), (8, .int .i64 m), (9, .int .i64 i)] ∧ s = ⟨R1, []⟩) m
    ⟨0, R, Nat.zero_le _, rfl, IM.le_refl _, rfl, rfl⟩ (by repeat (first | exact SubE.nil _ | refine SubE.cons rfl ?_)) (by repeat (first | exact SubL.nil _ | refine SubL.p0 ?_ | refine SubL.p1 ?_ | refine SubL.p2 ?_ | refine SubL.p3 ?_ | refine SubL.p4 ?_ | refine SubL.p5 ?_ | refine SubL.p6 ?_ | refine SubL.p7 ?_)) ?_
  rintro k e1 s1 ⟨i, R1, hi, hk, hle1, rfl, rfl⟩
  have hB1 : RC R1 B vs := hB.mono hle1
  repeat (first
    | refine CodeJ.seq' ?_
    | refine CodeJ.region ?_
    | refine CodeJ.block ?_
    | refine CodeJ.skip ?_
    | refine CodeJ.exit rfl ?_
    | refine CodeJ.ret' ?_
    | (refine OpsJ.put rfl ?_; first
      | refine OpJ.pure (OpP.move rfl) ?_
      | refine OpJ.pure (OpP.len rfl) ?_
      | refine OpJ.pure (OpP.len_string rfl) ?_
      | refine OpJ.pure (OpP.lss rfl rfl) ?_
      | refine OpJ.pure (OpP.idx1 rfl rfl (by omega) (by omega) (Src.ofR (by with_reducible assumption)) (ne_get (by assumption))) ?_
      | refine OpJ.pure (OpP.idx1 rfl rfl (by omega) (by omega) (Src.ofRow (by repeat (first | exact List.Mem.head _ | apply List.Mem.tail))) (ne_get (by assumption))) ?_
      | refine OpJ.pure (OpP.load_blk (by exact rfl) rfl (by repeat (first | exact List.Mem.head _ | apply List.Mem.tail)) rfl) ?_
      | refine OpJ.pure (OpP.loadN_blk (by exact rfl) rfl (by repeat (first | exact List.Mem.head _ | apply List.Mem.tail)) (by exact rfl)) ?_
      | refine OpJ.pure (OpP.load1 (by exact rfl) rfl (Src.ofR (by with_reducible assumption)) rfl (by assumption)) ?_
      | refine OpJ.pure (OpP.load1 (by exact rfl) rfl (Src.ofRow (by repeat (first | exact List.Mem.head _ | apply List.Mem.tail))) rfl (by assumption)) ?_
      | refine OpJ.pure (OpP.assign rfl) ?_
      | refine OpJ.pure (OpP.neq rfl rfl) ?_
      | refine OpJ.pure (OpP.neq_string rfl rfl) ?_
      | refine OpJ.pure (OpP.neq_bool rfl rfl) ?_
      | refine OpJ.pure (OpP.neq_nil rfl rfl) ?_
      | refine OpJ.pure (OpP.neq_nil_slice rfl rfl) ?_
      | refine OpJ.pure (OpP.nilCheck rfl) ?_
      | refine OpJ.pure (OpP.add_in rfl rfl (by omega) (by omega)) ?_
      | refine OpJ.pure (OpP.cat rfl rfl (by omega)) ?_
      | refine OpJ.pure (OpP.add rfl rfl) ?_)
    | (refine OpsJ.act ?_; first
      | (refine OpJ.store rfl rfl rfl (by first | exact List.Perm.refl _ | exact List.Perm.swap _ _ _ | exact permm2 _ _ _ _ | exact permm3 _ _ _ _ _ | exact permm4 _ _ _ _ _ _ | exact permm5 _ _ _ _ _ _ _) (by exact rfl) (by exact rfl) (by exact rfl) ?_; dsimp only [lsplice, take1, take2, take3, take4, drop1, drop2, drop3, drop4, List.take_zero, List.drop_zero, List.cons_append, List.nil_append, List.length_cons, List.length_nil, Nat.reduceAdd, fillL, sliceL, Value.cells, List.toList_toArray, List.append_nil, List.getElem?_cons_zero, get1, get2, get3, Option.getD_some]))
    | refine OpsJ.nil ?_
    | refine CodeJ.cond_t rfl (by with_reducible assumption) ?_
    | refine CodeJ.cond_f rfl (by with_reducible assumption) ?_
    | refine CodeJ.cond_dt rfl (by omega) ?_
    | refine CodeJ.cond_df rfl (by omega) ?_
    | refine CodeJ.cond_t rfl rfl ?_
    | refine CodeJ.cond_f rfl rfl ?_)
  refine CodeJ.cond_d rfl (fun hc => ?_) (fun hc => ?_)
  · have hcell := hvs i (by omega)
    repeat (first
      | refine CodeJ.seq' ?_
      | refine CodeJ.region ?_
      | refine CodeJ.block ?_
      | refine CodeJ.skip ?_
      | refine CodeJ.exit rfl ?_
      | refine CodeJ.ret' ?_
      | (refine OpsJ.put rfl ?_; first
        | refine OpJ.pure (OpP.move rfl) ?_
        | refine OpJ.pure (OpP.len rfl) ?_
        | refine OpJ.pure (OpP.len_string rfl) ?_
        | refine OpJ.pure (OpP.lss rfl rfl) ?_
        | refine OpJ.pure (OpP.idx1 rfl rfl (by omega) (by omega) (Src.ofR (by with_reducible assumption)) (ne_get (by assumption))) ?_
        | refine OpJ.pure (OpP.idx1 rfl rfl (by omega) (by omega) (Src.ofRow (by repeat (first | exact List.Mem.head _ | apply List.Mem.tail))) (ne_get (by assumption))) ?_
        | refine OpJ.pure (OpP.load_blk (by exact rfl) rfl (by repeat (first | exact List.Mem.head _ | apply List.Mem.tail)) rfl) ?_
        | refine OpJ.pure (OpP.loadN_blk (by exact rfl) rfl (by repeat (first | exact List.Mem.head _ | apply List.Mem.tail)) (by exact rfl)) ?_
        | refine OpJ.pure (OpP.load1 (by exact rfl) rfl (Src.ofR (by with_reducible assumption)) rfl (by assumption)) ?_
        | refine OpJ.pure (OpP.load1 (by exact rfl) rfl (Src.ofRow (by repeat (first | exact List.Mem.head _ | apply List.Mem.tail))) rfl (by assumption)) ?_
        | refine OpJ.pure (OpP.assign rfl) ?_
        | refine OpJ.pure (OpP.neq rfl rfl) ?_
        | refine OpJ.pure (OpP.neq_string rfl rfl) ?_
        | refine OpJ.pure (OpP.neq_bool rfl rfl) ?_
        | refine OpJ.pure (OpP.neq_nil rfl rfl) ?_
        | refine OpJ.pure (OpP.neq_nil_slice rfl rfl) ?_
        | refine OpJ.pure (OpP.nilCheck rfl) ?_
        | refine OpJ.pure (OpP.add_in rfl rfl (by omega) (by omega)) ?_
        | refine OpJ.pure (OpP.cat rfl rfl (by omega)) ?_
        | refine OpJ.pure (OpP.add rfl rfl) ?_)
      | (refine OpsJ.act ?_; first
        | (refine OpJ.store rfl rfl rfl (by first | exact List.Perm.refl _ | exact List.Perm.swap _ _ _ | exact permm2 _ _ _ _ | exact permm3 _ _ _ _ _ | exact permm4 _ _ _ _ _ _ | exact permm5 _ _ _ _ _ _ _) (by exact rfl) (by exact rfl) (by exact rfl) ?_; dsimp only [lsplice, take1, take2, take3, take4, drop1, drop2, drop3, drop4, List.take_zero, List.drop_zero, List.cons_append, List.nil_append, List.length_cons, List.length_nil, Nat.reduceAdd, fillL, sliceL, Value.cells, List.toList_toArray, List.append_nil, List.getElem?_cons_zero, get1, get2, get3, Option.getD_some]))
      | refine OpsJ.nil ?_
      | refine CodeJ.cond_t rfl (by with_reducible assumption) ?_
      | refine CodeJ.cond_f rfl (by with_reducible assumption) ?_
      | refine CodeJ.cond_dt rfl (by omega) ?_
      | refine CodeJ.cond_df rfl (by omega) ?_
      | refine CodeJ.cond_t rfl rfl ?_
      | refine CodeJ.cond_f rfl rfl ?_)
    refine OpsJ.put (d := 14) rfl (OpJ.call (pass := []) rfl Split.nil (fun R' hle hin => rnum_nil R') ?_)
    rintro v D hs1 hd ⟨rfl, rfl⟩
    repeat (first
      | refine CodeJ.seq' ?_
      | refine CodeJ.region ?_
      | refine CodeJ.block ?_
      | refine CodeJ.skip ?_
      | refine CodeJ.exit rfl ?_
      | refine CodeJ.ret' ?_
      | (refine OpsJ.put rfl ?_; first
        | refine OpJ.pure (OpP.move rfl) ?_
        | refine OpJ.pure (OpP.len rfl) ?_
        | refine OpJ.pure (OpP.len_string rfl) ?_
        | refine OpJ.pure (OpP.lss rfl rfl) ?_
        | refine OpJ.pure (OpP.idx1 rfl rfl (by omega) (by omega) (Src.ofR (by with_reducible assumption)) (ne_get (by assumption))) ?_
        | refine OpJ.pure (OpP.idx1 rfl rfl (by omega) (by omega) (Src.ofRow (by repeat (first | exact List.Mem.head _ | apply List.Mem.tail))) (ne_get (by assumption))) ?_
        | refine OpJ.pure (OpP.load_blk (by exact rfl) rfl (by repeat (first | exact List.Mem.head _ | apply List.Mem.tail)) rfl) ?_
        | refine OpJ.pure (OpP.loadN_blk (by exact rfl) rfl (by repeat (first | exact List.Mem.head _ | apply List.Mem.tail)) (by exact rfl)) ?_
        | refine OpJ.pure (OpP.load1 (by exact rfl) rfl (Src.ofR (by with_reducible assumption)) rfl (by assumption)) ?_
        | refine OpJ.pure (OpP.load1 (by exact rfl) rfl (Src.ofRow (by repeat (first | exact List.Mem.head _ | apply List.Mem.tail))) rfl (by assumption)) ?_
        | refine OpJ.pure (OpP.assign rfl) ?_
        | refine OpJ.pure (OpP.neq rfl rfl) ?_
        | refine OpJ.pure (OpP.neq_string rfl rfl) ?_
        | refine OpJ.pure (OpP.neq_bool rfl rfl) ?_
        | refine OpJ.pure (OpP.neq_nil rfl rfl) ?_
        | refine OpJ.pure (OpP.neq_nil_slice rfl rfl) ?_
        | refine OpJ.pure (OpP.nilCheck rfl) ?_
        | refine OpJ.pure (OpP.add_in rfl rfl (by omega) (by omega)) ?_
        | refine OpJ.pure (OpP.cat rfl rfl (by omega)) ?_
        | refine OpJ.pure (OpP.add rfl rfl) ?_)
      | (refine OpsJ.act ?_; first
        | (refine OpJ.store rfl rfl rfl (by first | exact List.Perm.refl _ | exact List.Perm.swap _ _ _ | exact permm2 _ _ _ _ | exact permm3 _ _ _ _ _ | exact permm4 _ _ _ _ _ _ | exact permm5 _ _ _ _ _ _ _) (by exact rfl) (by exact rfl) (by exact rfl) ?_; dsimp only [lsplice, take1, take2, take3, take4, drop1, drop2, drop3, drop4, List.take_zero, List.drop_zero, List.cons_append, List.nil_append, List.length_cons, List.length_nil, Nat.reduceAdd, fillL, sliceL, Value.cells, List.toList_toArray, List.append_nil, List.getElem?_cons_zero, get1, get2, get3, Option.getD_some]))
      | refine OpsJ.nil ?_
      | refine CodeJ.cond_t rfl (by with_reducible assumption) ?_
      | refine CodeJ.cond_f rfl (by with_reducible assumption) ?_
      | refine CodeJ.cond_dt rfl (by omega) ?_
      | refine CodeJ.cond_df rfl (by omega) ?_
      | refine CodeJ.cond_t rfl rfl ?_
      | refine CodeJ.cond_f rfl rfl ?_)
    exact ⟨m - (i + 1), _, _, _, by omega, ⟨i + 1, _, by omega, rfl, IM.le_trans hle1 (by repeat (first | exact IM.le_refl _ | assumption | refine IM.le_trans ?_ (IM.le_or _ _))), rfl, rfl⟩, (by repeat (first | exact IM.le_refl _ | assumption | refine IM.le_trans ?_ (IM.le_or _ _))), (by repeat (first | exact SubE.nil _ | refine SubE.cons rfl ?_)), (by repeat (first | exact SubL.nil _ | refine SubL.p0 ?_ | refine SubL.p1 ?_ | refine SubL.p2 ?_ | refine SubL.p3 ?_ | refine SubL.p4 ?_ | refine SubL.p5 ?_ | refine SubL.p6 ?_ | refine SubL.p7 ?_))⟩
  · repeat (first
      | refine CodeJ.seq' ?_
      | refine CodeJ.region ?_
      | refine CodeJ.block ?_
      | refine CodeJ.skip ?_
      | refine CodeJ.exit rfl ?_
      | refine CodeJ.ret' ?_
      | (refine OpsJ.put rfl ?_; first
        | refine OpJ.pure (OpP.move rfl) ?_
        | refine OpJ.pure (OpP.len rfl) ?_
        | refine OpJ.pure (OpP.len_string rfl) ?_
        | refine OpJ.pure (OpP.lss rfl rfl) ?_
        | refine OpJ.pure (OpP.idx1 rfl rfl (by omega) (by omega) (Src.ofR (by with_reducible assumption)) (ne_get (by assumption))) ?_
        | refine OpJ.pure (OpP.idx1 rfl rfl (by omega) (by omega) (Src.ofRow (by repeat (first | exact List.Mem.head _ | apply List.Mem.tail))) (ne_get (by assumption))) ?_
        | refine OpJ.pure (OpP.load_blk (by exact rfl) rfl (by repeat (first | exact List.Mem.head _ | apply List.Mem.tail)) rfl) ?_
        | refine OpJ.pure (OpP.loadN_blk (by exact rfl) rfl (by repeat (first | exact List.Mem.head _ | apply List.Mem.tail)) (by exact rfl)) ?_
        | refine OpJ.pure (OpP.load1 (by exact rfl) rfl (Src.ofR (by with_reducible assumption)) rfl (by assumption)) ?_
        | refine OpJ.pure (OpP.load1 (by exact rfl) rfl (Src.ofRow (by repeat (first | exact List.Mem.head _ | apply List.Mem.tail))) rfl (by assumption)) ?_
        | refine OpJ.pure (OpP.assign rfl) ?_
        | refine OpJ.pure (OpP.neq rfl rfl) ?_
        | refine OpJ.pure (OpP.neq_string rfl rfl) ?_
        | refine OpJ.pure (OpP.neq_bool rfl rfl) ?_
        | refine OpJ.pure (OpP.neq_nil rfl rfl) ?_
        | refine OpJ.pure (OpP.neq_nil_slice rfl rfl) ?_
        | refine OpJ.pure (OpP.nilCheck rfl) ?_
        | refine OpJ.pure (OpP.add_in rfl rfl (by omega) (by omega)) ?_
        | refine OpJ.pure (OpP.cat rfl rfl (by omega)) ?_
        | refine OpJ.pure (OpP.add rfl rfl) ?_)
      | (refine OpsJ.act ?_; first
        | (refine OpJ.store rfl rfl rfl (by first | exact List.Perm.refl _ | exact List.Perm.swap _ _ _ | exact permm2 _ _ _ _ | exact permm3 _ _ _ _ _ | exact permm4 _ _ _ _ _ _ | exact permm5 _ _ _ _ _ _ _) (by exact rfl) (by exact rfl) (by exact rfl) ?_; dsimp only [lsplice, take1, take2, take3, take4, drop1, drop2, drop3, drop4, List.take_zero, List.drop_zero, List.cons_append, List.nil_append, List.length_cons, List.length_nil, Nat.reduceAdd, fillL, sliceL, Value.cells, List.toList_toArray, List.append_nil, List.getElem?_cons_zero, get1, get2, get3, Option.getD_some]))
      | refine OpsJ.nil ?_
      | refine CodeJ.cond_t rfl (by with_reducible assumption) ?_
      | refine CodeJ.cond_f rfl (by with_reducible assumption) ?_
      | refine CodeJ.cond_dt rfl (by omega) ?_
      | refine CodeJ.cond_df rfl (by omega) ?_
      | refine CodeJ.cond_t rfl rfl ?_
      | refine CodeJ.cond_f rfl rfl ?_)
    exact Ret.mk0 ⟨rfl, rfl⟩ (ResJ.none Try.results48) (by repeat (first | exact IM.le_refl _ | assumption | refine IM.le_trans ?_ (IM.le_or _ _))) (by repeat (first | exact SubL.nil _ | refine SubL.p0 ?_ | refine SubL.p1 ?_ | refine SubL.p2 ?_ | refine SubL.p3 ?_ | refine SubL.p4 ?_ | refine SubL.p5 ?_ | refine SubL.p6 ?_ | refine SubL.p7 ?_))
theorem ofnothing_calls (R : IM) (v : Int) (B : Option Addr) (m c : Nat) : CallJ Try.prog 10 #[.int .i64 v, .slice B m c] ⟨R, []⟩ (fun u D hs' => u = .bool true) := by
  refine CallJ.of2 Try.func10 rfl Try.ntmps10 rfl (fun W0 => ?_)
  by_cases h5 : m > 4000
  · repeat (first
      | refine CodeJ.seq' ?_
      | refine CodeJ.region ?_
      | refine CodeJ.block ?_
      | refine CodeJ.skip ?_
      | refine CodeJ.exit rfl ?_
      | refine CodeJ.ret' ?_
      | (refine OpsJ.gsel rfl rfl rfl rfl ?_; first | refine GuardJ.yes (by with_reducible assumption) ?_ | refine GuardJ.no (by with_reducible assumption) ?_ | refine GuardJ.dt rfl (by omega) ?_ | refine GuardJ.nf rfl (by omega) ?_ | refine GuardJ.df rfl (by omega) ?_ | refine GuardJ.nt rfl (by omega) ?_ | refine GuardJ.yes rfl ?_ | refine GuardJ.no rfl ?_)
      | (refine OpsJ.gund rfl rfl rfl rfl ?_)
      | (refine OpsJ.put rfl ?_; first
        | refine OpJ.pure (OpP.assign rfl) ?_
        | refine OpJ.pure (OpP.move rfl) ?_
        | refine OpJ.pure (OpP.len rfl) ?_
        | refine OpJ.pure (OpP.len_string rfl) ?_
        | refine OpJ.pure (OpP.gtr rfl rfl) ?_
        | (refine OpJ.buildSlice rfl rfl (by exact rfl) (by exact rfl) rfl (fun _ => ?_); dsimp only [lsplice, take1, take2, take3, take4, drop1, drop2, drop3, drop4, List.take_zero, List.drop_zero, List.cons_append, List.nil_append, List.length_cons, List.length_nil, Nat.reduceAdd, fillL, sliceL, Value.cells, List.toList_toArray, List.append_nil, List.getElem?_cons_zero, get1, get2, get3, Option.getD_some])
        | refine OpJ.pure (OpP.add_in rfl rfl (by omega) (by omega)) ?_
        | refine OpJ.pure (OpP.cat rfl rfl (by omega)) ?_
        | refine OpJ.pure (OpP.add rfl rfl) ?_
        | refine OpJ.pure (OpP.eql rfl rfl) ?_
        | refine OpJ.pure (OpP.eql_string rfl rfl) ?_
        | refine OpJ.pure (OpP.eql_bool rfl rfl) ?_
        | refine OpJ.pure (OpP.eql_nil rfl rfl) ?_
        | refine OpJ.pure (OpP.eql_nil_slice rfl rfl) ?_
        | refine OpJ.pure (OpP.not rfl) ?_
        | refine OpJ.pure (OpP.pick_t rfl (by with_reducible assumption) rfl) ?_
        | refine OpJ.pure (OpP.pick_f rfl (by with_reducible assumption) rfl) ?_
        | refine OpJ.pure (OpP.pick_dt rfl (by omega) rfl) ?_
        | refine OpJ.pure (OpP.pick_df rfl (by omega) rfl) ?_
        | refine OpJ.pure (OpP.pick_t rfl rfl rfl) ?_
        | refine OpJ.pure (OpP.pick_f rfl rfl rfl) ?_
        | refine OpJ.pure (OpP.pick rfl rfl rfl) ?_)
      | refine OpsJ.nil ?_
      | refine CodeJ.cond_t rfl (by with_reducible assumption) ?_
      | refine CodeJ.cond_f rfl (by with_reducible assumption) ?_
      | refine CodeJ.cond_dt rfl (by omega) ?_
      | refine CodeJ.cond_df rfl (by omega) ?_
      | refine CodeJ.cond_t rfl rfl ?_
      | refine CodeJ.cond_f rfl rfl ?_)
    exact Ret.mk0 rfl (ResJ.one Try.results10 rfl) (by repeat (first | exact IM.le_refl _ | assumption | refine IM.le_trans ?_ (IM.le_or _ _))) (by repeat (first | exact SubL.nil _ | refine SubL.p0 ?_ | refine SubL.p1 ?_ | refine SubL.p2 ?_ | refine SubL.p3 ?_ | refine SubL.p4 ?_ | refine SubL.p5 ?_ | refine SubL.p6 ?_ | refine SubL.p7 ?_))
  repeat (first
    | refine CodeJ.seq' ?_
    | refine CodeJ.region ?_
    | refine CodeJ.block ?_
    | refine CodeJ.skip ?_
    | refine CodeJ.exit rfl ?_
    | refine CodeJ.ret' ?_
    | (refine OpsJ.gsel rfl rfl rfl rfl ?_; first | refine GuardJ.yes (by with_reducible assumption) ?_ | refine GuardJ.no (by with_reducible assumption) ?_ | refine GuardJ.dt rfl (by omega) ?_ | refine GuardJ.nf rfl (by omega) ?_ | refine GuardJ.df rfl (by omega) ?_ | refine GuardJ.nt rfl (by omega) ?_ | refine GuardJ.yes rfl ?_ | refine GuardJ.no rfl ?_)
    | (refine OpsJ.gund rfl rfl rfl rfl ?_)
    | (refine OpsJ.put rfl ?_; first
      | refine OpJ.pure (OpP.assign rfl) ?_
      | refine OpJ.pure (OpP.move rfl) ?_
      | refine OpJ.pure (OpP.len rfl) ?_
      | refine OpJ.pure (OpP.len_string rfl) ?_
      | refine OpJ.pure (OpP.gtr rfl rfl) ?_
      | (refine OpJ.buildSlice rfl rfl (by exact rfl) (by exact rfl) rfl (fun _ => ?_); dsimp only [lsplice, take1, take2, take3, take4, drop1, drop2, drop3, drop4, List.take_zero, List.drop_zero, List.cons_append, List.nil_append, List.length_cons, List.length_nil, Nat.reduceAdd, fillL, sliceL, Value.cells, List.toList_toArray, List.append_nil, List.getElem?_cons_zero, get1, get2, get3, Option.getD_some])
      | refine OpJ.pure (OpP.add_in rfl rfl (by omega) (by omega)) ?_
      | refine OpJ.pure (OpP.cat rfl rfl (by omega)) ?_
      | refine OpJ.pure (OpP.add rfl rfl) ?_
      | refine OpJ.pure (OpP.eql rfl rfl) ?_
      | refine OpJ.pure (OpP.eql_string rfl rfl) ?_
      | refine OpJ.pure (OpP.eql_bool rfl rfl) ?_
      | refine OpJ.pure (OpP.eql_nil rfl rfl) ?_
      | refine OpJ.pure (OpP.eql_nil_slice rfl rfl) ?_
      | refine OpJ.pure (OpP.not rfl) ?_
      | refine OpJ.pure (OpP.pick_t rfl (by with_reducible assumption) rfl) ?_
      | refine OpJ.pure (OpP.pick_f rfl (by with_reducible assumption) rfl) ?_
      | refine OpJ.pure (OpP.pick_dt rfl (by omega) rfl) ?_
      | refine OpJ.pure (OpP.pick_df rfl (by omega) rfl) ?_
      | refine OpJ.pure (OpP.pick_t rfl rfl rfl) ?_
      | refine OpJ.pure (OpP.pick_f rfl rfl rfl) ?_
      | refine OpJ.pure (OpP.pick rfl rfl rfl) ?_)
    | refine OpsJ.nil ?_
    | refine CodeJ.cond_t rfl (by with_reducible assumption) ?_
    | refine CodeJ.cond_f rfl (by with_reducible assumption) ?_
    | refine CodeJ.cond_dt rfl (by omega) ?_
    | refine CodeJ.cond_df rfl (by omega) ?_
    | refine CodeJ.cond_t rfl rfl ?_
    | refine CodeJ.cond_f rfl rfl ?_)
  refine OpsJ.put (d := 13) rfl (OpJ.call (pass := []) rfl Split.nil (fun R' hle hin => wnums_nil R' _ _ _) ?_)
  rintro u D hs1 hd ⟨rfl, rfl⟩
  repeat (first
    | refine CodeJ.seq' ?_
    | refine CodeJ.region ?_
    | refine CodeJ.block ?_
    | refine CodeJ.skip ?_
    | refine CodeJ.exit rfl ?_
    | refine CodeJ.ret' ?_
    | (refine OpsJ.gsel rfl rfl rfl rfl ?_; first | refine GuardJ.yes (by with_reducible assumption) ?_ | refine GuardJ.no (by with_reducible assumption) ?_ | refine GuardJ.dt rfl (by omega) ?_ | refine GuardJ.nf rfl (by omega) ?_ | refine GuardJ.df rfl (by omega) ?_ | refine GuardJ.nt rfl (by omega) ?_ | refine GuardJ.yes rfl ?_ | refine GuardJ.no rfl ?_)
    | (refine OpsJ.gund rfl rfl rfl rfl ?_)
    | (refine OpsJ.put rfl ?_; first
      | refine OpJ.pure (OpP.assign rfl) ?_
      | refine OpJ.pure (OpP.move rfl) ?_
      | refine OpJ.pure (OpP.len rfl) ?_
      | refine OpJ.pure (OpP.len_string rfl) ?_
      | refine OpJ.pure (OpP.gtr rfl rfl) ?_
      | (refine OpJ.buildSlice rfl rfl (by exact rfl) (by exact rfl) rfl (fun _ => ?_); dsimp only [lsplice, take1, take2, take3, take4, drop1, drop2, drop3, drop4, List.take_zero, List.drop_zero, List.cons_append, List.nil_append, List.length_cons, List.length_nil, Nat.reduceAdd, fillL, sliceL, Value.cells, List.toList_toArray, List.append_nil, List.getElem?_cons_zero, get1, get2, get3, Option.getD_some])
      | refine OpJ.pure (OpP.add_in rfl rfl (by omega) (by omega)) ?_
      | refine OpJ.pure (OpP.cat rfl rfl (by omega)) ?_
      | refine OpJ.pure (OpP.add rfl rfl) ?_
      | refine OpJ.pure (OpP.eql rfl rfl) ?_
      | refine OpJ.pure (OpP.eql_string rfl rfl) ?_
      | refine OpJ.pure (OpP.eql_bool rfl rfl) ?_
      | refine OpJ.pure (OpP.eql_nil rfl rfl) ?_
      | refine OpJ.pure (OpP.eql_nil_slice rfl rfl) ?_
      | refine OpJ.pure (OpP.not rfl) ?_
      | refine OpJ.pure (OpP.pick_t rfl (by with_reducible assumption) rfl) ?_
      | refine OpJ.pure (OpP.pick_f rfl (by with_reducible assumption) rfl) ?_
      | refine OpJ.pure (OpP.pick_dt rfl (by omega) rfl) ?_
      | refine OpJ.pure (OpP.pick_df rfl (by omega) rfl) ?_
      | refine OpJ.pure (OpP.pick_t rfl rfl rfl) ?_
      | refine OpJ.pure (OpP.pick_f rfl rfl rfl) ?_
      | refine OpJ.pure (OpP.pick rfl rfl rfl) ?_)
    | refine OpsJ.nil ?_
    | refine CodeJ.cond_t rfl (by with_reducible assumption) ?_
    | refine CodeJ.cond_f rfl (by with_reducible assumption) ?_
    | refine CodeJ.cond_dt rfl (by omega) ?_
    | refine CodeJ.cond_df rfl (by omega) ?_
    | refine CodeJ.cond_t rfl rfl ?_
    | refine CodeJ.cond_f rfl rfl ?_)
  refine OpsJ.put (d := 17) rfl (OpJ.call (pass := []) rfl Split.nil (fun R' hle hin => wbytes_nil R' _ _ _ [.slice B m c] (inRow hin (by repeat (first | exact List.Mem.head _ | apply List.Mem.tail))) rfl (fun i hi => ?_) (by decide)) ?_)
  · match i, hi with
    | 0, _ => exact ⟨_, _, _, rfl⟩
    | i + 1, hi => simp at hi
  rintro u D2 hs2 hd2 ⟨rfl, rfl⟩
  repeat (first
    | refine CodeJ.seq' ?_
    | refine CodeJ.region ?_
    | refine CodeJ.block ?_
    | refine CodeJ.skip ?_
    | refine CodeJ.exit rfl ?_
    | refine CodeJ.ret' ?_
    | (refine OpsJ.gsel rfl rfl rfl rfl ?_; first | refine GuardJ.yes (by with_reducible assumption) ?_ | refine GuardJ.no (by with_reducible assumption) ?_ | refine GuardJ.dt rfl (by omega) ?_ | refine GuardJ.nf rfl (by omega) ?_ | refine GuardJ.df rfl (by omega) ?_ | refine GuardJ.nt rfl (by omega) ?_ | refine GuardJ.yes rfl ?_ | refine GuardJ.no rfl ?_)
    | (refine OpsJ.gund rfl rfl rfl rfl ?_)
    | (refine OpsJ.put rfl ?_; first
      | refine OpJ.pure (OpP.assign rfl) ?_
      | refine OpJ.pure (OpP.move rfl) ?_
      | refine OpJ.pure (OpP.len rfl) ?_
      | refine OpJ.pure (OpP.len_string rfl) ?_
      | refine OpJ.pure (OpP.gtr rfl rfl) ?_
      | (refine OpJ.buildSlice rfl rfl (by exact rfl) (by exact rfl) rfl (fun _ => ?_); dsimp only [lsplice, take1, take2, take3, take4, drop1, drop2, drop3, drop4, List.take_zero, List.drop_zero, List.cons_append, List.nil_append, List.length_cons, List.length_nil, Nat.reduceAdd, fillL, sliceL, Value.cells, List.toList_toArray, List.append_nil, List.getElem?_cons_zero, get1, get2, get3, Option.getD_some])
      | refine OpJ.pure (OpP.add_in rfl rfl (by omega) (by omega)) ?_
      | refine OpJ.pure (OpP.cat rfl rfl (by omega)) ?_
      | refine OpJ.pure (OpP.add rfl rfl) ?_
      | refine OpJ.pure (OpP.eql rfl rfl) ?_
      | refine OpJ.pure (OpP.eql_string rfl rfl) ?_
      | refine OpJ.pure (OpP.eql_bool rfl rfl) ?_
      | refine OpJ.pure (OpP.eql_nil rfl rfl) ?_
      | refine OpJ.pure (OpP.eql_nil_slice rfl rfl) ?_
      | refine OpJ.pure (OpP.not rfl) ?_
      | refine OpJ.pure (OpP.pick_t rfl (by with_reducible assumption) rfl) ?_
      | refine OpJ.pure (OpP.pick_f rfl (by with_reducible assumption) rfl) ?_
      | refine OpJ.pure (OpP.pick_dt rfl (by omega) rfl) ?_
      | refine OpJ.pure (OpP.pick_df rfl (by omega) rfl) ?_
      | refine OpJ.pure (OpP.pick_t rfl rfl rfl) ?_
      | refine OpJ.pure (OpP.pick_f rfl rfl rfl) ?_
      | refine OpJ.pure (OpP.pick rfl rfl rfl) ?_)
    | refine OpsJ.nil ?_
    | refine CodeJ.cond_t rfl (by with_reducible assumption) ?_
    | refine CodeJ.cond_f rfl (by with_reducible assumption) ?_
    | refine CodeJ.cond_dt rfl (by omega) ?_
    | refine CodeJ.cond_df rfl (by omega) ?_
    | refine CodeJ.cond_t rfl rfl ?_
    | refine CodeJ.cond_f rfl rfl ?_)
  refine OpsJ.put (d := 20) rfl (OpJ.call (pass := []) rfl Split.nil (fun R' hle hin => wraw_nil R' _ _ _) ?_)
  rintro u D3 hs3 hd3 ⟨rfl, rfl⟩
  repeat (first
    | refine CodeJ.seq' ?_
    | refine CodeJ.region ?_
    | refine CodeJ.block ?_
    | refine CodeJ.skip ?_
    | refine CodeJ.exit rfl ?_
    | refine CodeJ.ret' ?_
    | (refine OpsJ.gsel rfl rfl rfl rfl ?_; first | refine GuardJ.yes (by with_reducible assumption) ?_ | refine GuardJ.no (by with_reducible assumption) ?_ | refine GuardJ.dt rfl (by omega) ?_ | refine GuardJ.nf rfl (by omega) ?_ | refine GuardJ.df rfl (by omega) ?_ | refine GuardJ.nt rfl (by omega) ?_ | refine GuardJ.yes rfl ?_ | refine GuardJ.no rfl ?_)
    | (refine OpsJ.gund rfl rfl rfl rfl ?_)
    | (refine OpsJ.put rfl ?_; first
      | refine OpJ.pure (OpP.assign rfl) ?_
      | refine OpJ.pure (OpP.move rfl) ?_
      | refine OpJ.pure (OpP.len rfl) ?_
      | refine OpJ.pure (OpP.len_string rfl) ?_
      | refine OpJ.pure (OpP.gtr rfl rfl) ?_
      | (refine OpJ.buildSlice rfl rfl (by exact rfl) (by exact rfl) rfl (fun _ => ?_); dsimp only [lsplice, take1, take2, take3, take4, drop1, drop2, drop3, drop4, List.take_zero, List.drop_zero, List.cons_append, List.nil_append, List.length_cons, List.length_nil, Nat.reduceAdd, fillL, sliceL, Value.cells, List.toList_toArray, List.append_nil, List.getElem?_cons_zero, get1, get2, get3, Option.getD_some])
      | refine OpJ.pure (OpP.add_in rfl rfl (by omega) (by omega)) ?_
      | refine OpJ.pure (OpP.cat rfl rfl (by omega)) ?_
      | refine OpJ.pure (OpP.add rfl rfl) ?_
      | refine OpJ.pure (OpP.eql rfl rfl) ?_
      | refine OpJ.pure (OpP.eql_string rfl rfl) ?_
      | refine OpJ.pure (OpP.eql_bool rfl rfl) ?_
      | refine OpJ.pure (OpP.eql_nil rfl rfl) ?_
      | refine OpJ.pure (OpP.eql_nil_slice rfl rfl) ?_
      | refine OpJ.pure (OpP.not rfl) ?_
      | refine OpJ.pure (OpP.pick_t rfl (by with_reducible assumption) rfl) ?_
      | refine OpJ.pure (OpP.pick_f rfl (by with_reducible assumption) rfl) ?_
      | refine OpJ.pure (OpP.pick_dt rfl (by omega) rfl) ?_
      | refine OpJ.pure (OpP.pick_df rfl (by omega) rfl) ?_
      | refine OpJ.pure (OpP.pick_t rfl rfl rfl) ?_
      | refine OpJ.pure (OpP.pick_f rfl rfl rfl) ?_
      | refine OpJ.pure (OpP.pick rfl rfl rfl) ?_)
    | refine OpsJ.nil ?_
    | refine CodeJ.cond_t rfl (by with_reducible assumption) ?_
    | refine CodeJ.cond_f rfl (by with_reducible assumption) ?_
    | refine CodeJ.cond_dt rfl (by omega) ?_
    | refine CodeJ.cond_df rfl (by omega) ?_
    | refine CodeJ.cond_t rfl rfl ?_
    | refine CodeJ.cond_f rfl rfl ?_)
  refine OpsJ.put (d := 22) rfl (OpJ.call (pass := []) rfl Split.nil (fun R' hle hin => rbad_nil R') ?_)
  rintro u D4 hs4 hd4 ⟨rfl, rfl⟩
  repeat (first
    | refine CodeJ.seq' ?_
    | refine CodeJ.region ?_
    | refine CodeJ.block ?_
    | refine CodeJ.skip ?_
    | refine CodeJ.exit rfl ?_
    | refine CodeJ.ret' ?_
    | (refine OpsJ.gsel rfl rfl rfl rfl ?_; first | refine GuardJ.yes (by with_reducible assumption) ?_ | refine GuardJ.no (by with_reducible assumption) ?_ | refine GuardJ.dt rfl (by omega) ?_ | refine GuardJ.nf rfl (by omega) ?_ | refine GuardJ.df rfl (by omega) ?_ | refine GuardJ.nt rfl (by omega) ?_ | refine GuardJ.yes rfl ?_ | refine GuardJ.no rfl ?_)
    | (refine OpsJ.gund rfl rfl rfl rfl ?_)
    | (refine OpsJ.put rfl ?_; first
      | refine OpJ.pure (OpP.assign rfl) ?_
      | refine OpJ.pure (OpP.move rfl) ?_
      | refine OpJ.pure (OpP.len rfl) ?_
      | refine OpJ.pure (OpP.len_string rfl) ?_
      | refine OpJ.pure (OpP.gtr rfl rfl) ?_
      | (refine OpJ.buildSlice rfl rfl (by exact rfl) (by exact rfl) rfl (fun _ => ?_); dsimp only [lsplice, take1, take2, take3, take4, drop1, drop2, drop3, drop4, List.take_zero, List.drop_zero, List.cons_append, List.nil_append, List.length_cons, List.length_nil, Nat.reduceAdd, fillL, sliceL, Value.cells, List.toList_toArray, List.append_nil, List.getElem?_cons_zero, get1, get2, get3, Option.getD_some])
      | refine OpJ.pure (OpP.add_in rfl rfl (by omega) (by omega)) ?_
      | refine OpJ.pure (OpP.cat rfl rfl (by omega)) ?_
      | refine OpJ.pure (OpP.add rfl rfl) ?_
      | refine OpJ.pure (OpP.eql rfl rfl) ?_
      | refine OpJ.pure (OpP.eql_string rfl rfl) ?_
      | refine OpJ.pure (OpP.eql_bool rfl rfl) ?_
      | refine OpJ.pure (OpP.eql_nil rfl rfl) ?_
      | refine OpJ.pure (OpP.eql_nil_slice rfl rfl) ?_
      | refine OpJ.pure (OpP.not rfl) ?_
      | refine OpJ.pure (OpP.pick_t rfl (by with_reducible assumption) rfl) ?_
      | refine OpJ.pure (OpP.pick_f rfl (by with_reducible assumption) rfl) ?_
      | refine OpJ.pure (OpP.pick_dt rfl (by omega) rfl) ?_
      | refine OpJ.pure (OpP.pick_df rfl (by omega) rfl) ?_
      | refine OpJ.pure (OpP.pick_t rfl rfl rfl) ?_
      | refine OpJ.pure (OpP.pick_f rfl rfl rfl) ?_
      | refine OpJ.pure (OpP.pick rfl rfl rfl) ?_)
    | refine OpsJ.nil ?_
    | refine CodeJ.cond_t rfl (by with_reducible assumption) ?_
    | refine CodeJ.cond_f rfl (by with_reducible assumption) ?_
    | refine CodeJ.cond_dt rfl (by omega) ?_
    | refine CodeJ.cond_df rfl (by omega) ?_
    | refine CodeJ.cond_t rfl rfl ?_
    | refine CodeJ.cond_f rfl rfl ?_)
  refine OpsJ.put (d := 25) rfl (OpJ.call (pass := []) rfl Split.nil (fun R' hle hin => rnums_nil R' _ _ _ [.pointer none] (inRow hin (by repeat (first | exact List.Mem.head _ | apply List.Mem.tail))) rfl (fun i hi => ?_) (by decide)) ?_)
  · match i, hi with
    | 0, _ => rfl
    | i + 1, hi => simp at hi
  rintro u D5 hs5 hd5 ⟨rfl, rfl⟩
  repeat (first
    | refine CodeJ.seq' ?_
    | refine CodeJ.region ?_
    | refine CodeJ.block ?_
    | refine CodeJ.skip ?_
    | refine CodeJ.exit rfl ?_
    | refine CodeJ.ret' ?_
    | (refine OpsJ.gsel rfl rfl rfl rfl ?_; first | refine GuardJ.yes (by with_reducible assumption) ?_ | refine GuardJ.no (by with_reducible assumption) ?_ | refine GuardJ.dt rfl (by omega) ?_ | refine GuardJ.nf rfl (by omega) ?_ | refine GuardJ.df rfl (by omega) ?_ | refine GuardJ.nt rfl (by omega) ?_ | refine GuardJ.yes rfl ?_ | refine GuardJ.no rfl ?_)
    | (refine OpsJ.gund rfl rfl rfl rfl ?_)
    | (refine OpsJ.put rfl ?_; first
      | refine OpJ.pure (OpP.assign rfl) ?_
      | refine OpJ.pure (OpP.move rfl) ?_
      | refine OpJ.pure (OpP.len rfl) ?_
      | refine OpJ.pure (OpP.len_string rfl) ?_
      | refine OpJ.pure (OpP.gtr rfl rfl) ?_
      | (refine OpJ.buildSlice rfl rfl (by exact rfl) (by exact rfl) rfl (fun _ => ?_); dsimp only [lsplice, take1, take2, take3, take4, drop1, drop2, drop3, drop4, List.take_zero, List.drop_zero, List.cons_append, List.nil_append, List.length_cons, List.length_nil, Nat.reduceAdd, fillL, sliceL, Value.cells, List.toList_toArray, List.append_nil, List.getElem?_cons_zero, get1, get2, get3, Option.getD_some])
      | refine OpJ.pure (OpP.add_in rfl rfl (by omega) (by omega)) ?_
      | refine OpJ.pure (OpP.cat rfl rfl (by omega)) ?_
      | refine OpJ.pure (OpP.add rfl rfl) ?_
      | refine OpJ.pure (OpP.eql rfl rfl) ?_
      | refine OpJ.pure (OpP.eql_string rfl rfl) ?_
      | refine OpJ.pure (OpP.eql_bool rfl rfl) ?_
      | refine OpJ.pure (OpP.eql_nil rfl rfl) ?_
      | refine OpJ.pure (OpP.eql_nil_slice rfl rfl) ?_
      | refine OpJ.pure (OpP.not rfl) ?_
      | refine OpJ.pure (OpP.pick_t rfl (by with_reducible assumption) rfl) ?_
      | refine OpJ.pure (OpP.pick_f rfl (by with_reducible assumption) rfl) ?_
      | refine OpJ.pure (OpP.pick_dt rfl (by omega) rfl) ?_
      | refine OpJ.pure (OpP.pick_df rfl (by omega) rfl) ?_
      | refine OpJ.pure (OpP.pick_t rfl rfl rfl) ?_
      | refine OpJ.pure (OpP.pick_f rfl rfl rfl) ?_
      | refine OpJ.pure (OpP.pick rfl rfl rfl) ?_)
    | refine OpsJ.nil ?_
    | refine CodeJ.cond_t rfl (by with_reducible assumption) ?_
    | refine CodeJ.cond_f rfl (by with_reducible assumption) ?_
    | refine CodeJ.cond_dt rfl (by omega) ?_
    | refine CodeJ.cond_df rfl (by omega) ?_
    | refine CodeJ.cond_t rfl rfl ?_
    | refine CodeJ.cond_f rfl rfl ?_)
  refine OpsJ.put (d := 27) rfl (OpJ.call (pass := []) rfl Split.nil (fun R' hle hin => wout_nil R') ?_)
  rintro u D6 hs6 hd6 ⟨rfl, rfl⟩
  repeat (first
    | refine CodeJ.seq' ?_
    | refine CodeJ.region ?_
    | refine CodeJ.block ?_
    | refine CodeJ.skip ?_
    | refine CodeJ.exit rfl ?_
    | refine CodeJ.ret' ?_
    | (refine OpsJ.gsel rfl rfl rfl rfl ?_; first | refine GuardJ.yes (by with_reducible assumption) ?_ | refine GuardJ.no (by with_reducible assumption) ?_ | refine GuardJ.dt rfl (by omega) ?_ | refine GuardJ.nf rfl (by omega) ?_ | refine GuardJ.df rfl (by omega) ?_ | refine GuardJ.nt rfl (by omega) ?_ | refine GuardJ.yes rfl ?_ | refine GuardJ.no rfl ?_)
    | (refine OpsJ.gund rfl rfl rfl rfl ?_)
    | (refine OpsJ.put rfl ?_; first
      | refine OpJ.pure (OpP.assign rfl) ?_
      | refine OpJ.pure (OpP.move rfl) ?_
      | refine OpJ.pure (OpP.len rfl) ?_
      | refine OpJ.pure (OpP.len_string rfl) ?_
      | refine OpJ.pure (OpP.gtr rfl rfl) ?_
      | (refine OpJ.buildSlice rfl rfl (by exact rfl) (by exact rfl) rfl (fun _ => ?_); dsimp only [lsplice, take1, take2, take3, take4, drop1, drop2, drop3, drop4, List.take_zero, List.drop_zero, List.cons_append, List.nil_append, List.length_cons, List.length_nil, Nat.reduceAdd, fillL, sliceL, Value.cells, List.toList_toArray, List.append_nil, List.getElem?_cons_zero, get1, get2, get3, Option.getD_some])
      | refine OpJ.pure (OpP.add_in rfl rfl (by omega) (by omega)) ?_
      | refine OpJ.pure (OpP.cat rfl rfl (by omega)) ?_
      | refine OpJ.pure (OpP.add rfl rfl) ?_
      | refine OpJ.pure (OpP.eql rfl rfl) ?_
      | refine OpJ.pure (OpP.eql_string rfl rfl) ?_
      | refine OpJ.pure (OpP.eql_bool rfl rfl) ?_
      | refine OpJ.pure (OpP.eql_nil rfl rfl) ?_
      | refine OpJ.pure (OpP.eql_nil_slice rfl rfl) ?_
      | refine OpJ.pure (OpP.not rfl) ?_
      | refine OpJ.pure (OpP.pick_t rfl (by with_reducible assumption) rfl) ?_
      | refine OpJ.pure (OpP.pick_f rfl (by with_reducible assumption) rfl) ?_
      | refine OpJ.pure (OpP.pick_dt rfl (by omega) rfl) ?_
      | refine OpJ.pure (OpP.pick_df rfl (by omega) rfl) ?_
      | refine OpJ.pure (OpP.pick_t rfl rfl rfl) ?_
      | refine OpJ.pure (OpP.pick_f rfl rfl rfl) ?_
      | refine OpJ.pure (OpP.pick rfl rfl rfl) ?_)
    | refine OpsJ.nil ?_
    | refine CodeJ.cond_t rfl (by with_reducible assumption) ?_
    | refine CodeJ.cond_f rfl (by with_reducible assumption) ?_
    | refine CodeJ.cond_dt rfl (by omega) ?_
    | refine CodeJ.cond_df rfl (by omega) ?_
    | refine CodeJ.cond_t rfl rfl ?_
    | refine CodeJ.cond_f rfl rfl ?_)
  refine OpsJ.put (d := 30) rfl (OpJ.call (pass := []) rfl Split.nil (fun R' hle hin => rnum_nil R') ?_)
  rintro u D7 hs7 hd7 ⟨rfl, rfl⟩
  repeat (first
    | refine CodeJ.seq' ?_
    | refine CodeJ.region ?_
    | refine CodeJ.block ?_
    | refine CodeJ.skip ?_
    | refine CodeJ.exit rfl ?_
    | refine CodeJ.ret' ?_
    | (refine OpsJ.gsel rfl rfl rfl rfl ?_; first | refine GuardJ.yes (by with_reducible assumption) ?_ | refine GuardJ.no (by with_reducible assumption) ?_ | refine GuardJ.dt rfl (by omega) ?_ | refine GuardJ.nf rfl (by omega) ?_ | refine GuardJ.df rfl (by omega) ?_ | refine GuardJ.nt rfl (by omega) ?_ | refine GuardJ.yes rfl ?_ | refine GuardJ.no rfl ?_)
    | (refine OpsJ.gund rfl rfl rfl rfl ?_)
    | (refine OpsJ.put rfl ?_; first
      | refine OpJ.pure (OpP.assign rfl) ?_
      | refine OpJ.pure (OpP.move rfl) ?_
      | refine OpJ.pure (OpP.len rfl) ?_
      | refine OpJ.pure (OpP.len_string rfl) ?_
      | refine OpJ.pure (OpP.gtr rfl rfl) ?_
      | (refine OpJ.buildSlice rfl rfl (by exact rfl) (by exact rfl) rfl (fun _ => ?_); dsimp only [lsplice, take1, take2, take3, take4, drop1, drop2, drop3, drop4, List.take_zero, List.drop_zero, List.cons_append, List.nil_append, List.length_cons, List.length_nil, Nat.reduceAdd, fillL, sliceL, Value.cells, List.toList_toArray, List.append_nil, List.getElem?_cons_zero, get1, get2, get3, Option.getD_some])
      | refine OpJ.pure (OpP.add_in rfl rfl (by omega) (by omega)) ?_
      | refine OpJ.pure (OpP.cat rfl rfl (by omega)) ?_
      | refine OpJ.pure (OpP.add rfl rfl) ?_
      | refine OpJ.pure (OpP.eql rfl rfl) ?_
      | refine OpJ.pure (OpP.eql_string rfl rfl) ?_
      | refine OpJ.pure (OpP.eql_bool rfl rfl) ?_
      | refine OpJ.pure (OpP.eql_nil rfl rfl) ?_
      | refine OpJ.pure (OpP.eql_nil_slice rfl rfl) ?_
      | refine OpJ.pure (OpP.not rfl) ?_
      | refine OpJ.pure (OpP.pick_t rfl (by with_reducible assumption) rfl) ?_
      | refine OpJ.pure (OpP.pick_f rfl (by with_reducible assumption) rfl) ?_
      | refine OpJ.pure (OpP.pick_dt rfl (by omega) rfl) ?_
      | refine OpJ.pure (OpP.pick_df rfl (by omega) rfl) ?_
      | refine OpJ.pure (OpP.pick_t rfl rfl rfl) ?_
      | refine OpJ.pure (OpP.pick_f rfl rfl rfl) ?_
      | refine OpJ.pure (OpP.pick rfl rfl rfl) ?_)
    | refine OpsJ.nil ?_
    | refine CodeJ.cond_t rfl (by with_reducible assumption) ?_
    | refine CodeJ.cond_f rfl (by with_reducible assumption) ?_
    | refine CodeJ.cond_dt rfl (by omega) ?_
    | refine CodeJ.cond_df rfl (by omega) ?_
    | refine CodeJ.cond_t rfl rfl ?_
    | refine CodeJ.cond_f rfl rfl ?_)
  refine OpsJ.put (d := 33) rfl (OpJ.call (pass := []) rfl Split.nil (fun R' hle hin => rbytes_nil R') ?_)
  rintro u D8 hs8 hd8 ⟨rfl, rfl⟩
  repeat (first
    | refine CodeJ.seq' ?_
    | refine CodeJ.region ?_
    | refine CodeJ.block ?_
    | refine CodeJ.skip ?_
    | refine CodeJ.exit rfl ?_
    | refine CodeJ.ret' ?_
    | (refine OpsJ.gsel rfl rfl rfl rfl ?_; first | refine GuardJ.yes (by with_reducible assumption) ?_ | refine GuardJ.no (by with_reducible assumption) ?_ | refine GuardJ.dt rfl (by omega) ?_ | refine GuardJ.nf rfl (by omega) ?_ | refine GuardJ.df rfl (by omega) ?_ | refine GuardJ.nt rfl (by omega) ?_ | refine GuardJ.yes rfl ?_ | refine GuardJ.no rfl ?_)
    | (refine OpsJ.gund rfl rfl rfl rfl ?_)
    | (refine OpsJ.put rfl ?_; first
      | refine OpJ.pure (OpP.assign rfl) ?_
      | refine OpJ.pure (OpP.move rfl) ?_
      | refine OpJ.pure (OpP.len rfl) ?_
      | refine OpJ.pure (OpP.len_string rfl) ?_
      | refine OpJ.pure (OpP.gtr rfl rfl) ?_
      | (refine OpJ.buildSlice rfl rfl (by exact rfl) (by exact rfl) rfl (fun _ => ?_); dsimp only [lsplice, take1, take2, take3, take4, drop1, drop2, drop3, drop4, List.take_zero, List.drop_zero, List.cons_append, List.nil_append, List.length_cons, List.length_nil, Nat.reduceAdd, fillL, sliceL, Value.cells, List.toList_toArray, List.append_nil, List.getElem?_cons_zero, get1, get2, get3, Option.getD_some])
      | refine OpJ.pure (OpP.add_in rfl rfl (by omega) (by omega)) ?_
      | refine OpJ.pure (OpP.cat rfl rfl (by omega)) ?_
      | refine OpJ.pure (OpP.add rfl rfl) ?_
      | refine OpJ.pure (OpP.eql rfl rfl) ?_
      | refine OpJ.pure (OpP.eql_string rfl rfl) ?_
      | refine OpJ.pure (OpP.eql_bool rfl rfl) ?_
      | refine OpJ.pure (OpP.eql_nil rfl rfl) ?_
      | refine OpJ.pure (OpP.eql_nil_slice rfl rfl) ?_
      | refine OpJ.pure (OpP.not rfl) ?_
      | refine OpJ.pure (OpP.pick_t rfl (by with_reducible assumption) rfl) ?_
      | refine OpJ.pure (OpP.pick_f rfl (by with_reducible assumption) rfl) ?_
      | refine OpJ.pure (OpP.pick_dt rfl (by omega) rfl) ?_
      | refine OpJ.pure (OpP.pick_df rfl (by omega) rfl) ?_
      | refine OpJ.pure (OpP.pick_t rfl rfl rfl) ?_
      | refine OpJ.pure (OpP.pick_f rfl rfl rfl) ?_
      | refine OpJ.pure (OpP.pick rfl rfl rfl) ?_)
    | refine OpsJ.nil ?_
    | refine CodeJ.cond_t rfl (by with_reducible assumption) ?_
    | refine CodeJ.cond_f rfl (by with_reducible assumption) ?_
    | refine CodeJ.cond_dt rfl (by omega) ?_
    | refine CodeJ.cond_df rfl (by omega) ?_
    | refine CodeJ.cond_t rfl rfl ?_
    | refine CodeJ.cond_f rfl rfl ?_)
  refine OpsJ.put (d := 38) rfl (OpJ.call (pass := []) rfl Split.nil (fun R' hle hin => rraw_nil R' v) ?_)
  rintro u D9 hs9 hd9 ⟨rfl, rfl⟩
  repeat (first
    | refine CodeJ.seq' ?_
    | refine CodeJ.region ?_
    | refine CodeJ.block ?_
    | refine CodeJ.skip ?_
    | refine CodeJ.exit rfl ?_
    | refine CodeJ.ret' ?_
    | (refine OpsJ.gsel rfl rfl rfl rfl ?_; first | refine GuardJ.yes (by with_reducible assumption) ?_ | refine GuardJ.no (by with_reducible assumption) ?_ | refine GuardJ.dt rfl (by omega) ?_ | refine GuardJ.nf rfl (by omega) ?_ | refine GuardJ.df rfl (by omega) ?_ | refine GuardJ.nt rfl (by omega) ?_ | refine GuardJ.yes rfl ?_ | refine GuardJ.no rfl ?_)
    | (refine OpsJ.gund rfl rfl rfl rfl ?_)
    | (refine OpsJ.put rfl ?_; first
      | refine OpJ.pure (OpP.assign rfl) ?_
      | refine OpJ.pure (OpP.move rfl) ?_
      | refine OpJ.pure (OpP.len rfl) ?_
      | refine OpJ.pure (OpP.len_string rfl) ?_
      | refine OpJ.pure (OpP.gtr rfl rfl) ?_
      | (refine OpJ.buildSlice rfl rfl (by exact rfl) (by exact rfl) rfl (fun _ => ?_); dsimp only [lsplice, take1, take2, take3, take4, drop1, drop2, drop3, drop4, List.take_zero, List.drop_zero, List.cons_append, List.nil_append, List.length_cons, List.length_nil, Nat.reduceAdd, fillL, sliceL, Value.cells, List.toList_toArray, List.append_nil, List.getElem?_cons_zero, get1, get2, get3, Option.getD_some])
      | refine OpJ.pure (OpP.add_in rfl rfl (by omega) (by omega)) ?_
      | refine OpJ.pure (OpP.cat rfl rfl (by omega)) ?_
      | refine OpJ.pure (OpP.add rfl rfl) ?_
      | refine OpJ.pure (OpP.eql rfl rfl) ?_
      | refine OpJ.pure (OpP.eql_string rfl rfl) ?_
      | refine OpJ.pure (OpP.eql_bool rfl rfl) ?_
      | refine OpJ.pure (OpP.eql_nil rfl rfl) ?_
      | refine OpJ.pure (OpP.eql_nil_slice rfl rfl) ?_
      | refine OpJ.pure (OpP.not rfl) ?_
      | refine OpJ.pure (OpP.pick_t rfl (by with_reducible assumption) rfl) ?_
      | refine OpJ.pure (OpP.pick_f rfl (by with_reducible assumption) rfl) ?_
      | refine OpJ.pure (OpP.pick_dt rfl (by omega) rfl) ?_
      | refine OpJ.pure (OpP.pick_df rfl (by omega) rfl) ?_
      | refine OpJ.pure (OpP.pick_t rfl rfl rfl) ?_
      | refine OpJ.pure (OpP.pick_f rfl rfl rfl) ?_
      | refine OpJ.pure (OpP.pick rfl rfl rfl) ?_)
    | refine OpsJ.nil ?_
    | refine CodeJ.cond_t rfl (by with_reducible assumption) ?_
    | refine CodeJ.cond_f rfl (by with_reducible assumption) ?_
    | refine CodeJ.cond_dt rfl (by omega) ?_
    | refine CodeJ.cond_df rfl (by omega) ?_
    | refine CodeJ.cond_t rfl rfl ?_
    | refine CodeJ.cond_f rfl rfl ?_)
  refine OpsJ.put (d := 42) rfl (OpJ.call (pass := []) rfl Split.nil (fun R' hle hin => rleft_nil R') ?_)
  rintro u D10 hs10 hd10 ⟨rfl, rfl⟩
  repeat (first
    | refine CodeJ.seq' ?_
    | refine CodeJ.region ?_
    | refine CodeJ.block ?_
    | refine CodeJ.skip ?_
    | refine CodeJ.exit rfl ?_
    | refine CodeJ.ret' ?_
    | (refine OpsJ.gsel rfl rfl rfl rfl ?_; first | refine GuardJ.yes (by with_reducible assumption) ?_ | refine GuardJ.no (by with_reducible assumption) ?_ | refine GuardJ.dt rfl (by omega) ?_ | refine GuardJ.nf rfl (by omega) ?_ | refine GuardJ.df rfl (by omega) ?_ | refine GuardJ.nt rfl (by omega) ?_ | refine GuardJ.yes rfl ?_ | refine GuardJ.no rfl ?_)
    | (refine OpsJ.gund rfl rfl rfl rfl ?_)
    | (refine OpsJ.put rfl ?_; first
      | refine OpJ.pure (OpP.assign rfl) ?_
      | refine OpJ.pure (OpP.move rfl) ?_
      | refine OpJ.pure (OpP.len rfl) ?_
      | refine OpJ.pure (OpP.len_string rfl) ?_
      | refine OpJ.pure (OpP.gtr rfl rfl) ?_
      | (refine OpJ.buildSlice rfl rfl (by exact rfl) (by exact rfl) rfl (fun _ => ?_); dsimp only [lsplice, take1, take2, take3, take4, drop1, drop2, drop3, drop4, List.take_zero, List.drop_zero, List.cons_append, List.nil_append, List.length_cons, List.length_nil, Nat.reduceAdd, fillL, sliceL, Value.cells, List.toList_toArray, List.append_nil, List.getElem?_cons_zero, get1, get2, get3, Option.getD_some])
      | refine OpJ.pure (OpP.add_in rfl rfl (by omega) (by omega)) ?_
      | refine OpJ.pure (OpP.cat rfl rfl (by omega)) ?_
      | refine OpJ.pure (OpP.add rfl rfl) ?_
      | refine OpJ.pure (OpP.eql rfl rfl) ?_
      | refine OpJ.pure (OpP.eql_string rfl rfl) ?_
      | refine OpJ.pure (OpP.eql_bool rfl rfl) ?_
      | refine OpJ.pure (OpP.eql_nil rfl rfl) ?_
      | refine OpJ.pure (OpP.eql_nil_slice rfl rfl) ?_
      | refine OpJ.pure (OpP.not rfl) ?_
      | refine OpJ.pure (OpP.pick_t rfl (by with_reducible assumption) rfl) ?_
      | refine OpJ.pure (OpP.pick_f rfl (by with_reducible assumption) rfl) ?_
      | refine OpJ.pure (OpP.pick_dt rfl (by omega) rfl) ?_
      | refine OpJ.pure (OpP.pick_df rfl (by omega) rfl) ?_
      | refine OpJ.pure (OpP.pick_t rfl rfl rfl) ?_
      | refine OpJ.pure (OpP.pick_f rfl rfl rfl) ?_
      | refine OpJ.pure (OpP.pick rfl rfl rfl) ?_)
    | refine OpsJ.nil ?_
    | refine CodeJ.cond_t rfl (by with_reducible assumption) ?_
    | refine CodeJ.cond_f rfl (by with_reducible assumption) ?_
    | refine CodeJ.cond_dt rfl (by omega) ?_
    | refine CodeJ.cond_df rfl (by omega) ?_
    | refine CodeJ.cond_t rfl rfl ?_
    | refine CodeJ.cond_f rfl rfl ?_)
  refine OpsJ.put (d := 47) rfl (OpJ.call (pass := []) rfl Split.nil (fun R' hle hin => rgood_nil R') ?_)
  rintro u D11 hs11 hd11 ⟨rfl, rfl⟩
  repeat (first
    | refine CodeJ.seq' ?_
    | refine CodeJ.region ?_
    | refine CodeJ.block ?_
    | refine CodeJ.skip ?_
    | refine CodeJ.exit rfl ?_
    | refine CodeJ.ret' ?_
    | (refine OpsJ.gsel rfl rfl rfl rfl ?_; first | refine GuardJ.yes (by with_reducible assumption) ?_ | refine GuardJ.no (by with_reducible assumption) ?_ | refine GuardJ.dt rfl (by omega) ?_ | refine GuardJ.nf rfl (by omega) ?_ | refine GuardJ.df rfl (by omega) ?_ | refine GuardJ.nt rfl (by omega) ?_ | refine GuardJ.yes rfl ?_ | refine GuardJ.no rfl ?_)
    | (refine OpsJ.gund rfl rfl rfl rfl ?_)
    | (refine OpsJ.put rfl ?_; first
      | refine OpJ.pure (OpP.assign rfl) ?_
      | refine OpJ.pure (OpP.move rfl) ?_
      | refine OpJ.pure (OpP.len rfl) ?_
      | refine OpJ.pure (OpP.len_string rfl) ?_
      | refine OpJ.pure (OpP.gtr rfl rfl) ?_
      | (refine OpJ.buildSlice rfl rfl (by exact rfl) (by exact rfl) rfl (fun _ => ?_); dsimp only [lsplice, take1, take2, take3, take4, drop1, drop2, drop3, drop4, List.take_zero, List.drop_zero, List.cons_append, List.nil_append, List.length_cons, List.length_nil, Nat.reduceAdd, fillL, sliceL, Value.cells, List.toList_toArray, List.append_nil, List.getElem?_cons_zero, get1, get2, get3, Option.getD_some])
      | refine OpJ.pure (OpP.add_in rfl rfl (by omega) (by omega)) ?_
      | refine OpJ.pure (OpP.cat rfl rfl (by omega)) ?_
      | refine OpJ.pure (OpP.add rfl rfl) ?_
      | refine OpJ.pure (OpP.eql rfl rfl) ?_
      | refine OpJ.pure (OpP.eql_string rfl rfl) ?_
      | refine OpJ.pure (OpP.eql_bool rfl rfl) ?_
      | refine OpJ.pure (OpP.eql_nil rfl rfl) ?_
      | refine OpJ.pure (OpP.eql_nil_slice rfl rfl) ?_
      | refine OpJ.pure (OpP.not rfl) ?_
      | refine OpJ.pure (OpP.pick_t rfl (by with_reducible assumption) rfl) ?_
      | refine OpJ.pure (OpP.pick_f rfl (by with_reducible assumption) rfl) ?_
      | refine OpJ.pure (OpP.pick_dt rfl (by omega) rfl) ?_
      | refine OpJ.pure (OpP.pick_df rfl (by omega) rfl) ?_
      | refine OpJ.pure (OpP.pick_t rfl rfl rfl) ?_
      | refine OpJ.pure (OpP.pick_f rfl rfl rfl) ?_
      | refine OpJ.pure (OpP.pick rfl rfl rfl) ?_)
    | refine OpsJ.nil ?_
    | refine CodeJ.cond_t rfl (by with_reducible assumption) ?_
    | refine CodeJ.cond_f rfl (by with_reducible assumption) ?_
    | refine CodeJ.cond_dt rfl (by omega) ?_
    | refine CodeJ.cond_df rfl (by omega) ?_
    | refine CodeJ.cond_t rfl rfl ?_
    | refine CodeJ.cond_f rfl rfl ?_)
  refine OpsJ.put (d := 52) rfl (OpJ.call (pass := []) rfl Split.nil (fun R' hle hin => rwhole_nil R') ?_)
  rintro u D12 hs12 hd12 ⟨rfl, rfl⟩
  repeat (first
    | refine CodeJ.seq' ?_
    | refine CodeJ.region ?_
    | refine CodeJ.block ?_
    | refine CodeJ.skip ?_
    | refine CodeJ.exit rfl ?_
    | refine CodeJ.ret' ?_
    | (refine OpsJ.gsel rfl rfl rfl rfl ?_; first | refine GuardJ.yes (by with_reducible assumption) ?_ | refine GuardJ.no (by with_reducible assumption) ?_ | refine GuardJ.dt rfl (by omega) ?_ | refine GuardJ.nf rfl (by omega) ?_ | refine GuardJ.df rfl (by omega) ?_ | refine GuardJ.nt rfl (by omega) ?_ | refine GuardJ.yes rfl ?_ | refine GuardJ.no rfl ?_)
    | (refine OpsJ.gund rfl rfl rfl rfl ?_)
    | (refine OpsJ.put rfl ?_; first
      | refine OpJ.pure (OpP.assign rfl) ?_
      | refine OpJ.pure (OpP.move rfl) ?_
      | refine OpJ.pure (OpP.len rfl) ?_
      | refine OpJ.pure (OpP.len_string rfl) ?_
      | refine OpJ.pure (OpP.gtr rfl rfl) ?_
      | (refine OpJ.buildSlice rfl rfl (by exact rfl) (by exact rfl) rfl (fun _ => ?_); dsimp only [lsplice, take1, take2, take3, take4, drop1, drop2, drop3, drop4, List.take_zero, List.drop_zero, List.cons_append, List.nil_append, List.length_cons, List.length_nil, Nat.reduceAdd, fillL, sliceL, Value.cells, List.toList_toArray, List.append_nil, List.getElem?_cons_zero, get1, get2, get3, Option.getD_some])
      | refine OpJ.pure (OpP.add_in rfl rfl (by omega) (by omega)) ?_
      | refine OpJ.pure (OpP.cat rfl rfl (by omega)) ?_
      | refine OpJ.pure (OpP.add rfl rfl) ?_
      | refine OpJ.pure (OpP.eql rfl rfl) ?_
      | refine OpJ.pure (OpP.eql_string rfl rfl) ?_
      | refine OpJ.pure (OpP.eql_bool rfl rfl) ?_
      | refine OpJ.pure (OpP.eql_nil rfl rfl) ?_
      | refine OpJ.pure (OpP.eql_nil_slice rfl rfl) ?_
      | refine OpJ.pure (OpP.not rfl) ?_
      | refine OpJ.pure (OpP.pick_t rfl (by with_reducible assumption) rfl) ?_
      | refine OpJ.pure (OpP.pick_f rfl (by with_reducible assumption) rfl) ?_
      | refine OpJ.pure (OpP.pick_dt rfl (by omega) rfl) ?_
      | refine OpJ.pure (OpP.pick_df rfl (by omega) rfl) ?_
      | refine OpJ.pure (OpP.pick_t rfl rfl rfl) ?_
      | refine OpJ.pure (OpP.pick_f rfl rfl rfl) ?_
      | refine OpJ.pure (OpP.pick rfl rfl rfl) ?_)
    | refine OpsJ.nil ?_
    | refine CodeJ.cond_t rfl (by with_reducible assumption) ?_
    | refine CodeJ.cond_f rfl (by with_reducible assumption) ?_
    | refine CodeJ.cond_dt rfl (by omega) ?_
    | refine CodeJ.cond_df rfl (by omega) ?_
    | refine CodeJ.cond_t rfl rfl ?_
    | refine CodeJ.cond_f rfl rfl ?_)
  refine OpsJ.put (d := 56) rfl (OpJ.call (pass := []) rfl Split.nil (fun R' hle hin => known_calls R') ?_)
  rintro u D13 hs13 hd13 ⟨rfl, rfl⟩
  repeat (first
    | refine CodeJ.seq' ?_
    | refine CodeJ.region ?_
    | refine CodeJ.block ?_
    | refine CodeJ.skip ?_
    | refine CodeJ.exit rfl ?_
    | refine CodeJ.ret' ?_
    | (refine OpsJ.gsel rfl rfl rfl rfl ?_; first | refine GuardJ.yes (by with_reducible assumption) ?_ | refine GuardJ.no (by with_reducible assumption) ?_ | refine GuardJ.dt rfl (by omega) ?_ | refine GuardJ.nf rfl (by omega) ?_ | refine GuardJ.df rfl (by omega) ?_ | refine GuardJ.nt rfl (by omega) ?_ | refine GuardJ.yes rfl ?_ | refine GuardJ.no rfl ?_)
    | (refine OpsJ.gund rfl rfl rfl rfl ?_)
    | (refine OpsJ.put rfl ?_; first
      | refine OpJ.pure (OpP.assign rfl) ?_
      | refine OpJ.pure (OpP.move rfl) ?_
      | refine OpJ.pure (OpP.len rfl) ?_
      | refine OpJ.pure (OpP.len_string rfl) ?_
      | refine OpJ.pure (OpP.gtr rfl rfl) ?_
      | (refine OpJ.buildSlice rfl rfl (by exact rfl) (by exact rfl) rfl (fun _ => ?_); dsimp only [lsplice, take1, take2, take3, take4, drop1, drop2, drop3, drop4, List.take_zero, List.drop_zero, List.cons_append, List.nil_append, List.length_cons, List.length_nil, Nat.reduceAdd, fillL, sliceL, Value.cells, List.toList_toArray, List.append_nil, List.getElem?_cons_zero, get1, get2, get3, Option.getD_some])
      | refine OpJ.pure (OpP.add_in rfl rfl (by omega) (by omega)) ?_
      | refine OpJ.pure (OpP.cat rfl rfl (by omega)) ?_
      | refine OpJ.pure (OpP.add rfl rfl) ?_
      | refine OpJ.pure (OpP.eql rfl rfl) ?_
      | refine OpJ.pure (OpP.eql_string rfl rfl) ?_
      | refine OpJ.pure (OpP.eql_bool rfl rfl) ?_
      | refine OpJ.pure (OpP.eql_nil rfl rfl) ?_
      | refine OpJ.pure (OpP.eql_nil_slice rfl rfl) ?_
      | refine OpJ.pure (OpP.not rfl) ?_
      | refine OpJ.pure (OpP.pick_t rfl (by with_reducible assumption) rfl) ?_
      | refine OpJ.pure (OpP.pick_f rfl (by with_reducible assumption) rfl) ?_
      | refine OpJ.pure (OpP.pick_dt rfl (by omega) rfl) ?_
      | refine OpJ.pure (OpP.pick_df rfl (by omega) rfl) ?_
      | refine OpJ.pure (OpP.pick_t rfl rfl rfl) ?_
      | refine OpJ.pure (OpP.pick_f rfl rfl rfl) ?_
      | refine OpJ.pure (OpP.pick rfl rfl rfl) ?_)
    | refine OpsJ.nil ?_
    | refine CodeJ.cond_t rfl (by with_reducible assumption) ?_
    | refine CodeJ.cond_f rfl (by with_reducible assumption) ?_
    | refine CodeJ.cond_dt rfl (by omega) ?_
    | refine CodeJ.cond_df rfl (by omega) ?_
    | refine CodeJ.cond_t rfl rfl ?_
    | refine CodeJ.cond_f rfl rfl ?_)
  exact Ret.mk0 rfl (ResJ.one Try.results10 rfl) (by repeat (first | exact IM.le_refl _ | assumption | refine IM.le_trans ?_ (IM.le_or _ _))) (by repeat (first | exact SubL.nil _ | refine SubL.p0 ?_ | refine SubL.p1 ?_ | refine SubL.p2 ?_ | refine SubL.p3 ?_ | refine SubL.p4 ?_ | refine SubL.p5 ?_ | refine SubL.p6 ?_ | refine SubL.p7 ?_))
theorem ofnothing_law (W : World) (v : Int) (w0 : (Lit.int .i64 v).wf = true) (a : Option Addr) (len cap : Nat) (z : List Int) (_ : z.length = len) (_ : len ≤ cap) (_ : RC (heapOf W) a (z.map (.int .u8))) (_ : ∀ x ∈ z, (Lit.int .u8 x).wf = true) :
    CallJ Try.prog 10 #[.int .i64 v, .slice a len cap] ⟨heapOf W, []⟩ (fun v _ _ => v = .bool true) := ofnothing_calls _ v a len cap
end Go.Proofs.Ytdicpnnmhjgnbaa.FW
