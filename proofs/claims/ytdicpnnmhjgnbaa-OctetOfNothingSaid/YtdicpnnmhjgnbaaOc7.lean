/- octet's Reader: rows. -/
import Derived.Test.YtdicpnnmhjgnbaaOc6
namespace Go.Proofs.Ytdicpnnmhjgnbaa.FW
open Go Go.RowKit Go.Proofs
set_option linter.unusedVariables false
set_option linter.unusedSimpArgs false
set_option maxRecDepth 100000
set_option maxHeartbeats 4000000
attribute [local irreducible] OpsJ CodeJ OpJ OpQ OpP QuietJ CallJ Src RC
theorem raw_calls (R0 R : IM) (hR0 : IM.le R0 R) (g : Nat) (bs : List UInt8) (bad : Bool) (n : Int) (hs : List Chunk) (h : ReaderC R0 g bs bad hs) (hb : bs.length ≤ 1000000000) :
    CallJ Try.prog 46 #[.pointer (some ⟨g, 0, none⟩), .int .i64 n] ⟨R, hs⟩ (fun v D hs' =>
      if n < 0 ∨ n > bs.length then v = .slice none 0 0 ∧ ∀ R1, ReaderC R1 g [] true hs'
      else ∃ A m c cs hr, v = .slice A m c ∧ m = n.toNat ∧ cs = bcells (bs.take n.toNat) ∧ hs' = .row 5 1 A m c cs :: hr ∧ ∀ R1, IM.le R0 R1 → ReaderC R1 g (bs.drop n.toNat) bad hr) := by
  obtain ⟨A, m, c, hm, hc, hA0, rfl⟩ := h
  have hA := hA0.mono hR0
  refine CallJ.of2 Try.func46 rfl Try.ntmps46 rfl (fun W0 => ?_)
  have bad_case : (n < 0 ∨ n > bs.length) → ∀ v : Unit, True := fun _ _ => trivial
  by_cases hn : n < 0
  · repeat (first
      | refine CodeJ.seq' ?_
      | refine CodeJ.region ?_
      | refine CodeJ.block ?_
      | refine CodeJ.skip ?_
      | refine CodeJ.exit rfl ?_
      | refine CodeJ.ret' ?_
      | (refine OpsJ.gsel rfl rfl rfl rfl ?_; first | refine GuardJ.yes (by with_reducible assumption) ?_ | refine GuardJ.no (by with_reducible assumption) ?_ | refine GuardJ.dt rfl (by omega) ?_ | refine GuardJ.nf rfl (by omega) ?_ | refine GuardJ.df rfl (by omega) ?_ | refine GuardJ.nt rfl (by omega) ?_ | refine GuardJ.yes rfl ?_ | refine GuardJ.no rfl ?_)
      | (refine OpsJ.gund rfl rfl rfl rfl ?_)
      | (refine OpsJ.put rfl ?_; first
        | refine OpJ.pure (OpP.assign rfl) ?_
        | refine OpJ.pure (OpP.move rfl) ?_
        | refine OpJ.pure (OpP.eql rfl rfl) ?_
        | refine OpJ.pure (OpP.eql_string rfl rfl) ?_
        | refine OpJ.pure (OpP.eql_bool rfl rfl) ?_
        | refine OpJ.pure (OpP.eql_nil rfl rfl) ?_
        | refine OpJ.pure (OpP.eql_nil_slice rfl rfl) ?_
        | refine OpJ.pure (OpP.lss rfl rfl) ?_
        | refine OpJ.pure (OpP.pick_t rfl (by with_reducible assumption) rfl) ?_
        | refine OpJ.pure (OpP.pick_f rfl (by with_reducible assumption) rfl) ?_
        | refine OpJ.pure (OpP.pick_dt rfl (by omega) rfl) ?_
        | refine OpJ.pure (OpP.pick_df rfl (by omega) rfl) ?_
        | refine OpJ.pure (OpP.pick_t rfl rfl rfl) ?_
        | refine OpJ.pure (OpP.pick_f rfl rfl rfl) ?_
        | refine OpJ.pure (OpP.pick rfl rfl rfl) ?_
        | refine OpJ.pure (OpP.nilCheck rfl) ?_
        | refine OpJ.pure (OpP.fldAddr_lit rfl (by exact rfl)) ?_
        | refine OpJ.pure (OpP.fldAddr rfl (by exact rfl)) ?_
        | refine OpJ.pure (OpP.load_blk (by exact rfl) rfl (by repeat (first | exact List.Mem.head _ | apply List.Mem.tail)) rfl) ?_
        | refine OpJ.pure (OpP.loadN_blk (by exact rfl) rfl (by repeat (first | exact List.Mem.head _ | apply List.Mem.tail)) (by exact rfl)) ?_
        | refine OpJ.pure (OpP.load1 (by exact rfl) rfl (Src.ofR (by with_reducible assumption)) rfl (by assumption)) ?_
        | refine OpJ.pure (OpP.load1 (by exact rfl) rfl (Src.ofRow (by repeat (first | exact List.Mem.head _ | apply List.Mem.tail))) rfl (by assumption)) ?_
        | refine OpJ.pure (OpP.len rfl) ?_
        | refine OpJ.pure (OpP.len_string rfl) ?_
        | refine OpJ.pure (OpP.gtr rfl rfl) ?_
        | refine OpJ.pure (OpP.slice_hi rfl rfl (by omega) (by omega)) ?_
        | refine OpJ.pure (OpP.slice_lo rfl rfl (by omega) (by omega)) ?_
        | refine OpJ.pure (OpP.slice_str_lo rfl rfl (by omega) (by omega)) ?_)
      | (refine OpsJ.act ?_; first
        | (refine OpJ.store rfl rfl rfl (by first | exact List.Perm.refl _ | exact List.Perm.swap _ _ _ | exact permm2 _ _ _ _ | exact permm3 _ _ _ _ _ | exact permm4 _ _ _ _ _ _ | exact permm5 _ _ _ _ _ _ _) (by exact rfl) (by exact rfl) (by exact rfl) ?_; dsimp only [lsplice, take1, take2, take3, take4, drop1, drop2, drop3, drop4, List.take_zero, List.drop_zero, List.cons_append, List.nil_append, List.length_cons, List.length_nil, Nat.reduceAdd, fillL, sliceL, Value.cells, List.toList_toArray, List.append_nil, List.getElem?_cons_zero, get1, get2, get3, Option.getD_some]))
      | refine OpsJ.nil ?_
      | refine CodeJ.cond_t rfl (by with_reducible assumption) ?_
      | refine CodeJ.cond_f rfl (by with_reducible assumption) ?_
      | refine CodeJ.cond_dt rfl (by omega) ?_
      | refine CodeJ.cond_df rfl (by omega) ?_
      | refine CodeJ.cond_t rfl rfl ?_
      | refine CodeJ.cond_f rfl rfl ?_)
    refine OpsJ.put (d := 22) rfl (OpJ.call rfl (Split.all _ _ : Split _ ([_] ++ []) []) (fun R' hle hin => bad_calls R' g bs bad _ ⟨A, m, c, hm, hc, hA.mono hle, rfl⟩) ?_)
    rintro v D hs1 hd1 ⟨rfl, hR1⟩
    repeat (first
      | refine CodeJ.seq' ?_
      | refine CodeJ.region ?_
      | refine CodeJ.block ?_
      | refine CodeJ.skip ?_
      | refine CodeJ.exit rfl ?_
      | refine CodeJ.ret' ?_
      | (refine OpsJ.gsel rfl rfl rfl rfl ?_; first | refine GuardJ.yes (by with_reducible assumption) ?_ | refine GuardJ.no (by with_reducible assumption) ?_ | refine GuardJ.dt rfl (by omega) ?_ | refine GuardJ.nf rfl (by omega) ?_ | refine GuardJ.df rfl (by omega) ?_ | refine GuardJ.nt rfl (by omega) ?_ | refine GuardJ.yes rfl ?_ | refine GuardJ.no rfl ?_)
      | (refine OpsJ.gund rfl rfl rfl rfl ?_)
      | (refine OpsJ.put rfl ?_; first
        | refine OpJ.pure (OpP.assign rfl) ?_
        | refine OpJ.pure (OpP.move rfl) ?_
        | refine OpJ.pure (OpP.eql rfl rfl) ?_
        | refine OpJ.pure (OpP.eql_string rfl rfl) ?_
        | refine OpJ.pure (OpP.eql_bool rfl rfl) ?_
        | refine OpJ.pure (OpP.eql_nil rfl rfl) ?_
        | refine OpJ.pure (OpP.eql_nil_slice rfl rfl) ?_
        | refine OpJ.pure (OpP.lss rfl rfl) ?_
        | refine OpJ.pure (OpP.pick_t rfl (by with_reducible assumption) rfl) ?_
        | refine OpJ.pure (OpP.pick_f rfl (by with_reducible assumption) rfl) ?_
        | refine OpJ.pure (OpP.pick_dt rfl (by omega) rfl) ?_
        | refine OpJ.pure (OpP.pick_df rfl (by omega) rfl) ?_
        | refine OpJ.pure (OpP.pick_t rfl rfl rfl) ?_
        | refine OpJ.pure (OpP.pick_f rfl rfl rfl) ?_
        | refine OpJ.pure (OpP.pick rfl rfl rfl) ?_
        | refine OpJ.pure (OpP.nilCheck rfl) ?_
        | refine OpJ.pure (OpP.fldAddr_lit rfl (by exact rfl)) ?_
        | refine OpJ.pure (OpP.fldAddr rfl (by exact rfl)) ?_
        | refine OpJ.pure (OpP.load_blk (by exact rfl) rfl (by repeat (first | exact List.Mem.head _ | apply List.Mem.tail)) rfl) ?_
        | refine OpJ.pure (OpP.loadN_blk (by exact rfl) rfl (by repeat (first | exact List.Mem.head _ | apply List.Mem.tail)) (by exact rfl)) ?_
        | refine OpJ.pure (OpP.load1 (by exact rfl) rfl (Src.ofR (by with_reducible assumption)) rfl (by assumption)) ?_
        | refine OpJ.pure (OpP.load1 (by exact rfl) rfl (Src.ofRow (by repeat (first | exact List.Mem.head _ | apply List.Mem.tail))) rfl (by assumption)) ?_
        | refine OpJ.pure (OpP.len rfl) ?_
        | refine OpJ.pure (OpP.len_string rfl) ?_
        | refine OpJ.pure (OpP.gtr rfl rfl) ?_
        | refine OpJ.pure (OpP.slice_hi rfl rfl (by omega) (by omega)) ?_
        | refine OpJ.pure (OpP.slice_lo rfl rfl (by omega) (by omega)) ?_
        | refine OpJ.pure (OpP.slice_str_lo rfl rfl (by omega) (by omega)) ?_)
      | (refine OpsJ.act ?_; first
        | (refine OpJ.store rfl rfl rfl (by first | exact List.Perm.refl _ | exact List.Perm.swap _ _ _ | exact permm2 _ _ _ _ | exact permm3 _ _ _ _ _ | exact permm4 _ _ _ _ _ _ | exact permm5 _ _ _ _ _ _ _) (by exact rfl) (by exact rfl) (by exact rfl) ?_; dsimp only [lsplice, take1, take2, take3, take4, drop1, drop2, drop3, drop4, List.take_zero, List.drop_zero, List.cons_append, List.nil_append, List.length_cons, List.length_nil, Nat.reduceAdd, fillL, sliceL, Value.cells, List.toList_toArray, List.append_nil, List.getElem?_cons_zero, get1, get2, get3, Option.getD_some]))
      | refine OpsJ.nil ?_
      | refine CodeJ.cond_t rfl (by with_reducible assumption) ?_
      | refine CodeJ.cond_f rfl (by with_reducible assumption) ?_
      | refine CodeJ.cond_dt rfl (by omega) ?_
      | refine CodeJ.cond_df rfl (by omega) ?_
      | refine CodeJ.cond_t rfl rfl ?_
      | refine CodeJ.cond_f rfl rfl ?_)
    refine Ret.mk0 (hs2 := hs1) ?_ (ResJ.one Try.results46 rfl) (by repeat (first | exact IM.le_refl _ | assumption | refine IM.le_trans ?_ (IM.le_or _ _))) (SubL.app _ _)
    rw [if_pos (Or.inl hn)]
    exact ⟨rfl, hR1⟩
  · by_cases hn2 : n > m
    · repeat (first
        | refine CodeJ.seq' ?_
        | refine CodeJ.region ?_
        | refine CodeJ.block ?_
        | refine CodeJ.skip ?_
        | refine CodeJ.exit rfl ?_
        | refine CodeJ.ret' ?_
        | (refine OpsJ.gsel rfl rfl rfl rfl ?_; first | refine GuardJ.yes (by with_reducible assumption) ?_ | refine GuardJ.no (by with_reducible assumption) ?_ | refine GuardJ.dt rfl (by omega) ?_ | refine GuardJ.nf rfl (by omega) ?_ | refine GuardJ.df rfl (by omega) ?_ | refine GuardJ.nt rfl (by omega) ?_ | refine GuardJ.yes rfl ?_ | refine GuardJ.no rfl ?_)
        | (refine OpsJ.gund rfl rfl rfl rfl ?_)
        | (refine OpsJ.put rfl ?_; first
          | refine OpJ.pure (OpP.assign rfl) ?_
          | refine OpJ.pure (OpP.move rfl) ?_
          | refine OpJ.pure (OpP.eql rfl rfl) ?_
          | refine OpJ.pure (OpP.eql_string rfl rfl) ?_
          | refine OpJ.pure (OpP.eql_bool rfl rfl) ?_
          | refine OpJ.pure (OpP.eql_nil rfl rfl) ?_
          | refine OpJ.pure (OpP.eql_nil_slice rfl rfl) ?_
          | refine OpJ.pure (OpP.lss rfl rfl) ?_
          | refine OpJ.pure (OpP.pick_t rfl (by with_reducible assumption) rfl) ?_
          | refine OpJ.pure (OpP.pick_f rfl (by with_reducible assumption) rfl) ?_
          | refine OpJ.pure (OpP.pick_dt rfl (by omega) rfl) ?_
          | refine OpJ.pure (OpP.pick_df rfl (by omega) rfl) ?_
          | refine OpJ.pure (OpP.pick_t rfl rfl rfl) ?_
          | refine OpJ.pure (OpP.pick_f rfl rfl rfl) ?_
          | refine OpJ.pure (OpP.pick rfl rfl rfl) ?_
          | refine OpJ.pure (OpP.nilCheck rfl) ?_
          | refine OpJ.pure (OpP.fldAddr_lit rfl (by exact rfl)) ?_
          | refine OpJ.pure (OpP.fldAddr rfl (by exact rfl)) ?_
          | refine OpJ.pure (OpP.load_blk (by exact rfl) rfl (by repeat (first | exact List.Mem.head _ | apply List.Mem.tail)) rfl) ?_
          | refine OpJ.pure (OpP.loadN_blk (by exact rfl) rfl (by repeat (first | exact List.Mem.head _ | apply List.Mem.tail)) (by exact rfl)) ?_
          | refine OpJ.pure (OpP.load1 (by exact rfl) rfl (Src.ofR (by with_reducible assumption)) rfl (by assumption)) ?_
          | refine OpJ.pure (OpP.load1 (by exact rfl) rfl (Src.ofRow (by repeat (first | exact List.Mem.head _ | apply List.Mem.tail))) rfl (by assumption)) ?_
          | refine OpJ.pure (OpP.len rfl) ?_
          | refine OpJ.pure (OpP.len_string rfl) ?_
          | refine OpJ.pure (OpP.gtr rfl rfl) ?_
          | refine OpJ.pure (OpP.slice_hi rfl rfl (by omega) (by omega)) ?_
          | refine OpJ.pure (OpP.slice_lo rfl rfl (by omega) (by omega)) ?_
          | refine OpJ.pure (OpP.slice_str_lo rfl rfl (by omega) (by omega)) ?_)
        | (refine OpsJ.act ?_; first
          | (refine OpJ.store rfl rfl rfl (by first | exact List.Perm.refl _ | exact List.Perm.swap _ _ _ | exact permm2 _ _ _ _ | exact permm3 _ _ _ _ _ | exact permm4 _ _ _ _ _ _ | exact permm5 _ _ _ _ _ _ _) (by exact rfl) (by exact rfl) (by exact rfl) ?_; dsimp only [lsplice, take1, take2, take3, take4, drop1, drop2, drop3, drop4, List.take_zero, List.drop_zero, List.cons_append, List.nil_append, List.length_cons, List.length_nil, Nat.reduceAdd, fillL, sliceL, Value.cells, List.toList_toArray, List.append_nil, List.getElem?_cons_zero, get1, get2, get3, Option.getD_some]))
        | refine OpsJ.nil ?_
        | refine CodeJ.cond_t rfl (by with_reducible assumption) ?_
        | refine CodeJ.cond_f rfl (by with_reducible assumption) ?_
        | refine CodeJ.cond_dt rfl (by omega) ?_
        | refine CodeJ.cond_df rfl (by omega) ?_
        | refine CodeJ.cond_t rfl rfl ?_
        | refine CodeJ.cond_f rfl rfl ?_)
      refine OpsJ.put (d := 22) rfl (OpJ.call rfl (Split.all _ _ : Split _ ([_] ++ []) []) (fun R' hle hin => bad_calls R' g bs bad _ ⟨A, m, c, hm, hc, hA.mono hle, rfl⟩) ?_)
      rintro v D hs1 hd1 ⟨rfl, hR1⟩
      repeat (first
        | refine CodeJ.seq' ?_
        | refine CodeJ.region ?_
        | refine CodeJ.block ?_
        | refine CodeJ.skip ?_
        | refine CodeJ.exit rfl ?_
        | refine CodeJ.ret' ?_
        | (refine OpsJ.gsel rfl rfl rfl rfl ?_; first | refine GuardJ.yes (by with_reducible assumption) ?_ | refine GuardJ.no (by with_reducible assumption) ?_ | refine GuardJ.dt rfl (by omega) ?_ | refine GuardJ.nf rfl (by omega) ?_ | refine GuardJ.df rfl (by omega) ?_ | refine GuardJ.nt rfl (by omega) ?_ | refine GuardJ.yes rfl ?_ | refine GuardJ.no rfl ?_)
        | (refine OpsJ.gund rfl rfl rfl rfl ?_)
        | (refine OpsJ.put rfl ?_; first
          | refine OpJ.pure (OpP.assign rfl) ?_
          | refine OpJ.pure (OpP.move rfl) ?_
          | refine OpJ.pure (OpP.eql rfl rfl) ?_
          | refine OpJ.pure (OpP.eql_string rfl rfl) ?_
          | refine OpJ.pure (OpP.eql_bool rfl rfl) ?_
          | refine OpJ.pure (OpP.eql_nil rfl rfl) ?_
          | refine OpJ.pure (OpP.eql_nil_slice rfl rfl) ?_
          | refine OpJ.pure (OpP.lss rfl rfl) ?_
          | refine OpJ.pure (OpP.pick_t rfl (by with_reducible assumption) rfl) ?_
          | refine OpJ.pure (OpP.pick_f rfl (by with_reducible assumption) rfl) ?_
          | refine OpJ.pure (OpP.pick_dt rfl (by omega) rfl) ?_
          | refine OpJ.pure (OpP.pick_df rfl (by omega) rfl) ?_
          | refine OpJ.pure (OpP.pick_t rfl rfl rfl) ?_
          | refine OpJ.pure (OpP.pick_f rfl rfl rfl) ?_
          | refine OpJ.pure (OpP.pick rfl rfl rfl) ?_
          | refine OpJ.pure (OpP.nilCheck rfl) ?_
          | refine OpJ.pure (OpP.fldAddr_lit rfl (by exact rfl)) ?_
          | refine OpJ.pure (OpP.fldAddr rfl (by exact rfl)) ?_
          | refine OpJ.pure (OpP.load_blk (by exact rfl) rfl (by repeat (first | exact List.Mem.head _ | apply List.Mem.tail)) rfl) ?_
          | refine OpJ.pure (OpP.loadN_blk (by exact rfl) rfl (by repeat (first | exact List.Mem.head _ | apply List.Mem.tail)) (by exact rfl)) ?_
          | refine OpJ.pure (OpP.load1 (by exact rfl) rfl (Src.ofR (by with_reducible assumption)) rfl (by assumption)) ?_
          | refine OpJ.pure (OpP.load1 (by exact rfl) rfl (Src.ofRow (by repeat (first | exact List.Mem.head _ | apply List.Mem.tail))) rfl (by assumption)) ?_
          | refine OpJ.pure (OpP.len rfl) ?_
          | refine OpJ.pure (OpP.len_string rfl) ?_
          | refine OpJ.pure (OpP.gtr rfl rfl) ?_
          | refine OpJ.pure (OpP.slice_hi rfl rfl (by omega) (by omega)) ?_
          | refine OpJ.pure (OpP.slice_lo rfl rfl (by omega) (by omega)) ?_
          | refine OpJ.pure (OpP.slice_str_lo rfl rfl (by omega) (by omega)) ?_)
        | (refine OpsJ.act ?_; first
          | (refine OpJ.store rfl rfl rfl (by first | exact List.Perm.refl _ | exact List.Perm.swap _ _ _ | exact permm2 _ _ _ _ | exact permm3 _ _ _ _ _ | exact permm4 _ _ _ _ _ _ | exact permm5 _ _ _ _ _ _ _) (by exact rfl) (by exact rfl) (by exact rfl) ?_; dsimp only [lsplice, take1, take2, take3, take4, drop1, drop2, drop3, drop4, List.take_zero, List.drop_zero, List.cons_append, List.nil_append, List.length_cons, List.length_nil, Nat.reduceAdd, fillL, sliceL, Value.cells, List.toList_toArray, List.append_nil, List.getElem?_cons_zero, get1, get2, get3, Option.getD_some]))
        | refine OpsJ.nil ?_
        | refine CodeJ.cond_t rfl (by with_reducible assumption) ?_
        | refine CodeJ.cond_f rfl (by with_reducible assumption) ?_
        | refine CodeJ.cond_dt rfl (by omega) ?_
        | refine CodeJ.cond_df rfl (by omega) ?_
        | refine CodeJ.cond_t rfl rfl ?_
        | refine CodeJ.cond_f rfl rfl ?_)
      refine Ret.mk0 (hs2 := hs1) ?_ (ResJ.one Try.results46 rfl) (by repeat (first | exact IM.le_refl _ | assumption | refine IM.le_trans ?_ (IM.le_or _ _))) (SubL.app _ _)
      rw [if_pos (Or.inr (by omega))]
      exact ⟨rfl, hR1⟩
    · repeat (first
        | refine CodeJ.seq' ?_
        | refine CodeJ.region ?_
        | refine CodeJ.block ?_
        | refine CodeJ.skip ?_
        | refine CodeJ.exit rfl ?_
        | refine CodeJ.ret' ?_
        | (refine OpsJ.gsel rfl rfl rfl rfl ?_; first | refine GuardJ.yes (by with_reducible assumption) ?_ | refine GuardJ.no (by with_reducible assumption) ?_ | refine GuardJ.dt rfl (by omega) ?_ | refine GuardJ.nf rfl (by omega) ?_ | refine GuardJ.df rfl (by omega) ?_ | refine GuardJ.nt rfl (by omega) ?_ | refine GuardJ.yes rfl ?_ | refine GuardJ.no rfl ?_)
        | (refine OpsJ.gund rfl rfl rfl rfl ?_)
        | (refine OpsJ.put rfl ?_; first
          | refine OpJ.pure (OpP.assign rfl) ?_
          | refine OpJ.pure (OpP.move rfl) ?_
          | refine OpJ.pure (OpP.eql rfl rfl) ?_
          | refine OpJ.pure (OpP.eql_string rfl rfl) ?_
          | refine OpJ.pure (OpP.eql_bool rfl rfl) ?_
          | refine OpJ.pure (OpP.eql_nil rfl rfl) ?_
          | refine OpJ.pure (OpP.eql_nil_slice rfl rfl) ?_
          | refine OpJ.pure (OpP.lss rfl rfl) ?_
          | refine OpJ.pure (OpP.pick_t rfl (by with_reducible assumption) rfl) ?_
          | refine OpJ.pure (OpP.pick_f rfl (by with_reducible assumption) rfl) ?_
          | refine OpJ.pure (OpP.pick_dt rfl (by omega) rfl) ?_
          | refine OpJ.pure (OpP.pick_df rfl (by omega) rfl) ?_
          | refine OpJ.pure (OpP.pick_t rfl rfl rfl) ?_
          | refine OpJ.pure (OpP.pick_f rfl rfl rfl) ?_
          | refine OpJ.pure (OpP.pick rfl rfl rfl) ?_
          | refine OpJ.pure (OpP.nilCheck rfl) ?_
          | refine OpJ.pure (OpP.fldAddr_lit rfl (by exact rfl)) ?_
          | refine OpJ.pure (OpP.fldAddr rfl (by exact rfl)) ?_
          | refine OpJ.pure (OpP.load_blk (by exact rfl) rfl (by repeat (first | exact List.Mem.head _ | apply List.Mem.tail)) rfl) ?_
          | refine OpJ.pure (OpP.loadN_blk (by exact rfl) rfl (by repeat (first | exact List.Mem.head _ | apply List.Mem.tail)) (by exact rfl)) ?_
          | refine OpJ.pure (OpP.load1 (by exact rfl) rfl (Src.ofR (by with_reducible assumption)) rfl (by assumption)) ?_
          | refine OpJ.pure (OpP.load1 (by exact rfl) rfl (Src.ofRow (by repeat (first | exact List.Mem.head _ | apply List.Mem.tail))) rfl (by assumption)) ?_
          | refine OpJ.pure (OpP.len rfl) ?_
          | refine OpJ.pure (OpP.len_string rfl) ?_
          | refine OpJ.pure (OpP.gtr rfl rfl) ?_
          | refine OpJ.pure (OpP.slice_hi rfl rfl (by omega) (by omega)) ?_
          | refine OpJ.pure (OpP.slice_lo rfl rfl (by omega) (by omega)) ?_
          | refine OpJ.pure (OpP.slice_str_lo rfl rfl (by omega) (by omega)) ?_)
        | (refine OpsJ.act ?_; first
          | (refine OpJ.store rfl rfl rfl (by first | exact List.Perm.refl _ | exact List.Perm.swap _ _ _ | exact permm2 _ _ _ _ | exact permm3 _ _ _ _ _ | exact permm4 _ _ _ _ _ _ | exact permm5 _ _ _ _ _ _ _) (by exact rfl) (by exact rfl) (by exact rfl) ?_; dsimp only [lsplice, take1, take2, take3, take4, drop1, drop2, drop3, drop4, List.take_zero, List.drop_zero, List.cons_append, List.nil_append, List.length_cons, List.length_nil, Nat.reduceAdd, fillL, sliceL, Value.cells, List.toList_toArray, List.append_nil, List.getElem?_cons_zero, get1, get2, get3, Option.getD_some]))
        | refine OpsJ.nil ?_
        | refine CodeJ.cond_t rfl (by with_reducible assumption) ?_
        | refine CodeJ.cond_f rfl (by with_reducible assumption) ?_
        | refine CodeJ.cond_dt rfl (by omega) ?_
        | refine CodeJ.cond_df rfl (by omega) ?_
        | refine CodeJ.cond_t rfl rfl ?_
        | refine CodeJ.cond_f rfl rfl ?_)
      refine OpsJ.put (d := 29) rfl (OpJ.call (pass := []) rfl Split.nil (fun R' hle hin => clone_calls R' _ _ _ (bs.take n.toNat) (by rw [bcells_take]; exact (hA.mono hle).take _) (by rw [List.length_take]; omega) (by rw [List.length_take]; omega)) ?_)
      rintro v D hs1 hd1 ⟨A2, m2, c2, cs2, rfl, hm2, hcs2, rfl⟩
      repeat (first
        | refine CodeJ.seq' ?_
        | refine CodeJ.region ?_
        | refine CodeJ.block ?_
        | refine CodeJ.skip ?_
        | refine CodeJ.exit rfl ?_
        | refine CodeJ.ret' ?_
        | (refine OpsJ.gsel rfl rfl rfl rfl ?_; first | refine GuardJ.yes (by with_reducible assumption) ?_ | refine GuardJ.no (by with_reducible assumption) ?_ | refine GuardJ.dt rfl (by omega) ?_ | refine GuardJ.nf rfl (by omega) ?_ | refine GuardJ.df rfl (by omega) ?_ | refine GuardJ.nt rfl (by omega) ?_ | refine GuardJ.yes rfl ?_ | refine GuardJ.no rfl ?_)
        | (refine OpsJ.gund rfl rfl rfl rfl ?_)
        | (refine OpsJ.put rfl ?_; first
          | refine OpJ.pure (OpP.assign rfl) ?_
          | refine OpJ.pure (OpP.move rfl) ?_
          | refine OpJ.pure (OpP.eql rfl rfl) ?_
          | refine OpJ.pure (OpP.eql_string rfl rfl) ?_
          | refine OpJ.pure (OpP.eql_bool rfl rfl) ?_
          | refine OpJ.pure (OpP.eql_nil rfl rfl) ?_
          | refine OpJ.pure (OpP.eql_nil_slice rfl rfl) ?_
          | refine OpJ.pure (OpP.lss rfl rfl) ?_
          | refine OpJ.pure (OpP.pick_t rfl (by with_reducible assumption) rfl) ?_
          | refine OpJ.pure (OpP.pick_f rfl (by with_reducible assumption) rfl) ?_
          | refine OpJ.pure (OpP.pick_dt rfl (by omega) rfl) ?_
          | refine OpJ.pure (OpP.pick_df rfl (by omega) rfl) ?_
          | refine OpJ.pure (OpP.pick_t rfl rfl rfl) ?_
          | refine OpJ.pure (OpP.pick_f rfl rfl rfl) ?_
          | refine OpJ.pure (OpP.pick rfl rfl rfl) ?_
          | refine OpJ.pure (OpP.nilCheck rfl) ?_
          | refine OpJ.pure (OpP.fldAddr_lit rfl (by exact rfl)) ?_
          | refine OpJ.pure (OpP.fldAddr rfl (by exact rfl)) ?_
          | refine OpJ.pure (OpP.load_blk (by exact rfl) rfl (by repeat (first | exact List.Mem.head _ | apply List.Mem.tail)) rfl) ?_
          | refine OpJ.pure (OpP.loadN_blk (by exact rfl) rfl (by repeat (first | exact List.Mem.head _ | apply List.Mem.tail)) (by exact rfl)) ?_
          | refine OpJ.pure (OpP.load1 (by exact rfl) rfl (Src.ofR (by with_reducible assumption)) rfl (by assumption)) ?_
          | refine OpJ.pure (OpP.load1 (by exact rfl) rfl (Src.ofRow (by repeat (first | exact List.Mem.head _ | apply List.Mem.tail))) rfl (by assumption)) ?_
          | refine OpJ.pure (OpP.len rfl) ?_
          | refine OpJ.pure (OpP.len_string rfl) ?_
          | refine OpJ.pure (OpP.gtr rfl rfl) ?_
          | refine OpJ.pure (OpP.slice_hi rfl rfl (by omega) (by omega)) ?_
          | refine OpJ.pure (OpP.slice_lo rfl rfl (by omega) (by omega)) ?_
          | refine OpJ.pure (OpP.slice_str_lo rfl rfl (by omega) (by omega)) ?_)
        | (refine OpsJ.act ?_; first
          | (refine OpJ.store rfl rfl rfl (by first | exact List.Perm.refl _ | exact List.Perm.swap _ _ _ | exact permm2 _ _ _ _ | exact permm3 _ _ _ _ _ | exact permm4 _ _ _ _ _ _ | exact permm5 _ _ _ _ _ _ _) (by exact rfl) (by exact rfl) (by exact rfl) ?_; dsimp only [lsplice, take1, take2, take3, take4, drop1, drop2, drop3, drop4, List.take_zero, List.drop_zero, List.cons_append, List.nil_append, List.length_cons, List.length_nil, Nat.reduceAdd, fillL, sliceL, Value.cells, List.toList_toArray, List.append_nil, List.getElem?_cons_zero, get1, get2, get3, Option.getD_some]))
        | refine OpsJ.nil ?_
        | refine CodeJ.cond_t rfl (by with_reducible assumption) ?_
        | refine CodeJ.cond_f rfl (by with_reducible assumption) ?_
        | refine CodeJ.cond_dt rfl (by omega) ?_
        | refine CodeJ.cond_df rfl (by omega) ?_
        | refine CodeJ.cond_t rfl rfl ?_
        | refine CodeJ.cond_f rfl rfl ?_)
      rw [List.length_take] at hm2
      refine Ret.mk0 (hs2 := [.row 5 1 A2 m2 c2 cs2, .blk g [.slice (cutA A n.toNat c 1) (m - n.toNat) (c - n.toNat), .bool bad] 75]) ?_ (ResJ.one Try.results46 rfl) (by repeat (first | exact IM.le_refl _ | assumption | refine IM.le_trans ?_ (IM.le_or _ _))) (by repeat (first | exact SubL.nil _ | refine SubL.p0 ?_ | refine SubL.p1 ?_ | refine SubL.p2 ?_ | refine SubL.p3 ?_ | refine SubL.p4 ?_ | refine SubL.p5 ?_ | refine SubL.p6 ?_ | refine SubL.p7 ?_))
      rw [if_neg (by omega)]
      refine ⟨A2, m2, c2, cs2, _, rfl, by omega, hcs2, rfl, fun R1 hR1 => ⟨_, _, _, ?_, ?_, ?_, rfl⟩⟩
      · rw [List.length_drop, hm]
      · omega
      · rw [bcells_drop]
        have h1 := (hA0.mono hR1).cut n.toNat c 1 (by rw [bcells_length]; omega) (fun h => by rw [List.drop_eq_nil_iff, bcells_length]; omega)
        rwa [Nat.mul_one] at h1
/-- A row out of bytes. -/
def decRow (l : List UInt8) : Option (List UInt8 × List UInt8) := match dec l with
  | none => none
  | some (u, r) => if u > r.length then none else some (r.take u, r.drop u)
theorem decGo_bound : ∀ (l : List UInt8) (i u : Nat) (v : Nat) (r : List UInt8), decGo i u l = some (v, r) → v ≤ 4611686018427387904 ∧ r.length < l.length
  | [], _, _, _, _, h => by simp [decGo] at h
  | c :: l, i, u, v, r, h => by
    rw [decGo] at h
    split at h
    · cases h
    · split at h
      · split at h
        · cases h
        · simp only [Option.some.injEq, Prod.mk.injEq] at h
          obtain ⟨rfl, rfl⟩ := h
          exact ⟨by omega, by simp⟩
      · have := decGo_bound l _ _ v r h
        exact ⟨this.1, by simp; omega⟩
theorem rbytes_calls (R0 R : IM) (hR0 : IM.le R0 R) (g : Nat) (bs : List UInt8) (bad : Bool) (hs : List Chunk) (h : ReaderC R0 g bs bad hs) (hb : bs.length ≤ 1000000000) :
    CallJ Try.prog 44 #[.pointer (some ⟨g, 0, none⟩)] ⟨R, hs⟩ (fun v D hs' => match dec bs with
      | none => ∃ A m c cs hr, v = .slice A m c ∧ m = 0 ∧ cs = [] ∧ hs' = .row 5 1 A m c cs :: hr ∧ ∀ R1, ReaderC R1 g [] true hr
      | some (u, r) => if u > r.length then v = .slice none 0 0 ∧ ∀ R1, ReaderC R1 g [] true hs'
        else ∃ A m c cs hr, v = .slice A m c ∧ m = u ∧ cs = bcells (r.take u) ∧ hs' = .row 5 1 A m c cs :: hr ∧ ∀ R1, IM.le R0 R1 → ReaderC R1 g (r.drop u) bad hr) := by
  refine CallJ.of1 Try.func44 rfl Try.ntmps44 rfl (fun W0 => ?_)
  repeat (first
    | refine CodeJ.seq' ?_
    | refine CodeJ.region ?_
    | refine CodeJ.block ?_
    | refine CodeJ.skip ?_
    | refine CodeJ.exit rfl ?_
    | refine CodeJ.ret' ?_
    | (refine OpsJ.put rfl ?_; first
      | refine OpJ.pure (OpP.assign rfl) ?_
      | refine OpJ.pure (OpP.move rfl) ?_)
    | refine OpsJ.nil ?_
    | refine CodeJ.cond_t rfl (by with_reducible assumption) ?_
    | refine CodeJ.cond_f rfl (by with_reducible assumption) ?_
    | refine CodeJ.cond_dt rfl (by omega) ?_
    | refine CodeJ.cond_df rfl (by omega) ?_
    | refine CodeJ.cond_t rfl rfl ?_
    | refine CodeJ.cond_f rfl rfl ?_)
  refine OpsJ.put (d := 5) rfl (OpJ.call (keep := []) rfl (by rw [Split, List.append_nil] : Split hs hs []) (fun R' hle hin => num_calls R0 R' (IM.le_trans hR0 hle) g bs bad hs h hb) ?_)
  intro v D hs1 hd hpost
  cases hdec : dec bs with
  | none =>
    rw [hdec] at hpost
    obtain ⟨rfl, hR1⟩ := hpost
    refine OpsJ.put (d := 6) rfl (OpJ.call (keep := []) rfl (Split.all _ _) (fun R' hle hin => raw_calls R0 R' (IM.le_trans hR0 (IM.le_trans (IM.le_or R D) hle)) g [] true 0 hs1 (hR1 R0) (by simp)) ?_)
    intro v D2 hs2 hd2 hpost
    rw [if_neg (by simp)] at hpost
    obtain ⟨A, m, c, cs, hr, rfl, hm, hcs, rfl, hR2⟩ := hpost
    repeat (first
      | refine CodeJ.seq' ?_
      | refine CodeJ.region ?_
      | refine CodeJ.block ?_
      | refine CodeJ.skip ?_
      | refine CodeJ.exit rfl ?_
      | refine CodeJ.ret' ?_
      | (refine OpsJ.put rfl ?_; first
        | refine OpJ.pure (OpP.assign rfl) ?_
        | refine OpJ.pure (OpP.move rfl) ?_)
      | refine OpsJ.nil ?_
      | refine CodeJ.cond_t rfl (by with_reducible assumption) ?_
      | refine CodeJ.cond_f rfl (by with_reducible assumption) ?_
      | refine CodeJ.cond_dt rfl (by omega) ?_
      | refine CodeJ.cond_df rfl (by omega) ?_
      | refine CodeJ.cond_t rfl rfl ?_
      | refine CodeJ.cond_f rfl rfl ?_)
    refine Ret.mk0 (hs2 := .row 5 1 A m c cs :: hr) ⟨A, m, c, cs, hr, rfl, by simpa using hm, by simpa [bcells] using hcs, rfl, fun R1 => ?_⟩ (ResJ.one Try.results44 rfl) (by repeat (first | exact IM.le_refl _ | assumption | refine IM.le_trans ?_ (IM.le_or _ _))) (SubL.app _ _)
    obtain ⟨A', m', c', h1, h2, h3, h4⟩ := hR2 R0 (IM.le_refl _)
    exact ⟨A', m', c', by simpa using h1, h2, RC.nil _ _, h4⟩
  | some p =>
    obtain ⟨u, r⟩ := p
    rw [hdec] at hpost
    obtain ⟨rfl, hR1⟩ := hpost
    have hbd := decGo_bound bs 0 0 u r hdec
    refine OpsJ.put (d := 6) rfl (OpJ.call (keep := []) rfl (Split.all _ _) (fun R' hle hin => raw_calls R0 R' (IM.le_trans hR0 (IM.le_trans (IM.le_or R D) hle)) g r bad u hs1 (hR1 R0 (IM.le_refl _)) (by omega)) ?_)
    intro v D2 hs2 hd2 hpost
    by_cases hu : u > r.length
    · rw [if_pos (Or.inr (by omega))] at hpost
      obtain ⟨rfl, hR2⟩ := hpost
      repeat (first
        | refine CodeJ.seq' ?_
        | refine CodeJ.region ?_
        | refine CodeJ.block ?_
        | refine CodeJ.skip ?_
        | refine CodeJ.exit rfl ?_
        | refine CodeJ.ret' ?_
        | (refine OpsJ.put rfl ?_; first
          | refine OpJ.pure (OpP.assign rfl) ?_
          | refine OpJ.pure (OpP.move rfl) ?_)
        | refine OpsJ.nil ?_
        | refine CodeJ.cond_t rfl (by with_reducible assumption) ?_
        | refine CodeJ.cond_f rfl (by with_reducible assumption) ?_
        | refine CodeJ.cond_dt rfl (by omega) ?_
        | refine CodeJ.cond_df rfl (by omega) ?_
        | refine CodeJ.cond_t rfl rfl ?_
        | refine CodeJ.cond_f rfl rfl ?_)
      refine Ret.mk0 (hs2 := hs2) ?_ (ResJ.one Try.results44 rfl) (by repeat (first | exact IM.le_refl _ | assumption | refine IM.le_trans ?_ (IM.le_or _ _))) (SubL.app _ _)
      dsimp only
      rw [if_pos hu]
      exact ⟨rfl, hR2⟩
    · rw [if_neg (by omega)] at hpost
      obtain ⟨A, m, c, cs, hr, rfl, hm, hcs, rfl, hR2⟩ := hpost
      repeat (first
        | refine CodeJ.seq' ?_
        | refine CodeJ.region ?_
        | refine CodeJ.block ?_
        | refine CodeJ.skip ?_
        | refine CodeJ.exit rfl ?_
        | refine CodeJ.ret' ?_
        | (refine OpsJ.put rfl ?_; first
          | refine OpJ.pure (OpP.assign rfl) ?_
          | refine OpJ.pure (OpP.move rfl) ?_)
        | refine OpsJ.nil ?_
        | refine CodeJ.cond_t rfl (by with_reducible assumption) ?_
        | refine CodeJ.cond_f rfl (by with_reducible assumption) ?_
        | refine CodeJ.cond_dt rfl (by omega) ?_
        | refine CodeJ.cond_df rfl (by omega) ?_
        | refine CodeJ.cond_t rfl rfl ?_
        | refine CodeJ.cond_f rfl rfl ?_)
      refine Ret.mk0 (hs2 := .row 5 1 A m c cs :: hr) ?_ (ResJ.one Try.results44 rfl) (by repeat (first | exact IM.le_refl _ | assumption | refine IM.le_trans ?_ (IM.le_or _ _))) (SubL.app _ _)
      dsimp only
      rw [if_neg hu]
      exact ⟨A, m, c, cs, hr, rfl, by simpa using hm, by simpa using hcs, rfl, fun R1 hR => by simpa using hR2 R1 hR⟩
end Go.Proofs.Ytdicpnnmhjgnbaa.FW
