/- octet's laws: rows that are the same; what is known. -/
import Derived.Test.YtdicpnnmhjgnbaaOc3
namespace Go.Proofs.Ytdicpnnmhjgnbaa.FW
open Go Go.RowKit Go.Proofs
set_option linter.unusedVariables false
set_option linter.unusedSimpArgs false
set_option maxRecDepth 100000
set_option maxHeartbeats 4000000
attribute [local irreducible] OpsJ CodeJ OpJ OpQ OpP QuietJ CallJ Src RC
theorem same_calls (R : IM) (A B : Option Addr) (m m' c c' : Nat) (a b : List UInt8) (hA : RC R A (bcells a)) (hB : RC R B (bcells b)) (hm : m = a.length) (hm' : m' = b.length) (ha : a.length ≤ 1000000000) (hb : b.length ≤ 1000000000) :
    CallJ Try.prog 19 #[.slice A m c, .slice B m' c'] ⟨R, []⟩ (fun v D hs' => v = .bool (decide (a = b)) ∧ hs' = []) := by
  refine CallJ.of2 Try.func19 rfl Try.ntmps19 rfl (fun W0 => ?_)
  repeat (first
    | refine CodeJ.seq' ?_
    | refine CodeJ.region ?_
    | refine CodeJ.block ?_
    | refine CodeJ.skip ?_
    | refine CodeJ.exit rfl ?_
    | refine CodeJ.ret' ?_
    | (refine OpsJ.put rfl ?_; first
      | refine OpJ.pure (OpP.assign rfl) ?_
      | refine OpJ.pure (OpP.move rfl) ?_
      | refine OpJ.pure (OpP.len rfl) ?_
      | refine OpJ.pure (OpP.len_string rfl) ?_
      | refine OpJ.pure (OpP.neq rfl rfl) ?_
      | refine OpJ.pure (OpP.neq_string rfl rfl) ?_
      | refine OpJ.pure (OpP.neq_bool rfl rfl) ?_
      | refine OpJ.pure (OpP.neq_nil rfl rfl) ?_
      | refine OpJ.pure (OpP.neq_nil_slice rfl rfl) ?_
      | refine OpJ.pure (OpP.lss rfl rfl) ?_
      | refine OpJ.pure (OpP.add_in rfl rfl (by omega) (by omega)) ?_
      | refine OpJ.pure (OpP.cat rfl rfl (by omega)) ?_
      | refine OpJ.pure (OpP.add rfl rfl) ?_)
    | (refine QuietJ.put rfl ?_; first
      | refine OpQ.pure (OpP.move rfl) ?_
      | refine OpQ.pure (OpP.idx1 rfl rfl (by omega) (by omega) (Src.ofR (by with_reducible assumption)) (ne_get (by assumption))) ?_
      | refine OpQ.pure (OpP.idx1 rfl rfl (by omega) (by omega) (Src.ofRow (by repeat (first | exact List.Mem.head _ | apply List.Mem.tail))) (ne_get (by assumption))) ?_
      | refine OpQ.pure (OpP.load_blk (by exact rfl) rfl (by repeat (first | exact List.Mem.head _ | apply List.Mem.tail)) rfl) ?_
      | refine OpQ.pure (OpP.loadN_blk (by exact rfl) rfl (by repeat (first | exact List.Mem.head _ | apply List.Mem.tail)) (by exact rfl)) ?_
      | refine OpQ.pure (OpP.load1 (by exact rfl) rfl (Src.ofR (by with_reducible assumption)) rfl (by assumption)) ?_
      | refine OpQ.pure (OpP.load1 (by exact rfl) rfl (Src.ofRow (by repeat (first | exact List.Mem.head _ | apply List.Mem.tail))) rfl (by assumption)) ?_
      | refine OpQ.pure (OpP.neq rfl rfl) ?_
      | refine OpQ.pure (OpP.neq_string rfl rfl) ?_
      | refine OpQ.pure (OpP.neq_bool rfl rfl) ?_
      | refine OpQ.pure (OpP.neq_nil rfl rfl) ?_
      | refine OpQ.pure (OpP.neq_nil_slice rfl rfl) ?_)
    | refine OpsJ.nil ?_
    | refine QuietJ.nil ?_
    | refine CodeJ.drawn (by kernel_rfl) (by kernel_rfl) ?_
    | refine CodeJ.cond_t rfl (by with_reducible assumption) ?_
    | refine CodeJ.cond_f rfl (by with_reducible assumption) ?_
    | refine CodeJ.cond_dt rfl (by omega) ?_
    | refine CodeJ.cond_df rfl (by omega) ?_
    | refine CodeJ.cond_t rfl rfl ?_
    | refine CodeJ.cond_f rfl rfl ?_)
  refine CodeJ.cond_d rfl (fun hc => ?_) (fun hc => ?_)
  · repeat (first
      | refine CodeJ.seq' ?_
      | refine CodeJ.region ?_
      | refine CodeJ.block ?_
      | refine CodeJ.skip ?_
      | refine CodeJ.exit rfl ?_
      | refine CodeJ.ret' ?_
      | (refine OpsJ.put rfl ?_; first
        | refine OpJ.pure (OpP.assign rfl) ?_
        | refine OpJ.pure (OpP.move rfl) ?_
        | refine OpJ.pure (OpP.len rfl) ?_
        | refine OpJ.pure (OpP.len_string rfl) ?_
        | refine OpJ.pure (OpP.neq rfl rfl) ?_
        | refine OpJ.pure (OpP.neq_string rfl rfl) ?_
        | refine OpJ.pure (OpP.neq_bool rfl rfl) ?_
        | refine OpJ.pure (OpP.neq_nil rfl rfl) ?_
        | refine OpJ.pure (OpP.neq_nil_slice rfl rfl) ?_
        | refine OpJ.pure (OpP.lss rfl rfl) ?_
        | refine OpJ.pure (OpP.add_in rfl rfl (by omega) (by omega)) ?_
        | refine OpJ.pure (OpP.cat rfl rfl (by omega)) ?_
        | refine OpJ.pure (OpP.add rfl rfl) ?_)
      | (refine QuietJ.put rfl ?_; first
        | refine OpQ.pure (OpP.move rfl) ?_
        | refine OpQ.pure (OpP.idx1 rfl rfl (by omega) (by omega) (Src.ofR (by with_reducible assumption)) (ne_get (by assumption))) ?_
        | refine OpQ.pure (OpP.idx1 rfl rfl (by omega) (by omega) (Src.ofRow (by repeat (first | exact List.Mem.head _ | apply List.Mem.tail))) (ne_get (by assumption))) ?_
        | refine OpQ.pure (OpP.load_blk (by exact rfl) rfl (by repeat (first | exact List.Mem.head _ | apply List.Mem.tail)) rfl) ?_
        | refine OpQ.pure (OpP.loadN_blk (by exact rfl) rfl (by repeat (first | exact List.Mem.head _ | apply List.Mem.tail)) (by exact rfl)) ?_
        | refine OpQ.pure (OpP.load1 (by exact rfl) rfl (Src.ofR (by with_reducible assumption)) rfl (by assumption)) ?_
        | refine OpQ.pure (OpP.load1 (by exact rfl) rfl (Src.ofRow (by repeat (first | exact List.Mem.head _ | apply List.Mem.tail))) rfl (by assumption)) ?_
        | refine OpQ.pure (OpP.neq rfl rfl) ?_
        | refine OpQ.pure (OpP.neq_string rfl rfl) ?_
        | refine OpQ.pure (OpP.neq_bool rfl rfl) ?_
        | refine OpQ.pure (OpP.neq_nil rfl rfl) ?_
        | refine OpQ.pure (OpP.neq_nil_slice rfl rfl) ?_)
      | refine OpsJ.nil ?_
      | refine QuietJ.nil ?_
      | refine CodeJ.drawn (by kernel_rfl) (by kernel_rfl) ?_
      | refine CodeJ.cond_t rfl (by with_reducible assumption) ?_
      | refine CodeJ.cond_f rfl (by with_reducible assumption) ?_
      | refine CodeJ.cond_dt rfl (by omega) ?_
      | refine CodeJ.cond_df rfl (by omega) ?_
      | refine CodeJ.cond_t rfl rfl ?_
      | refine CodeJ.cond_f rfl rfl ?_)
    refine Ret.mk0 ⟨?_, rfl⟩ (ResJ.one Try.results19 rfl) (by repeat (first | exact IM.le_refl _ | assumption | refine IM.le_trans ?_ (IM.le_or _ _))) (by repeat (first | exact SubL.nil _ | refine SubL.p0 ?_ | refine SubL.p1 ?_ | refine SubL.p2 ?_ | refine SubL.p3 ?_ | refine SubL.p4 ?_ | refine SubL.p5 ?_ | refine SubL.p6 ?_ | refine SubL.p7 ?_))
    rw [decide_eq_false]; intro h; subst h; omega
  · repeat (first
      | refine CodeJ.seq' ?_
      | refine CodeJ.region ?_
      | refine CodeJ.block ?_
      | refine CodeJ.skip ?_
      | refine CodeJ.exit rfl ?_
      | refine CodeJ.ret' ?_
      | (refine OpsJ.put rfl ?_; first
        | refine OpJ.pure (OpP.assign rfl) ?_
        | refine OpJ.pure (OpP.move rfl) ?_
        | refine OpJ.pure (OpP.len rfl) ?_
        | refine OpJ.pure (OpP.len_string rfl) ?_
        | refine OpJ.pure (OpP.neq rfl rfl) ?_
        | refine OpJ.pure (OpP.neq_string rfl rfl) ?_
        | refine OpJ.pure (OpP.neq_bool rfl rfl) ?_
        | refine OpJ.pure (OpP.neq_nil rfl rfl) ?_
        | refine OpJ.pure (OpP.neq_nil_slice rfl rfl) ?_
        | refine OpJ.pure (OpP.lss rfl rfl) ?_
        | refine OpJ.pure (OpP.add_in rfl rfl (by omega) (by omega)) ?_
        | refine OpJ.pure (OpP.cat rfl rfl (by omega)) ?_
        | refine OpJ.pure (OpP.add rfl rfl) ?_)
      | (refine QuietJ.put rfl ?_; first
        | refine OpQ.pure (OpP.move rfl) ?_
        | refine OpQ.pure (OpP.idx1 rfl rfl (by omega) (by omega) (Src.ofR (by with_reducible assumption)) (ne_get (by assumption))) ?_
        | refine OpQ.pure (OpP.idx1 rfl rfl (by omega) (by omega) (Src.ofRow (by repeat (first | exact List.Mem.head _ | apply List.Mem.tail))) (ne_get (by assumption))) ?_
        | refine OpQ.pure (OpP.load_blk (by exact rfl) rfl (by repeat (first | exact List.Mem.head _ | apply List.Mem.tail)) rfl) ?_
        | refine OpQ.pure (OpP.loadN_blk (by exact rfl) rfl (by repeat (first | exact List.Mem.head _ | apply List.Mem.tail)) (by exact rfl)) ?_
        | refine OpQ.pure (OpP.load1 (by exact rfl) rfl (Src.ofR (by with_reducible assumption)) rfl (by assumption)) ?_
        | refine OpQ.pure (OpP.load1 (by exact rfl) rfl (Src.ofRow (by repeat (first | exact List.Mem.head _ | apply List.Mem.tail))) rfl (by assumption)) ?_
        | refine OpQ.pure (OpP.neq rfl rfl) ?_
        | refine OpQ.pure (OpP.neq_string rfl rfl) ?_
        | refine OpQ.pure (OpP.neq_bool rfl rfl) ?_
        | refine OpQ.pure (OpP.neq_nil rfl rfl) ?_
        | refine OpQ.pure (OpP.neq_nil_slice rfl rfl) ?_)
      | refine OpsJ.nil ?_
      | refine QuietJ.nil ?_
      | refine CodeJ.drawn (by kernel_rfl) (by kernel_rfl) ?_
      | refine CodeJ.cond_t rfl (by with_reducible assumption) ?_
      | refine CodeJ.cond_f rfl (by with_reducible assumption) ?_
      | refine CodeJ.cond_dt rfl (by omega) ?_
      | refine CodeJ.cond_df rfl (by omega) ?_
      | refine CodeJ.cond_t rfl rfl ?_
      | refine CodeJ.cond_f rfl rfl ?_)
    have hlen : a.length = b.length := by omega
    refine CodeJ.loop (fun k e s => ∃ (i : Nat), i ≤ a.length ∧ k = a.length - i ∧ a.take i = b.take i ∧
      e = [(0, .slice A m c), (1, .slice B m' c'), (5, .int .i64 i)] ∧ s = ⟨R, []⟩) a.length
      ⟨0, Nat.zero_le _, rfl, rfl, rfl, rfl⟩ (by repeat (first | exact SubE.nil _ | refine SubE.cons rfl ?_)) (by repeat (first | exact SubL.nil _ | refine SubL.p0 ?_ | refine SubL.p1 ?_ | refine SubL.p2 ?_ | refine SubL.p3 ?_ | refine SubL.p4 ?_ | refine SubL.p5 ?_ | refine SubL.p6 ?_ | refine SubL.p7 ?_)) ?_
    rintro k e1 s1 ⟨i, hi, hk, ht, rfl, rfl⟩
    repeat (first
      | refine CodeJ.seq' ?_
      | refine CodeJ.region ?_
      | refine CodeJ.block ?_
      | refine CodeJ.skip ?_
      | refine CodeJ.exit rfl ?_
      | refine CodeJ.ret' ?_
      | (refine OpsJ.put rfl ?_; first
        | refine OpJ.pure (OpP.assign rfl) ?_
        | refine OpJ.pure (OpP.move rfl) ?_
        | refine OpJ.pure (OpP.len rfl) ?_
        | refine OpJ.pure (OpP.len_string rfl) ?_
        | refine OpJ.pure (OpP.neq rfl rfl) ?_
        | refine OpJ.pure (OpP.neq_string rfl rfl) ?_
        | refine OpJ.pure (OpP.neq_bool rfl rfl) ?_
        | refine OpJ.pure (OpP.neq_nil rfl rfl) ?_
        | refine OpJ.pure (OpP.neq_nil_slice rfl rfl) ?_
        | refine OpJ.pure (OpP.lss rfl rfl) ?_
        | refine OpJ.pure (OpP.add_in rfl rfl (by omega) (by omega)) ?_
        | refine OpJ.pure (OpP.cat rfl rfl (by omega)) ?_
        | refine OpJ.pure (OpP.add rfl rfl) ?_)
      | (refine QuietJ.put rfl ?_; first
        | refine OpQ.pure (OpP.move rfl) ?_
        | refine OpQ.pure (OpP.idx1 rfl rfl (by omega) (by omega) (Src.ofR (by with_reducible assumption)) (ne_get (by assumption))) ?_
        | refine OpQ.pure (OpP.idx1 rfl rfl (by omega) (by omega) (Src.ofRow (by repeat (first | exact List.Mem.head _ | apply List.Mem.tail))) (ne_get (by assumption))) ?_
        | refine OpQ.pure (OpP.load_blk (by exact rfl) rfl (by repeat (first | exact List.Mem.head _ | apply List.Mem.tail)) rfl) ?_
        | refine OpQ.pure (OpP.loadN_blk (by exact rfl) rfl (by repeat (first | exact List.Mem.head _ | apply List.Mem.tail)) (by exact rfl)) ?_
        | refine OpQ.pure (OpP.load1 (by exact rfl) rfl (Src.ofR (by with_reducible assumption)) rfl (by assumption)) ?_
        | refine OpQ.pure (OpP.load1 (by exact rfl) rfl (Src.ofRow (by repeat (first | exact List.Mem.head _ | apply List.Mem.tail))) rfl (by assumption)) ?_
        | refine OpQ.pure (OpP.neq rfl rfl) ?_
        | refine OpQ.pure (OpP.neq_string rfl rfl) ?_
        | refine OpQ.pure (OpP.neq_bool rfl rfl) ?_
        | refine OpQ.pure (OpP.neq_nil rfl rfl) ?_
        | refine OpQ.pure (OpP.neq_nil_slice rfl rfl) ?_)
      | refine OpsJ.nil ?_
      | refine QuietJ.nil ?_
      | refine CodeJ.drawn (by kernel_rfl) (by kernel_rfl) ?_
      | refine CodeJ.cond_t rfl (by with_reducible assumption) ?_
      | refine CodeJ.cond_f rfl (by with_reducible assumption) ?_
      | refine CodeJ.cond_dt rfl (by omega) ?_
      | refine CodeJ.cond_df rfl (by omega) ?_
      | refine CodeJ.cond_t rfl rfl ?_
      | refine CodeJ.cond_f rfl rfl ?_)
    refine CodeJ.cond_d rfl (fun hc => ?_) (fun hc => ?_)
    · have hcell := bcells_get (a := a) (i := i) (by omega)
      have hcell2 := bcells_get (a := b) (i := i) (by omega)
      repeat (first
        | refine CodeJ.seq' ?_
        | refine CodeJ.region ?_
        | refine CodeJ.block ?_
        | refine CodeJ.skip ?_
        | refine CodeJ.exit rfl ?_
        | refine CodeJ.ret' ?_
        | (refine OpsJ.put rfl ?_; first
          | refine OpJ.pure (OpP.assign rfl) ?_
          | refine OpJ.pure (OpP.move rfl) ?_
          | refine OpJ.pure (OpP.len rfl) ?_
          | refine OpJ.pure (OpP.len_string rfl) ?_
          | refine OpJ.pure (OpP.neq rfl rfl) ?_
          | refine OpJ.pure (OpP.neq_string rfl rfl) ?_
          | refine OpJ.pure (OpP.neq_bool rfl rfl) ?_
          | refine OpJ.pure (OpP.neq_nil rfl rfl) ?_
          | refine OpJ.pure (OpP.neq_nil_slice rfl rfl) ?_
          | refine OpJ.pure (OpP.lss rfl rfl) ?_
          | refine OpJ.pure (OpP.add_in rfl rfl (by omega) (by omega)) ?_
          | refine OpJ.pure (OpP.cat rfl rfl (by omega)) ?_
          | refine OpJ.pure (OpP.add rfl rfl) ?_)
        | (refine QuietJ.put rfl ?_; first
          | refine OpQ.pure (OpP.move rfl) ?_
          | refine OpQ.pure (OpP.idx1 rfl rfl (by omega) (by omega) (Src.ofR (by with_reducible assumption)) (ne_get (by assumption))) ?_
          | refine OpQ.pure (OpP.idx1 rfl rfl (by omega) (by omega) (Src.ofRow (by repeat (first | exact List.Mem.head _ | apply List.Mem.tail))) (ne_get (by assumption))) ?_
          | refine OpQ.pure (OpP.load_blk (by exact rfl) rfl (by repeat (first | exact List.Mem.head _ | apply List.Mem.tail)) rfl) ?_
          | refine OpQ.pure (OpP.loadN_blk (by exact rfl) rfl (by repeat (first | exact List.Mem.head _ | apply List.Mem.tail)) (by exact rfl)) ?_
          | refine OpQ.pure (OpP.load1 (by exact rfl) rfl (Src.ofR (by with_reducible assumption)) rfl (by assumption)) ?_
          | refine OpQ.pure (OpP.load1 (by exact rfl) rfl (Src.ofRow (by repeat (first | exact List.Mem.head _ | apply List.Mem.tail))) rfl (by assumption)) ?_
          | refine OpQ.pure (OpP.neq rfl rfl) ?_
          | refine OpQ.pure (OpP.neq_string rfl rfl) ?_
          | refine OpQ.pure (OpP.neq_bool rfl rfl) ?_
          | refine OpQ.pure (OpP.neq_nil rfl rfl) ?_
          | refine OpQ.pure (OpP.neq_nil_slice rfl rfl) ?_)
        | refine OpsJ.nil ?_
        | refine QuietJ.nil ?_
        | refine CodeJ.drawn (by kernel_rfl) (by kernel_rfl) ?_
        | refine CodeJ.cond_t rfl (by with_reducible assumption) ?_
        | refine CodeJ.cond_f rfl (by with_reducible assumption) ?_
        | refine CodeJ.cond_dt rfl (by omega) ?_
        | refine CodeJ.cond_df rfl (by omega) ?_
        | refine CodeJ.cond_t rfl rfl ?_
        | refine CodeJ.cond_f rfl rfl ?_)
      refine CodeJ.cond_d rfl (fun hc => ?_) (fun hc => ?_)
      · repeat (first
          | refine CodeJ.seq' ?_
          | refine CodeJ.region ?_
          | refine CodeJ.block ?_
          | refine CodeJ.skip ?_
          | refine CodeJ.exit rfl ?_
          | refine CodeJ.ret' ?_
          | (refine OpsJ.put rfl ?_; first
            | refine OpJ.pure (OpP.assign rfl) ?_
            | refine OpJ.pure (OpP.move rfl) ?_
            | refine OpJ.pure (OpP.len rfl) ?_
            | refine OpJ.pure (OpP.len_string rfl) ?_
            | refine OpJ.pure (OpP.neq rfl rfl) ?_
            | refine OpJ.pure (OpP.neq_string rfl rfl) ?_
            | refine OpJ.pure (OpP.neq_bool rfl rfl) ?_
            | refine OpJ.pure (OpP.neq_nil rfl rfl) ?_
            | refine OpJ.pure (OpP.neq_nil_slice rfl rfl) ?_
            | refine OpJ.pure (OpP.lss rfl rfl) ?_
            | refine OpJ.pure (OpP.add_in rfl rfl (by omega) (by omega)) ?_
            | refine OpJ.pure (OpP.cat rfl rfl (by omega)) ?_
            | refine OpJ.pure (OpP.add rfl rfl) ?_)
          | (refine QuietJ.put rfl ?_; first
            | refine OpQ.pure (OpP.move rfl) ?_
            | refine OpQ.pure (OpP.idx1 rfl rfl (by omega) (by omega) (Src.ofR (by with_reducible assumption)) (ne_get (by assumption))) ?_
            | refine OpQ.pure (OpP.idx1 rfl rfl (by omega) (by omega) (Src.ofRow (by repeat (first | exact List.Mem.head _ | apply List.Mem.tail))) (ne_get (by assumption))) ?_
            | refine OpQ.pure (OpP.load_blk (by exact rfl) rfl (by repeat (first | exact List.Mem.head _ | apply List.Mem.tail)) rfl) ?_
            | refine OpQ.pure (OpP.loadN_blk (by exact rfl) rfl (by repeat (first | exact List.Mem.head _ | apply List.Mem.tail)) (by exact rfl)) ?_
            | refine OpQ.pure (OpP.load1 (by exact rfl) rfl (Src.ofR (by with_reducible assumption)) rfl (by assumption)) ?_
            | refine OpQ.pure (OpP.load1 (by exact rfl) rfl (Src.ofRow (by repeat (first | exact List.Mem.head _ | apply List.Mem.tail))) rfl (by assumption)) ?_
            | refine OpQ.pure (OpP.neq rfl rfl) ?_
            | refine OpQ.pure (OpP.neq_string rfl rfl) ?_
            | refine OpQ.pure (OpP.neq_bool rfl rfl) ?_
            | refine OpQ.pure (OpP.neq_nil rfl rfl) ?_
            | refine OpQ.pure (OpP.neq_nil_slice rfl rfl) ?_)
          | refine OpsJ.nil ?_
          | refine QuietJ.nil ?_
          | refine CodeJ.drawn (by kernel_rfl) (by kernel_rfl) ?_
          | refine CodeJ.cond_t rfl (by with_reducible assumption) ?_
          | refine CodeJ.cond_f rfl (by with_reducible assumption) ?_
          | refine CodeJ.cond_dt rfl (by omega) ?_
          | refine CodeJ.cond_df rfl (by omega) ?_
          | refine CodeJ.cond_t rfl rfl ?_
          | refine CodeJ.cond_f rfl rfl ?_)
        refine Ret.mk0 ⟨?_, rfl⟩ (ResJ.one Try.results19 rfl) (by repeat (first | exact IM.le_refl _ | assumption | refine IM.le_trans ?_ (IM.le_or _ _))) (by repeat (first | exact SubL.nil _ | refine SubL.p0 ?_ | refine SubL.p1 ?_ | refine SubL.p2 ?_ | refine SubL.p3 ?_ | refine SubL.p4 ?_ | refine SubL.p5 ?_ | refine SubL.p6 ?_ | refine SubL.p7 ?_))
        rw [decide_eq_false]; intro h; subst h; exact hc rfl
      · repeat (first
          | refine CodeJ.seq' ?_
          | refine CodeJ.region ?_
          | refine CodeJ.block ?_
          | refine CodeJ.skip ?_
          | refine CodeJ.exit rfl ?_
          | refine CodeJ.ret' ?_
          | (refine OpsJ.put rfl ?_; first
            | refine OpJ.pure (OpP.assign rfl) ?_
            | refine OpJ.pure (OpP.move rfl) ?_
            | refine OpJ.pure (OpP.len rfl) ?_
            | refine OpJ.pure (OpP.len_string rfl) ?_
            | refine OpJ.pure (OpP.neq rfl rfl) ?_
            | refine OpJ.pure (OpP.neq_string rfl rfl) ?_
            | refine OpJ.pure (OpP.neq_bool rfl rfl) ?_
            | refine OpJ.pure (OpP.neq_nil rfl rfl) ?_
            | refine OpJ.pure (OpP.neq_nil_slice rfl rfl) ?_
            | refine OpJ.pure (OpP.lss rfl rfl) ?_
            | refine OpJ.pure (OpP.add_in rfl rfl (by omega) (by omega)) ?_
            | refine OpJ.pure (OpP.cat rfl rfl (by omega)) ?_
            | refine OpJ.pure (OpP.add rfl rfl) ?_)
          | (refine QuietJ.put rfl ?_; first
            | refine OpQ.pure (OpP.move rfl) ?_
            | refine OpQ.pure (OpP.idx1 rfl rfl (by omega) (by omega) (Src.ofR (by with_reducible assumption)) (ne_get (by assumption))) ?_
            | refine OpQ.pure (OpP.idx1 rfl rfl (by omega) (by omega) (Src.ofRow (by repeat (first | exact List.Mem.head _ | apply List.Mem.tail))) (ne_get (by assumption))) ?_
            | refine OpQ.pure (OpP.load_blk (by exact rfl) rfl (by repeat (first | exact List.Mem.head _ | apply List.Mem.tail)) rfl) ?_
            | refine OpQ.pure (OpP.loadN_blk (by exact rfl) rfl (by repeat (first | exact List.Mem.head _ | apply List.Mem.tail)) (by exact rfl)) ?_
            | refine OpQ.pure (OpP.load1 (by exact rfl) rfl (Src.ofR (by with_reducible assumption)) rfl (by assumption)) ?_
            | refine OpQ.pure (OpP.load1 (by exact rfl) rfl (Src.ofRow (by repeat (first | exact List.Mem.head _ | apply List.Mem.tail))) rfl (by assumption)) ?_
            | refine OpQ.pure (OpP.neq rfl rfl) ?_
            | refine OpQ.pure (OpP.neq_string rfl rfl) ?_
            | refine OpQ.pure (OpP.neq_bool rfl rfl) ?_
            | refine OpQ.pure (OpP.neq_nil rfl rfl) ?_
            | refine OpQ.pure (OpP.neq_nil_slice rfl rfl) ?_)
          | refine OpsJ.nil ?_
          | refine QuietJ.nil ?_
          | refine CodeJ.drawn (by kernel_rfl) (by kernel_rfl) ?_
          | refine CodeJ.cond_t rfl (by with_reducible assumption) ?_
          | refine CodeJ.cond_f rfl (by with_reducible assumption) ?_
          | refine CodeJ.cond_dt rfl (by omega) ?_
          | refine CodeJ.cond_df rfl (by omega) ?_
          | refine CodeJ.cond_t rfl rfl ?_
          | refine CodeJ.cond_f rfl rfl ?_)
        refine ⟨a.length - (i + 1), _, _, _, by omega, ⟨i + 1, by omega, rfl, ?_, rfl, rfl⟩, (by repeat (first | exact IM.le_refl _ | assumption | refine IM.le_trans ?_ (IM.le_or _ _))), (by repeat (first | exact SubE.nil _ | refine SubE.cons rfl ?_)), (by repeat (first | exact SubL.nil _ | refine SubL.p0 ?_ | refine SubL.p1 ?_ | refine SubL.p2 ?_ | refine SubL.p3 ?_ | refine SubL.p4 ?_ | refine SubL.p5 ?_ | refine SubL.p6 ?_ | refine SubL.p7 ?_))⟩
        have hab : a.getD i 0 = b.getD i 0 := UInt8.toNat_inj.1 (by omega)
        rw [List.take_succ_eq_append_getElem (by omega), List.take_succ_eq_append_getElem (by omega), ht]
        simp only [List.getD_eq_getElem?_getD, List.getElem?_eq_getElem (show i < a.length by omega), List.getElem?_eq_getElem (show i < b.length by omega), Option.getD_some] at hab
        rw [hab]
    · repeat (first
        | refine CodeJ.seq' ?_
        | refine CodeJ.region ?_
        | refine CodeJ.block ?_
        | refine CodeJ.skip ?_
        | refine CodeJ.exit rfl ?_
        | refine CodeJ.ret' ?_
        | (refine OpsJ.put rfl ?_; first
          | refine OpJ.pure (OpP.assign rfl) ?_
          | refine OpJ.pure (OpP.move rfl) ?_
          | refine OpJ.pure (OpP.len rfl) ?_
          | refine OpJ.pure (OpP.len_string rfl) ?_
          | refine OpJ.pure (OpP.neq rfl rfl) ?_
          | refine OpJ.pure (OpP.neq_string rfl rfl) ?_
          | refine OpJ.pure (OpP.neq_bool rfl rfl) ?_
          | refine OpJ.pure (OpP.neq_nil rfl rfl) ?_
          | refine OpJ.pure (OpP.neq_nil_slice rfl rfl) ?_
          | refine OpJ.pure (OpP.lss rfl rfl) ?_
          | refine OpJ.pure (OpP.add_in rfl rfl (by omega) (by omega)) ?_
          | refine OpJ.pure (OpP.cat rfl rfl (by omega)) ?_
          | refine OpJ.pure (OpP.add rfl rfl) ?_)
        | (refine QuietJ.put rfl ?_; first
          | refine OpQ.pure (OpP.move rfl) ?_
          | refine OpQ.pure (OpP.idx1 rfl rfl (by omega) (by omega) (Src.ofR (by with_reducible assumption)) (ne_get (by assumption))) ?_
          | refine OpQ.pure (OpP.idx1 rfl rfl (by omega) (by omega) (Src.ofRow (by repeat (first | exact List.Mem.head _ | apply List.Mem.tail))) (ne_get (by assumption))) ?_
          | refine OpQ.pure (OpP.load_blk (by exact rfl) rfl (by repeat (first | exact List.Mem.head _ | apply List.Mem.tail)) rfl) ?_
          | refine OpQ.pure (OpP.loadN_blk (by exact rfl) rfl (by repeat (first | exact List.Mem.head _ | apply List.Mem.tail)) (by exact rfl)) ?_
          | refine OpQ.pure (OpP.load1 (by exact rfl) rfl (Src.ofR (by with_reducible assumption)) rfl (by assumption)) ?_
          | refine OpQ.pure (OpP.load1 (by exact rfl) rfl (Src.ofRow (by repeat (first | exact List.Mem.head _ | apply List.Mem.tail))) rfl (by assumption)) ?_
          | refine OpQ.pure (OpP.neq rfl rfl) ?_
          | refine OpQ.pure (OpP.neq_string rfl rfl) ?_
          | refine OpQ.pure (OpP.neq_bool rfl rfl) ?_
          | refine OpQ.pure (OpP.neq_nil rfl rfl) ?_
          | refine OpQ.pure (OpP.neq_nil_slice rfl rfl) ?_)
        | refine OpsJ.nil ?_
        | refine QuietJ.nil ?_
        | refine CodeJ.drawn (by kernel_rfl) (by kernel_rfl) ?_
        | refine CodeJ.cond_t rfl (by with_reducible assumption) ?_
        | refine CodeJ.cond_f rfl (by with_reducible assumption) ?_
        | refine CodeJ.cond_dt rfl (by omega) ?_
        | refine CodeJ.cond_df rfl (by omega) ?_
        | refine CodeJ.cond_t rfl rfl ?_
        | refine CodeJ.cond_f rfl rfl ?_)
      have hi2 : i = a.length := by omega
      refine Ret.mk0 ⟨?_, rfl⟩ (ResJ.one Try.results19 rfl) (by repeat (first | exact IM.le_refl _ | assumption | refine IM.le_trans ?_ (IM.le_or _ _))) (by repeat (first | exact SubL.nil _ | refine SubL.p0 ?_ | refine SubL.p1 ?_ | refine SubL.p2 ?_ | refine SubL.p3 ?_ | refine SubL.p4 ?_ | refine SubL.p5 ?_ | refine SubL.p6 ?_ | refine SubL.p7 ?_))
      rw [hi2, List.take_length, hlen, List.take_length] at ht
      rw [decide_eq_true ht]
theorem enc_1 : enc 1 = [1] := by rw [enc_small (by decide)]; rfl
theorem enc_300 : enc 300 = [172, 2] := by rw [enc_big (by decide), enc_small (by decide)]; rfl
theorem known_calls (R : IM) : CallJ Try.prog 16 #[] ⟨R, []⟩ (fun v D hs' => v = .bool true ∧ hs' = []) := by
  refine CallJ.of0 Try.func16 rfl Try.ntmps16 (fun W0 => ?_)
  refine CodeJ.nilrow 5 1 ?_
  repeat (first
    | refine CodeJ.seq' ?_
    | refine CodeJ.region ?_
    | refine CodeJ.block ?_
    | refine CodeJ.skip ?_
    | refine CodeJ.exit rfl ?_
    | refine CodeJ.ret' ?_
    | (refine OpsJ.put (d := 5) rfl ?_; refine OpJ.conv_bytes rfl (by first | exact List.Perm.refl _ | exact List.Perm.swap _ _ _ | exact permm2 _ _ _ _ | exact permm3 _ _ _ _ _ | exact permm4 _ _ _ _ _ _ | exact permm5 _ _ _ _ _ _ _) (fun D5 hdis5 hrc5 => ?_))
    | (refine OpsJ.put (d := 5) rfl ?_; refine OpJ.conv_string_bytes rfl (fun A5 c5 D5 hdis5 hrc5 hcap5 => ?_))
    | (refine OpsJ.put (d := 13) rfl ?_; refine OpJ.conv_bytes rfl (by first | exact List.Perm.refl _ | exact List.Perm.swap _ _ _ | exact permm2 _ _ _ _ | exact permm3 _ _ _ _ _ | exact permm4 _ _ _ _ _ _ | exact permm5 _ _ _ _ _ _ _) (fun D13 hdis13 hrc13 => ?_))
    | (refine OpsJ.put (d := 13) rfl ?_; refine OpJ.conv_string_bytes rfl (fun A13 c13 D13 hdis13 hrc13 hcap13 => ?_))
    | (refine OpsJ.put (d := 15) rfl ?_; refine OpJ.conv_bytes rfl (by first | exact List.Perm.refl _ | exact List.Perm.swap _ _ _ | exact permm2 _ _ _ _ | exact permm3 _ _ _ _ _ | exact permm4 _ _ _ _ _ _ | exact permm5 _ _ _ _ _ _ _) (fun D15 hdis15 hrc15 => ?_))
    | (refine OpsJ.put (d := 15) rfl ?_; refine OpJ.conv_string_bytes rfl (fun A15 c15 D15 hdis15 hrc15 hcap15 => ?_))
    | (refine OpsJ.gsel rfl rfl rfl rfl ?_; first | refine GuardJ.yes (by with_reducible assumption) ?_ | refine GuardJ.no (by with_reducible assumption) ?_ | refine GuardJ.dt rfl (by omega) ?_ | refine GuardJ.nf rfl (by omega) ?_ | refine GuardJ.df rfl (by omega) ?_ | refine GuardJ.nt rfl (by omega) ?_ | refine GuardJ.yes rfl ?_ | refine GuardJ.no rfl ?_)
    | (refine OpsJ.gund rfl rfl rfl rfl ?_)
    | (refine OpsJ.put rfl ?_; first
      | refine OpJ.pure (OpP.assign rfl) ?_
      | refine OpJ.alloc (fun _ => ?_)
      | (refine OpJ.buildSlice rfl rfl (by exact rfl) (by exact rfl) rfl (fun _ => ?_); dsimp only [lsplice, take1, take2, take3, take4, drop1, drop2, drop3, drop4, List.take_zero, List.drop_zero, List.cons_append, List.nil_append, List.length_cons, List.length_nil, Nat.reduceAdd, fillL, sliceL, Value.cells, List.toList_toArray, List.append_nil, List.getElem?_cons_zero, get1, get2, get3, Option.getD_some])
      | refine OpJ.pure (OpP.conv_in rfl (by first | exact IntWalk.i64_in _ (by omega) | exact IntWalk.u8_in _ (by omega) | exact IntWalk.u32_in _ (by omega) | exact wrap_u64_in _ (by omega))) ?_
      | refine OpJ.pure (OpP.conv_int rfl) ?_
      | refine OpJ.pure (OpP.conv_string rfl) ?_
      | refine OpJ.pure (OpP.move rfl) ?_
      | refine OpJ.pure (OpP.eql rfl rfl) ?_
      | refine OpJ.pure (OpP.eql_string rfl rfl) ?_
      | refine OpJ.pure (OpP.eql_bool rfl rfl) ?_
      | refine OpJ.pure (OpP.eql_nil rfl rfl) ?_
      | refine OpJ.pure (OpP.eql_nil_slice rfl rfl) ?_
      | refine OpJ.pure (OpP.pick_t rfl (by with_reducible assumption) rfl) ?_
      | refine OpJ.pure (OpP.pick_f rfl (by with_reducible assumption) rfl) ?_
      | refine OpJ.pure (OpP.pick_dt rfl (by omega) rfl) ?_
      | refine OpJ.pure (OpP.pick_df rfl (by omega) rfl) ?_
      | refine OpJ.pure (OpP.pick_t rfl rfl rfl) ?_
      | refine OpJ.pure (OpP.pick_f rfl rfl rfl) ?_
      | refine OpJ.pure (OpP.pick rfl rfl rfl) ?_)
    | refine OpsJ.nil ?_
    | refine CodeJ.cond_t rfl (by with_reducible assumption) ?_
    | refine CodeJ.cond_f rfl (by with_reducible assumption) ?_
    | refine CodeJ.cond_dt rfl (by omega) ?_
    | refine CodeJ.cond_df rfl (by omega) ?_
    | refine CodeJ.cond_t rfl rfl ?_
    | refine CodeJ.cond_f rfl rfl ?_)
  refine OpsJ.put (d := 3) rfl (OpJ.call rfl (by repeat (first | exact Split.nil | apply Split.p0 | apply Split.p1 | apply Split.p2 | apply Split.p3 | apply Split.p4 | apply Split.p5 | apply Split.p6 | apply Split.p7 | apply Split.p8)) (fun R' hle hin => nums_calls R' _ _ _ _ [] [1, 300] _ (inRow hin (by repeat (first | exact List.Mem.head _ | apply List.Mem.tail))) rfl ⟨_, _, _, _, rfl, rfl, rfl⟩ (by decide)) ?_)
  rintro v D hs1 hd ⟨rfl, A, c, m, cs, hm, hcs, rfl⟩
  repeat (first
    | refine CodeJ.seq' ?_
    | refine CodeJ.region ?_
    | refine CodeJ.block ?_
    | refine CodeJ.skip ?_
    | refine CodeJ.exit rfl ?_
    | refine CodeJ.ret' ?_
    | (refine OpsJ.put (d := 5) rfl ?_; refine OpJ.conv_bytes rfl (by first | exact List.Perm.refl _ | exact List.Perm.swap _ _ _ | exact permm2 _ _ _ _ | exact permm3 _ _ _ _ _ | exact permm4 _ _ _ _ _ _ | exact permm5 _ _ _ _ _ _ _) (fun D5 hdis5 hrc5 => ?_))
    | (refine OpsJ.put (d := 5) rfl ?_; refine OpJ.conv_string_bytes rfl (fun A5 c5 D5 hdis5 hrc5 hcap5 => ?_))
    | (refine OpsJ.put (d := 13) rfl ?_; refine OpJ.conv_bytes rfl (by first | exact List.Perm.refl _ | exact List.Perm.swap _ _ _ | exact permm2 _ _ _ _ | exact permm3 _ _ _ _ _ | exact permm4 _ _ _ _ _ _ | exact permm5 _ _ _ _ _ _ _) (fun D13 hdis13 hrc13 => ?_))
    | (refine OpsJ.put (d := 13) rfl ?_; refine OpJ.conv_string_bytes rfl (fun A13 c13 D13 hdis13 hrc13 hcap13 => ?_))
    | (refine OpsJ.put (d := 15) rfl ?_; refine OpJ.conv_bytes rfl (by first | exact List.Perm.refl _ | exact List.Perm.swap _ _ _ | exact permm2 _ _ _ _ | exact permm3 _ _ _ _ _ | exact permm4 _ _ _ _ _ _ | exact permm5 _ _ _ _ _ _ _) (fun D15 hdis15 hrc15 => ?_))
    | (refine OpsJ.put (d := 15) rfl ?_; refine OpJ.conv_string_bytes rfl (fun A15 c15 D15 hdis15 hrc15 hcap15 => ?_))
    | (refine OpsJ.gsel rfl rfl rfl rfl ?_; first | refine GuardJ.yes (by with_reducible assumption) ?_ | refine GuardJ.no (by with_reducible assumption) ?_ | refine GuardJ.dt rfl (by omega) ?_ | refine GuardJ.nf rfl (by omega) ?_ | refine GuardJ.df rfl (by omega) ?_ | refine GuardJ.nt rfl (by omega) ?_ | refine GuardJ.yes rfl ?_ | refine GuardJ.no rfl ?_)
    | (refine OpsJ.gund rfl rfl rfl rfl ?_)
    | (refine OpsJ.put rfl ?_; first
      | refine OpJ.pure (OpP.assign rfl) ?_
      | refine OpJ.alloc (fun _ => ?_)
      | (refine OpJ.buildSlice rfl rfl (by exact rfl) (by exact rfl) rfl (fun _ => ?_); dsimp only [lsplice, take1, take2, take3, take4, drop1, drop2, drop3, drop4, List.take_zero, List.drop_zero, List.cons_append, List.nil_append, List.length_cons, List.length_nil, Nat.reduceAdd, fillL, sliceL, Value.cells, List.toList_toArray, List.append_nil, List.getElem?_cons_zero, get1, get2, get3, Option.getD_some])
      | refine OpJ.pure (OpP.conv_in rfl (by first | exact IntWalk.i64_in _ (by omega) | exact IntWalk.u8_in _ (by omega) | exact IntWalk.u32_in _ (by omega) | exact wrap_u64_in _ (by omega))) ?_
      | refine OpJ.pure (OpP.conv_int rfl) ?_
      | refine OpJ.pure (OpP.conv_string rfl) ?_
      | refine OpJ.pure (OpP.move rfl) ?_
      | refine OpJ.pure (OpP.eql rfl rfl) ?_
      | refine OpJ.pure (OpP.eql_string rfl rfl) ?_
      | refine OpJ.pure (OpP.eql_bool rfl rfl) ?_
      | refine OpJ.pure (OpP.eql_nil rfl rfl) ?_
      | refine OpJ.pure (OpP.eql_nil_slice rfl rfl) ?_
      | refine OpJ.pure (OpP.pick_t rfl (by with_reducible assumption) rfl) ?_
      | refine OpJ.pure (OpP.pick_f rfl (by with_reducible assumption) rfl) ?_
      | refine OpJ.pure (OpP.pick_dt rfl (by omega) rfl) ?_
      | refine OpJ.pure (OpP.pick_df rfl (by omega) rfl) ?_
      | refine OpJ.pure (OpP.pick_t rfl rfl rfl) ?_
      | refine OpJ.pure (OpP.pick_f rfl rfl rfl) ?_
      | refine OpJ.pure (OpP.pick rfl rfl rfl) ?_)
    | refine OpsJ.nil ?_
    | refine CodeJ.cond_t rfl (by with_reducible assumption) ?_
    | refine CodeJ.cond_f rfl (by with_reducible assumption) ?_
    | refine CodeJ.cond_dt rfl (by omega) ?_
    | refine CodeJ.cond_df rfl (by omega) ?_
    | refine CodeJ.cond_t rfl rfl ?_
    | refine CodeJ.cond_f rfl rfl ?_)
  have he : [] ++ encs [1, 300] = [1, 172, 2] := by
    simp only [encs, List.flatMap_cons, List.flatMap_nil, List.nil_append, List.append_nil]
    rw [show clamp 1 = 1 from rfl, show clamp 300 = 300 from rfl, enc_1, enc_300]; rfl
  rw [he] at hm hcs
  refine OpsJ.put (d := 7) rfl (OpJ.call rfl (by repeat (first | exact Split.nil | apply Split.p0 | apply Split.p1 | apply Split.p2 | apply Split.p3 | apply Split.p4 | apply Split.p5 | apply Split.p6 | apply Split.p7 | apply Split.p8)) (fun R' hle hin => wbytes_calls R' _ _ _ _ [1, 172, 2] _ [[97]] _ (inRow hin (by repeat (first | exact List.Mem.head _ | apply List.Mem.tail))) ⟨rfl, fun i hi => ?_⟩ rfl ⟨_, _, _, _, hm, hcs, rfl⟩ ?_ ?_ ?_) ?_)
  · obtain rfl : i = 0 := by simp at hi; omega
    exact ⟨_, _, rfl, hrc5.mono (by first | (refine IM.le_trans ?_ hle; repeat (first | exact IM.le_or_right (by assumption) | refine IM.le_trans ?_ (IM.le_or _ _))) | (repeat (first | exact IM.le_or_right (by assumption) | refine IM.le_trans ?_ (IM.le_or _ _))))⟩
  · simp only [List.flatMap_cons, List.flatMap_nil, List.append_nil, encRow, List.length_cons, List.length_nil, Nat.zero_add, enc_1, List.length_append]; decide
  · intro i hi
    obtain rfl : i = 0 := by simp at hi; omega
    decide
  · decide
  rintro v D2 hs2 hd2 ⟨rfl, A, c, m, cs, hm, hcs, rfl⟩
  have he2 : [1, 172, 2] ++ [[97]].flatMap encRow = [1, 172, 2, 1, 97] := by
    simp only [List.flatMap_cons, List.flatMap_nil, List.append_nil, encRow, List.length_cons, List.length_nil, Nat.zero_add, enc_1]; rfl
  rw [he2] at hm hcs
  repeat (first
    | refine CodeJ.seq' ?_
    | refine CodeJ.region ?_
    | refine CodeJ.block ?_
    | refine CodeJ.skip ?_
    | refine CodeJ.exit rfl ?_
    | refine CodeJ.ret' ?_
    | (refine OpsJ.put (d := 5) rfl ?_; refine OpJ.conv_bytes rfl (by first | exact List.Perm.refl _ | exact List.Perm.swap _ _ _ | exact permm2 _ _ _ _ | exact permm3 _ _ _ _ _ | exact permm4 _ _ _ _ _ _ | exact permm5 _ _ _ _ _ _ _) (fun D5 hdis5 hrc5 => ?_))
    | (refine OpsJ.put (d := 5) rfl ?_; refine OpJ.conv_string_bytes rfl (fun A5 c5 D5 hdis5 hrc5 hcap5 => ?_))
    | (refine OpsJ.put (d := 13) rfl ?_; refine OpJ.conv_bytes rfl (by first | exact List.Perm.refl _ | exact List.Perm.swap _ _ _ | exact permm2 _ _ _ _ | exact permm3 _ _ _ _ _ | exact permm4 _ _ _ _ _ _ | exact permm5 _ _ _ _ _ _ _) (fun D13 hdis13 hrc13 => ?_))
    | (refine OpsJ.put (d := 13) rfl ?_; refine OpJ.conv_string_bytes rfl (fun A13 c13 D13 hdis13 hrc13 hcap13 => ?_))
    | (refine OpsJ.put (d := 15) rfl ?_; refine OpJ.conv_bytes rfl (by first | exact List.Perm.refl _ | exact List.Perm.swap _ _ _ | exact permm2 _ _ _ _ | exact permm3 _ _ _ _ _ | exact permm4 _ _ _ _ _ _ | exact permm5 _ _ _ _ _ _ _) (fun D15 hdis15 hrc15 => ?_))
    | (refine OpsJ.put (d := 15) rfl ?_; refine OpJ.conv_string_bytes rfl (fun A15 c15 D15 hdis15 hrc15 hcap15 => ?_))
    | (refine OpsJ.gsel rfl rfl rfl rfl ?_; first | refine GuardJ.yes (by with_reducible assumption) ?_ | refine GuardJ.no (by with_reducible assumption) ?_ | refine GuardJ.dt rfl (by omega) ?_ | refine GuardJ.nf rfl (by omega) ?_ | refine GuardJ.df rfl (by omega) ?_ | refine GuardJ.nt rfl (by omega) ?_ | refine GuardJ.yes rfl ?_ | refine GuardJ.no rfl ?_)
    | (refine OpsJ.gund rfl rfl rfl rfl ?_)
    | (refine OpsJ.put rfl ?_; first
      | refine OpJ.pure (OpP.assign rfl) ?_
      | refine OpJ.alloc (fun _ => ?_)
      | (refine OpJ.buildSlice rfl rfl (by exact rfl) (by exact rfl) rfl (fun _ => ?_); dsimp only [lsplice, take1, take2, take3, take4, drop1, drop2, drop3, drop4, List.take_zero, List.drop_zero, List.cons_append, List.nil_append, List.length_cons, List.length_nil, Nat.reduceAdd, fillL, sliceL, Value.cells, List.toList_toArray, List.append_nil, List.getElem?_cons_zero, get1, get2, get3, Option.getD_some])
      | refine OpJ.pure (OpP.conv_in rfl (by first | exact IntWalk.i64_in _ (by omega) | exact IntWalk.u8_in _ (by omega) | exact IntWalk.u32_in _ (by omega) | exact wrap_u64_in _ (by omega))) ?_
      | refine OpJ.pure (OpP.conv_int rfl) ?_
      | refine OpJ.pure (OpP.conv_string rfl) ?_
      | refine OpJ.pure (OpP.move rfl) ?_
      | refine OpJ.pure (OpP.eql rfl rfl) ?_
      | refine OpJ.pure (OpP.eql_string rfl rfl) ?_
      | refine OpJ.pure (OpP.eql_bool rfl rfl) ?_
      | refine OpJ.pure (OpP.eql_nil rfl rfl) ?_
      | refine OpJ.pure (OpP.eql_nil_slice rfl rfl) ?_
      | refine OpJ.pure (OpP.pick_t rfl (by with_reducible assumption) rfl) ?_
      | refine OpJ.pure (OpP.pick_f rfl (by with_reducible assumption) rfl) ?_
      | refine OpJ.pure (OpP.pick_dt rfl (by omega) rfl) ?_
      | refine OpJ.pure (OpP.pick_df rfl (by omega) rfl) ?_
      | refine OpJ.pure (OpP.pick_t rfl rfl rfl) ?_
      | refine OpJ.pure (OpP.pick_f rfl rfl rfl) ?_
      | refine OpJ.pure (OpP.pick rfl rfl rfl) ?_)
    | refine OpsJ.nil ?_
    | refine CodeJ.cond_t rfl (by with_reducible assumption) ?_
    | refine CodeJ.cond_f rfl (by with_reducible assumption) ?_
    | refine CodeJ.cond_dt rfl (by omega) ?_
    | refine CodeJ.cond_df rfl (by omega) ?_
    | refine CodeJ.cond_t rfl rfl ?_
    | refine CodeJ.cond_f rfl rfl ?_)
  refine OpsJ.put (d := 8) rfl (OpJ.call rfl (by repeat (first | exact Split.nil | apply Split.p0 | apply Split.p1 | apply Split.p2 | apply Split.p3 | apply Split.p4 | apply Split.p5 | apply Split.p6 | apply Split.p7 | apply Split.p8)) (fun R' hle hin => out_calls R' _ [1, 172, 2, 1, 97] _ ⟨_, _, _, _, hm, hcs, rfl⟩ (by decide)) ?_)
  rintro v D3 hs3 hd3 ⟨A', m', c', cs', hw, rfl, hm', hcs', ⟨A2, c2, m2, cs2, hm2, hcs2, rfl⟩, rfl⟩
  subst hcs' hm'
  repeat (first
    | refine CodeJ.seq' ?_
    | refine CodeJ.region ?_
    | refine CodeJ.block ?_
    | refine CodeJ.skip ?_
    | refine CodeJ.exit rfl ?_
    | refine CodeJ.ret' ?_
    | (refine OpsJ.put (d := 5) rfl ?_; refine OpJ.conv_bytes rfl (by first | exact List.Perm.refl _ | exact List.Perm.swap _ _ _ | exact permm2 _ _ _ _ | exact permm3 _ _ _ _ _ | exact permm4 _ _ _ _ _ _ | exact permm5 _ _ _ _ _ _ _) (fun D5 hdis5 hrc5 => ?_))
    | (refine OpsJ.put (d := 5) rfl ?_; refine OpJ.conv_string_bytes rfl (fun A5 c5 D5 hdis5 hrc5 hcap5 => ?_))
    | (refine OpsJ.put (d := 13) rfl ?_; refine OpJ.conv_bytes rfl (by first | exact List.Perm.refl _ | exact List.Perm.swap _ _ _ | exact permm2 _ _ _ _ | exact permm3 _ _ _ _ _ | exact permm4 _ _ _ _ _ _ | exact permm5 _ _ _ _ _ _ _) (fun D13 hdis13 hrc13 => ?_))
    | (refine OpsJ.put (d := 13) rfl ?_; refine OpJ.conv_string_bytes rfl (fun A13 c13 D13 hdis13 hrc13 hcap13 => ?_))
    | (refine OpsJ.put (d := 15) rfl ?_; refine OpJ.conv_bytes rfl (by first | exact List.Perm.refl _ | exact List.Perm.swap _ _ _ | exact permm2 _ _ _ _ | exact permm3 _ _ _ _ _ | exact permm4 _ _ _ _ _ _ | exact permm5 _ _ _ _ _ _ _) (fun D15 hdis15 hrc15 => ?_))
    | (refine OpsJ.put (d := 15) rfl ?_; refine OpJ.conv_string_bytes rfl (fun A15 c15 D15 hdis15 hrc15 hcap15 => ?_))
    | (refine OpsJ.gsel rfl rfl rfl rfl ?_; first | refine GuardJ.yes (by with_reducible assumption) ?_ | refine GuardJ.no (by with_reducible assumption) ?_ | refine GuardJ.dt rfl (by omega) ?_ | refine GuardJ.nf rfl (by omega) ?_ | refine GuardJ.df rfl (by omega) ?_ | refine GuardJ.nt rfl (by omega) ?_ | refine GuardJ.yes rfl ?_ | refine GuardJ.no rfl ?_)
    | (refine OpsJ.gund rfl rfl rfl rfl ?_)
    | (refine OpsJ.put rfl ?_; first
      | refine OpJ.pure (OpP.assign rfl) ?_
      | refine OpJ.alloc (fun _ => ?_)
      | (refine OpJ.buildSlice rfl rfl (by exact rfl) (by exact rfl) rfl (fun _ => ?_); dsimp only [lsplice, take1, take2, take3, take4, drop1, drop2, drop3, drop4, List.take_zero, List.drop_zero, List.cons_append, List.nil_append, List.length_cons, List.length_nil, Nat.reduceAdd, fillL, sliceL, Value.cells, List.toList_toArray, List.append_nil, List.getElem?_cons_zero, get1, get2, get3, Option.getD_some])
      | refine OpJ.pure (OpP.conv_in rfl (by first | exact IntWalk.i64_in _ (by omega) | exact IntWalk.u8_in _ (by omega) | exact IntWalk.u32_in _ (by omega) | exact wrap_u64_in _ (by omega))) ?_
      | refine OpJ.pure (OpP.conv_int rfl) ?_
      | refine OpJ.pure (OpP.conv_string rfl) ?_
      | refine OpJ.pure (OpP.move rfl) ?_
      | refine OpJ.pure (OpP.eql rfl rfl) ?_
      | refine OpJ.pure (OpP.eql_string rfl rfl) ?_
      | refine OpJ.pure (OpP.eql_bool rfl rfl) ?_
      | refine OpJ.pure (OpP.eql_nil rfl rfl) ?_
      | refine OpJ.pure (OpP.eql_nil_slice rfl rfl) ?_
      | refine OpJ.pure (OpP.pick_t rfl (by with_reducible assumption) rfl) ?_
      | refine OpJ.pure (OpP.pick_f rfl (by with_reducible assumption) rfl) ?_
      | refine OpJ.pure (OpP.pick_dt rfl (by omega) rfl) ?_
      | refine OpJ.pure (OpP.pick_df rfl (by omega) rfl) ?_
      | refine OpJ.pure (OpP.pick_t rfl rfl rfl) ?_
      | refine OpJ.pure (OpP.pick_f rfl rfl rfl) ?_
      | refine OpJ.pure (OpP.pick rfl rfl rfl) ?_)
    | refine OpsJ.nil ?_
    | refine CodeJ.cond_t rfl (by with_reducible assumption) ?_
    | refine CodeJ.cond_f rfl (by with_reducible assumption) ?_
    | refine CodeJ.cond_dt rfl (by omega) ?_
    | refine CodeJ.cond_df rfl (by omega) ?_
    | refine CodeJ.cond_t rfl rfl ?_
    | refine CodeJ.cond_f rfl rfl ?_)
  refine OpsJ.put (d := 10) rfl (OpJ.call (pass := []) rfl (by repeat (first | exact Split.nil | apply Split.p0 | apply Split.p1 | apply Split.p2 | apply Split.p3 | apply Split.p4 | apply Split.p5 | apply Split.p6 | apply Split.p7 | apply Split.p8)) (fun R' hle hin => same_calls R' _ _ _ _ _ _ [1, 172, 2, 1, 97] [1, 172, 2, 1, 97] (inRow hin (by repeat (first | exact List.Mem.head _ | apply List.Mem.tail))) (inRow hin (by repeat (first | exact List.Mem.head _ | apply List.Mem.tail))) rfl rfl (by decide) (by decide)) ?_)
  rintro v D4 hs4 hd4 ⟨rfl, rfl⟩
  repeat (first
    | refine CodeJ.seq' ?_
    | refine CodeJ.region ?_
    | refine CodeJ.block ?_
    | refine CodeJ.skip ?_
    | refine CodeJ.exit rfl ?_
    | refine CodeJ.ret' ?_
    | (refine OpsJ.put (d := 5) rfl ?_; refine OpJ.conv_bytes rfl (by first | exact List.Perm.refl _ | exact List.Perm.swap _ _ _ | exact permm2 _ _ _ _ | exact permm3 _ _ _ _ _ | exact permm4 _ _ _ _ _ _ | exact permm5 _ _ _ _ _ _ _) (fun D5 hdis5 hrc5 => ?_))
    | (refine OpsJ.put (d := 5) rfl ?_; refine OpJ.conv_string_bytes rfl (fun A5 c5 D5 hdis5 hrc5 hcap5 => ?_))
    | (refine OpsJ.put (d := 13) rfl ?_; refine OpJ.conv_bytes rfl (by first | exact List.Perm.refl _ | exact List.Perm.swap _ _ _ | exact permm2 _ _ _ _ | exact permm3 _ _ _ _ _ | exact permm4 _ _ _ _ _ _ | exact permm5 _ _ _ _ _ _ _) (fun D13 hdis13 hrc13 => ?_))
    | (refine OpsJ.put (d := 13) rfl ?_; refine OpJ.conv_string_bytes rfl (fun A13 c13 D13 hdis13 hrc13 hcap13 => ?_))
    | (refine OpsJ.put (d := 15) rfl ?_; refine OpJ.conv_bytes rfl (by first | exact List.Perm.refl _ | exact List.Perm.swap _ _ _ | exact permm2 _ _ _ _ | exact permm3 _ _ _ _ _ | exact permm4 _ _ _ _ _ _ | exact permm5 _ _ _ _ _ _ _) (fun D15 hdis15 hrc15 => ?_))
    | (refine OpsJ.put (d := 15) rfl ?_; refine OpJ.conv_string_bytes rfl (fun A15 c15 D15 hdis15 hrc15 hcap15 => ?_))
    | (refine OpsJ.gsel rfl rfl rfl rfl ?_; first | refine GuardJ.yes (by with_reducible assumption) ?_ | refine GuardJ.no (by with_reducible assumption) ?_ | refine GuardJ.dt rfl (by omega) ?_ | refine GuardJ.nf rfl (by omega) ?_ | refine GuardJ.df rfl (by omega) ?_ | refine GuardJ.nt rfl (by omega) ?_ | refine GuardJ.yes rfl ?_ | refine GuardJ.no rfl ?_)
    | (refine OpsJ.gund rfl rfl rfl rfl ?_)
    | (refine OpsJ.put rfl ?_; first
      | refine OpJ.pure (OpP.assign rfl) ?_
      | refine OpJ.alloc (fun _ => ?_)
      | (refine OpJ.buildSlice rfl rfl (by exact rfl) (by exact rfl) rfl (fun _ => ?_); dsimp only [lsplice, take1, take2, take3, take4, drop1, drop2, drop3, drop4, List.take_zero, List.drop_zero, List.cons_append, List.nil_append, List.length_cons, List.length_nil, Nat.reduceAdd, fillL, sliceL, Value.cells, List.toList_toArray, List.append_nil, List.getElem?_cons_zero, get1, get2, get3, Option.getD_some])
      | refine OpJ.pure (OpP.conv_in rfl (by first | exact IntWalk.i64_in _ (by omega) | exact IntWalk.u8_in _ (by omega) | exact IntWalk.u32_in _ (by omega) | exact wrap_u64_in _ (by omega))) ?_
      | refine OpJ.pure (OpP.conv_int rfl) ?_
      | refine OpJ.pure (OpP.conv_string rfl) ?_
      | refine OpJ.pure (OpP.move rfl) ?_
      | refine OpJ.pure (OpP.eql rfl rfl) ?_
      | refine OpJ.pure (OpP.eql_string rfl rfl) ?_
      | refine OpJ.pure (OpP.eql_bool rfl rfl) ?_
      | refine OpJ.pure (OpP.eql_nil rfl rfl) ?_
      | refine OpJ.pure (OpP.eql_nil_slice rfl rfl) ?_
      | refine OpJ.pure (OpP.pick_t rfl (by with_reducible assumption) rfl) ?_
      | refine OpJ.pure (OpP.pick_f rfl (by with_reducible assumption) rfl) ?_
      | refine OpJ.pure (OpP.pick_dt rfl (by omega) rfl) ?_
      | refine OpJ.pure (OpP.pick_df rfl (by omega) rfl) ?_
      | refine OpJ.pure (OpP.pick_t rfl rfl rfl) ?_
      | refine OpJ.pure (OpP.pick_f rfl rfl rfl) ?_
      | refine OpJ.pure (OpP.pick rfl rfl rfl) ?_)
    | refine OpsJ.nil ?_
    | refine CodeJ.cond_t rfl (by with_reducible assumption) ?_
    | refine CodeJ.cond_f rfl (by with_reducible assumption) ?_
    | refine CodeJ.cond_dt rfl (by omega) ?_
    | refine CodeJ.cond_df rfl (by omega) ?_
    | refine CodeJ.cond_t rfl rfl ?_
    | refine CodeJ.cond_f rfl rfl ?_)
  refine OpsJ.put (d := 17) rfl (OpJ.call (pass := []) rfl (by repeat (first | exact Split.nil | apply Split.p0 | apply Split.p1 | apply Split.p2 | apply Split.p3 | apply Split.p4 | apply Split.p5 | apply Split.p6 | apply Split.p7 | apply Split.p8)) (fun R' hle hin => sum_calls R' _ _ _ _ [[49, 50, 51, 52], [53, 54, 55, 56, 57]] (inRow hin (by repeat (first | exact List.Mem.head _ | apply List.Mem.tail))) ⟨rfl, fun i hi => ?_⟩ rfl ?_ (by decide)) ?_)
  · match i, hi with
    | 0, _ => exact ⟨_, _, rfl, hrc13.mono (by first | (refine IM.le_trans ?_ hle; repeat (first | exact IM.le_or_right (by assumption) | refine IM.le_trans ?_ (IM.le_or _ _))) | (repeat (first | exact IM.le_or_right (by assumption) | refine IM.le_trans ?_ (IM.le_or _ _))))⟩
    | 1, _ => exact ⟨_, _, rfl, hrc15.mono (by first | (refine IM.le_trans ?_ hle; repeat (first | exact IM.le_or_right (by assumption) | refine IM.le_trans ?_ (IM.le_or _ _))) | (repeat (first | exact IM.le_or_right (by assumption) | refine IM.le_trans ?_ (IM.le_or _ _))))⟩
    | i + 2, hi => simp at hi; omega
  · intro i hi
    match i, hi with
    | 0, _ => decide
    | 1, _ => decide
    | i + 2, hi => simp at hi; omega
  rintro v D5 hs5 hd5 ⟨rfl, rfl⟩
  have hcrc : crcSum [[49, 50, 51, 52], [53, 54, 55, 56, 57]].flatten = 3421780262 := by decide +kernel
  rw [hcrc]
  repeat (first
    | refine CodeJ.seq' ?_
    | refine CodeJ.region ?_
    | refine CodeJ.block ?_
    | refine CodeJ.skip ?_
    | refine CodeJ.exit rfl ?_
    | refine CodeJ.ret' ?_
    | (refine OpsJ.put (d := 5) rfl ?_; refine OpJ.conv_bytes rfl (by first | exact List.Perm.refl _ | exact List.Perm.swap _ _ _ | exact permm2 _ _ _ _ | exact permm3 _ _ _ _ _ | exact permm4 _ _ _ _ _ _ | exact permm5 _ _ _ _ _ _ _) (fun D5 hdis5 hrc5 => ?_))
    | (refine OpsJ.put (d := 5) rfl ?_; refine OpJ.conv_string_bytes rfl (fun A5 c5 D5 hdis5 hrc5 hcap5 => ?_))
    | (refine OpsJ.put (d := 13) rfl ?_; refine OpJ.conv_bytes rfl (by first | exact List.Perm.refl _ | exact List.Perm.swap _ _ _ | exact permm2 _ _ _ _ | exact permm3 _ _ _ _ _ | exact permm4 _ _ _ _ _ _ | exact permm5 _ _ _ _ _ _ _) (fun D13 hdis13 hrc13 => ?_))
    | (refine OpsJ.put (d := 13) rfl ?_; refine OpJ.conv_string_bytes rfl (fun A13 c13 D13 hdis13 hrc13 hcap13 => ?_))
    | (refine OpsJ.put (d := 15) rfl ?_; refine OpJ.conv_bytes rfl (by first | exact List.Perm.refl _ | exact List.Perm.swap _ _ _ | exact permm2 _ _ _ _ | exact permm3 _ _ _ _ _ | exact permm4 _ _ _ _ _ _ | exact permm5 _ _ _ _ _ _ _) (fun D15 hdis15 hrc15 => ?_))
    | (refine OpsJ.put (d := 15) rfl ?_; refine OpJ.conv_string_bytes rfl (fun A15 c15 D15 hdis15 hrc15 hcap15 => ?_))
    | (refine OpsJ.gsel rfl rfl rfl rfl ?_; first | refine GuardJ.yes (by with_reducible assumption) ?_ | refine GuardJ.no (by with_reducible assumption) ?_ | refine GuardJ.dt rfl (by omega) ?_ | refine GuardJ.nf rfl (by omega) ?_ | refine GuardJ.df rfl (by omega) ?_ | refine GuardJ.nt rfl (by omega) ?_ | refine GuardJ.yes rfl ?_ | refine GuardJ.no rfl ?_)
    | (refine OpsJ.gund rfl rfl rfl rfl ?_)
    | (refine OpsJ.put rfl ?_; first
      | refine OpJ.pure (OpP.assign rfl) ?_
      | refine OpJ.alloc (fun _ => ?_)
      | (refine OpJ.buildSlice rfl rfl (by exact rfl) (by exact rfl) rfl (fun _ => ?_); dsimp only [lsplice, take1, take2, take3, take4, drop1, drop2, drop3, drop4, List.take_zero, List.drop_zero, List.cons_append, List.nil_append, List.length_cons, List.length_nil, Nat.reduceAdd, fillL, sliceL, Value.cells, List.toList_toArray, List.append_nil, List.getElem?_cons_zero, get1, get2, get3, Option.getD_some])
      | refine OpJ.pure (OpP.conv_in rfl (by first | exact IntWalk.i64_in _ (by omega) | exact IntWalk.u8_in _ (by omega) | exact IntWalk.u32_in _ (by omega) | exact wrap_u64_in _ (by omega))) ?_
      | refine OpJ.pure (OpP.conv_int rfl) ?_
      | refine OpJ.pure (OpP.conv_string rfl) ?_
      | refine OpJ.pure (OpP.move rfl) ?_
      | refine OpJ.pure (OpP.eql rfl rfl) ?_
      | refine OpJ.pure (OpP.eql_string rfl rfl) ?_
      | refine OpJ.pure (OpP.eql_bool rfl rfl) ?_
      | refine OpJ.pure (OpP.eql_nil rfl rfl) ?_
      | refine OpJ.pure (OpP.eql_nil_slice rfl rfl) ?_
      | refine OpJ.pure (OpP.pick_t rfl (by with_reducible assumption) rfl) ?_
      | refine OpJ.pure (OpP.pick_f rfl (by with_reducible assumption) rfl) ?_
      | refine OpJ.pure (OpP.pick_dt rfl (by omega) rfl) ?_
      | refine OpJ.pure (OpP.pick_df rfl (by omega) rfl) ?_
      | refine OpJ.pure (OpP.pick_t rfl rfl rfl) ?_
      | refine OpJ.pure (OpP.pick_f rfl rfl rfl) ?_
      | refine OpJ.pure (OpP.pick rfl rfl rfl) ?_)
    | refine OpsJ.nil ?_
    | refine CodeJ.cond_t rfl (by with_reducible assumption) ?_
    | refine CodeJ.cond_f rfl (by with_reducible assumption) ?_
    | refine CodeJ.cond_dt rfl (by omega) ?_
    | refine CodeJ.cond_df rfl (by omega) ?_
    | refine CodeJ.cond_t rfl rfl ?_
    | refine CodeJ.cond_f rfl rfl ?_)
  exact Ret.mk0 ⟨rfl, rfl⟩ (ResJ.one Try.results16 rfl) (by repeat (first | exact IM.le_refl _ | assumption | refine IM.le_trans ?_ (IM.le_or _ _))) (by repeat (first | exact SubL.nil _ | refine SubL.p0 ?_ | refine SubL.p1 ?_ | refine SubL.p2 ?_ | refine SubL.p3 ?_ | refine SubL.p4 ?_ | refine SubL.p5 ?_ | refine SubL.p6 ?_ | refine SubL.p7 ?_))
end Go.Proofs.Ytdicpnnmhjgnbaa.FW
