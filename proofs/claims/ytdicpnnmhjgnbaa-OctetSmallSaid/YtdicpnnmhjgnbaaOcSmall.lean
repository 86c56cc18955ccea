/- winnowerlaw1.OctetSmall: for every whole number the law answers true, and the number reads as it did. Conditions: none. -/
import Derived.Test.YtdicpnnmhjgnbaaOc4
import Derived.Test.YtdicpnnmhjgnbaaRows
import Derived.WalkKit
import Derived.ProofKit
import Derived.OpenShut
import Derived.ShutString
import Derived.ChangeOld
import Derived.Below
import Derived.SizedLaws
namespace Go.Proofs.Ytdicpnnmhjgnbaa.FW
open Go Go.RowKit Go.Proofs
set_option linter.unusedVariables false
set_option linter.unusedSimpArgs false
set_option maxRecDepth 100000
set_option maxHeartbeats 4000000
attribute [local irreducible] OpsJ CodeJ OpJ OpQ OpP QuietJ CallJ Src RC
theorem enc_pos (u : Nat) : 1 ≤ (enc u).length := by
  by_cases h : u < 128
  · rw [enc_small h]; simp
  · rw [enc_big h]; simp
theorem enc_last (u : Nat) (hu : 0 < u) : ((enc u).getD ((enc u).length - 1) 0).toNat ≠ 0 := by
  induction u using Nat.strongRecOn with
  | _ u ih =>
    by_cases h : u < 128
    · rw [enc_small h]
      simp only [List.length_cons, List.length_nil, Nat.zero_add, Nat.sub_self, List.getD_cons_zero, UInt8.toNat_ofNat']
      omega
    · rw [enc_big h]
      have h1 := ih (u / 128) (by omega) (by omega)
      have h2 := enc_pos (u / 128)
      rw [List.length_cons, Nat.add_sub_cancel]
      rw [show (enc (u / 128)).length = ((enc (u / 128)).length - 1) + 1 from by omega, List.getD_cons_succ]
      exact h1
theorem enc_first_small {u : Nat} (h : u < 128) : ((enc u).getD 0 0).toNat < 128 := by
  rw [enc_small h]; simp only [List.getD_cons_zero, UInt8.toNat_ofNat']; omega
theorem enc_first_big {u : Nat} (h : ¬ u < 128) : ¬ ((enc u).getD 0 0).toNat < 128 := by
  rw [enc_big h]; simp only [List.getD_cons_zero, UInt8.toNat_ofNat']; omega
theorem small_calls (R : IM) (v : Int) (hv0 : -9223372036854775808 ≤ v) (hv1 : v ≤ 9223372036854775807) : CallJ Try.prog 3 #[.int .i64 v] ⟨R, []⟩ (fun u D hs' => u = .bool true) := by
  refine CallJ.of1 Try.func3 rfl Try.ntmps3 rfl (fun W0 => ?_)
  by_cases h0 : v < 0
  · repeat (first
      | refine CodeJ.seq' ?_
      | refine CodeJ.region ?_
      | refine CodeJ.block ?_
      | refine CodeJ.skip ?_
      | refine CodeJ.exit rfl ?_
      | refine CodeJ.ret' ?_
      | (refine OpsJ.put (d := 2) rfl ?_; first | refine OpJ.pure (OpP.assign rfl) ?_)
      | (refine OpsJ.put (d := 7) rfl ?_; first | refine OpJ.pure (OpP.move rfl) ?_)
      | (refine OpsJ.put (d := 8) rfl ?_; first | refine OpJ.pure (OpP.lss rfl rfl) ?_)
      | (refine OpsJ.put (d := 9) rfl ?_; first | refine OpJ.pure (OpP.move rfl) ?_)
      | (refine OpsJ.gsel (d := 10) (j := 2) (want := false) rfl rfl rfl rfl ?_; first | refine GuardJ.yes (by with_reducible assumption) ?_ | refine GuardJ.no (by with_reducible assumption) ?_ | refine GuardJ.df rfl (by omega) ?_ | refine GuardJ.nt rfl (by omega) ?_ | refine GuardJ.yes rfl ?_ | refine GuardJ.no rfl ?_)
      | (refine OpsJ.put (d := 10) rfl ?_; first | refine OpJ.pure (OpP.move rfl) ?_)
      | (refine OpsJ.gsel (d := 11) (j := 2) (want := false) rfl rfl rfl rfl ?_; first | refine GuardJ.yes (by with_reducible assumption) ?_ | refine GuardJ.no (by with_reducible assumption) ?_ | refine GuardJ.df rfl (by omega) ?_ | refine GuardJ.nt rfl (by omega) ?_ | refine GuardJ.yes rfl ?_ | refine GuardJ.no rfl ?_)
      | (refine OpsJ.put (d := 11) rfl ?_; first | refine OpJ.pure (OpP.gtr rfl rfl) ?_)
      | (refine OpsJ.put (d := 12) rfl ?_; first | refine OpJ.pure (OpP.pick_t rfl (by with_reducible assumption) rfl) ?_ | refine OpJ.pure (OpP.pick_f rfl (by with_reducible assumption) rfl) ?_ | refine OpJ.pure (OpP.pick_dt rfl (by omega) rfl) ?_ | refine OpJ.pure (OpP.pick_df rfl (by omega) rfl) ?_ | refine OpJ.pure (OpP.pick_t rfl rfl rfl) ?_ | refine OpJ.pure (OpP.pick_f rfl rfl rfl) ?_ | refine OpJ.pure (OpP.pick rfl rfl rfl) ?_)
      | (refine OpsJ.put (d := 3) rfl ?_; first | refine OpJ.alloc (fun _ => ?_))
      | (refine OpsJ.put (d := 14) rfl ?_; first | refine OpJ.pure (OpP.move rfl) ?_)
      | (refine OpsJ.put (d := 15) rfl ?_; first | (refine OpJ.buildSlice rfl rfl (by exact rfl) (by exact rfl) rfl (fun _ => ?_); dsimp only [lsplice, take1, take2, take3, take4, drop1, drop2, drop3, drop4, List.take_zero, List.drop_zero, List.cons_append, List.nil_append, List.length_cons, List.length_nil, Nat.reduceAdd, fillL, sliceL, Value.cells, List.toList_toArray, List.append_nil]))
      | (refine OpsJ.put (d := 4) rfl ?_; first | refine OpJ.pure (OpP.assign rfl) ?_)
      | (refine OpsJ.put (d := 5) rfl ?_; first | refine OpJ.pure (OpP.assign rfl) ?_)
      | (refine OpsJ.put (d := 18) rfl ?_; first | refine OpJ.pure (OpP.move rfl) ?_)
      | (refine OpsJ.put (d := 19) rfl ?_; first | refine OpJ.pure (OpP.shr_nat rfl rfl rfl) ?_ | refine OpJ.pure (OpP.shr rfl rfl (by omega)) ?_)
      | (refine OpsJ.put (d := 6) rfl ?_; first | refine OpJ.pure (OpP.assign rfl) ?_)
      | (refine OpsJ.put (d := 20) rfl ?_; first | refine OpJ.pure (OpP.move rfl) ?_)
      | (refine OpsJ.put (d := 21) rfl ?_; first | refine OpJ.pure (OpP.gtr rfl rfl) ?_)
      | (refine OpsJ.put (d := 24) rfl ?_; first | refine OpJ.pure (OpP.move rfl) ?_)
      | (refine OpsJ.put (d := 25) rfl ?_; first | refine OpJ.pure (OpP.add_in rfl rfl (by omega) (by omega)) ?_ | refine OpJ.pure (OpP.cat rfl rfl (by omega)) ?_ | refine OpJ.pure (OpP.add rfl rfl) ?_)
      | (refine OpsJ.put (d := 22) rfl ?_; first | refine OpJ.pure (OpP.move rfl) ?_)
      | (refine OpsJ.put (d := 23) rfl ?_; first | refine OpJ.pure (OpP.shr_nat rfl rfl rfl) ?_ | refine OpJ.pure (OpP.shr rfl rfl (by omega)) ?_)
      | (refine OpsJ.put (d := 26) rfl ?_; first | refine OpJ.pure (OpP.move rfl) ?_)
      | (refine OpsJ.put (d := 27) rfl ?_; first | refine OpJ.pure (OpP.len rfl) ?_ | refine OpJ.pure (OpP.len_string rfl) ?_)
      | (refine OpsJ.put (d := 28) rfl ?_; first | refine OpJ.pure (OpP.move rfl) ?_)
      | (refine OpsJ.put (d := 29) rfl ?_; first | refine OpJ.pure (OpP.eql rfl rfl) ?_ | refine OpJ.pure (OpP.eql_string rfl rfl) ?_ | refine OpJ.pure (OpP.eql_bool rfl rfl) ?_ | refine OpJ.pure (OpP.eql_nil rfl rfl) ?_ | refine OpJ.pure (OpP.eql_nil_slice rfl rfl) ?_)
      | (refine OpsJ.put (d := 30) rfl ?_; first | refine OpJ.pure (OpP.move rfl) ?_)
      | (refine OpsJ.gsel (d := 31) (j := 4) (want := true) rfl rfl rfl rfl ?_; first | refine GuardJ.yes (by with_reducible assumption) ?_ | refine GuardJ.no (by with_reducible assumption) ?_ | refine GuardJ.dt rfl (by omega) ?_ | refine GuardJ.nf rfl (by omega) ?_ | refine GuardJ.yes rfl ?_ | refine GuardJ.no rfl ?_)
      | (refine OpsJ.put (d := 31) rfl ?_; first | refine OpJ.pure (OpP.move rfl) ?_)
      | (refine OpsJ.gsel (d := 32) (j := 4) (want := true) rfl rfl rfl rfl ?_; first | refine GuardJ.yes (by with_reducible assumption) ?_ | refine GuardJ.no (by with_reducible assumption) ?_ | refine GuardJ.dt rfl (by omega) ?_ | refine GuardJ.nf rfl (by omega) ?_ | refine GuardJ.yes rfl ?_ | refine GuardJ.no rfl ?_)
      | (refine OpsJ.put (d := 32) rfl ?_; first | refine OpJ.pure (OpP.idx1 rfl rfl (by omega) (by omega) (Src.ofR (by with_reducible assumption)) (ne_get (by assumption))) ?_ | refine OpJ.pure (OpP.idx1 rfl rfl (by omega) (by omega) (Src.ofRow (by repeat (first | exact List.Mem.head _ | apply List.Mem.tail))) (ne_get (by assumption))) ?_)
      | (refine OpsJ.gsel (d := 33) (j := 4) (want := true) rfl rfl rfl rfl ?_; first | refine GuardJ.yes (by with_reducible assumption) ?_ | refine GuardJ.no (by with_reducible assumption) ?_ | refine GuardJ.dt rfl (by omega) ?_ | refine GuardJ.nf rfl (by omega) ?_ | refine GuardJ.yes rfl ?_ | refine GuardJ.no rfl ?_)
      | (refine OpsJ.put (d := 33) rfl ?_; first | refine OpJ.pure (OpP.load_blk (by exact rfl) rfl (by repeat (first | exact List.Mem.head _ | apply List.Mem.tail)) rfl) ?_ | refine OpJ.pure (OpP.loadN_blk (by exact rfl) rfl (by repeat (first | exact List.Mem.head _ | apply List.Mem.tail)) (by exact rfl)) ?_ | refine OpJ.pure (OpP.load1 (by exact rfl) rfl (Src.ofR (by with_reducible assumption)) rfl (by assumption)) ?_ | refine OpJ.pure (OpP.load1 (by exact rfl) rfl (Src.ofRow (by repeat (first | exact List.Mem.head _ | apply List.Mem.tail))) rfl (by assumption)) ?_)
      | (refine OpsJ.gsel (d := 34) (j := 4) (want := true) rfl rfl rfl rfl ?_; first | refine GuardJ.yes (by with_reducible assumption) ?_ | refine GuardJ.no (by with_reducible assumption) ?_ | refine GuardJ.dt rfl (by omega) ?_ | refine GuardJ.nf rfl (by omega) ?_ | refine GuardJ.yes rfl ?_ | refine GuardJ.no rfl ?_)
      | (refine OpsJ.put (d := 34) rfl ?_; first | refine OpJ.pure (OpP.lss rfl rfl) ?_)
      | (refine OpsJ.gsel (d := 35) (j := 4) (want := true) rfl rfl rfl rfl ?_; first | refine GuardJ.yes (by with_reducible assumption) ?_ | refine GuardJ.no (by with_reducible assumption) ?_ | refine GuardJ.dt rfl (by omega) ?_ | refine GuardJ.nf rfl (by omega) ?_ | refine GuardJ.yes rfl ?_ | refine GuardJ.no rfl ?_)
      | (refine OpsJ.put (d := 35) rfl ?_; first | refine OpJ.pure (OpP.move rfl) ?_)
      | (refine OpsJ.gsel (d := 36) (j := 4) (want := true) rfl rfl rfl rfl ?_; first | refine GuardJ.yes (by with_reducible assumption) ?_ | refine GuardJ.no (by with_reducible assumption) ?_ | refine GuardJ.dt rfl (by omega) ?_ | refine GuardJ.nf rfl (by omega) ?_ | refine GuardJ.yes rfl ?_ | refine GuardJ.no rfl ?_)
      | (refine OpsJ.put (d := 36) rfl ?_; first | refine OpJ.pure (OpP.lss rfl rfl) ?_)
      | (refine OpsJ.gsel (d := 37) (j := 4) (want := true) rfl rfl rfl rfl ?_; first | refine GuardJ.yes (by with_reducible assumption) ?_ | refine GuardJ.no (by with_reducible assumption) ?_ | refine GuardJ.dt rfl (by omega) ?_ | refine GuardJ.nf rfl (by omega) ?_ | refine GuardJ.yes rfl ?_ | refine GuardJ.no rfl ?_)
      | (refine OpsJ.put (d := 37) rfl ?_; first | refine OpJ.pure (OpP.eql rfl rfl) ?_ | refine OpJ.pure (OpP.eql_string rfl rfl) ?_ | refine OpJ.pure (OpP.eql_bool rfl rfl) ?_ | refine OpJ.pure (OpP.eql_nil rfl rfl) ?_ | refine OpJ.pure (OpP.eql_nil_slice rfl rfl) ?_)
      | (refine OpsJ.put (d := 38) rfl ?_; first | refine OpJ.pure (OpP.pick_t rfl (by with_reducible assumption) rfl) ?_ | refine OpJ.pure (OpP.pick_f rfl (by with_reducible assumption) rfl) ?_ | refine OpJ.pure (OpP.pick_dt rfl (by omega) rfl) ?_ | refine OpJ.pure (OpP.pick_df rfl (by omega) rfl) ?_ | refine OpJ.pure (OpP.pick_t rfl rfl rfl) ?_ | refine OpJ.pure (OpP.pick_f rfl rfl rfl) ?_ | refine OpJ.pure (OpP.pick rfl rfl rfl) ?_)
      | (refine OpsJ.put (d := 39) rfl ?_; first | refine OpJ.pure (OpP.move rfl) ?_)
      | (refine OpsJ.gsel (d := 40) (j := 13) (want := true) rfl rfl rfl rfl ?_; first | refine GuardJ.yes (by with_reducible assumption) ?_ | refine GuardJ.no (by with_reducible assumption) ?_ | refine GuardJ.dt rfl (by omega) ?_ | refine GuardJ.nf rfl (by omega) ?_ | refine GuardJ.yes rfl ?_ | refine GuardJ.no rfl ?_)
      | (refine OpsJ.put (d := 40) rfl ?_; first | refine OpJ.pure (OpP.move rfl) ?_)
      | (refine OpsJ.gsel (d := 41) (j := 13) (want := true) rfl rfl rfl rfl ?_; first | refine GuardJ.yes (by with_reducible assumption) ?_ | refine GuardJ.no (by with_reducible assumption) ?_ | refine GuardJ.dt rfl (by omega) ?_ | refine GuardJ.nf rfl (by omega) ?_ | refine GuardJ.yes rfl ?_ | refine GuardJ.no rfl ?_)
      | (refine OpsJ.put (d := 41) rfl ?_; first | refine OpJ.pure (OpP.eql rfl rfl) ?_ | refine OpJ.pure (OpP.eql_string rfl rfl) ?_ | refine OpJ.pure (OpP.eql_bool rfl rfl) ?_ | refine OpJ.pure (OpP.eql_nil rfl rfl) ?_ | refine OpJ.pure (OpP.eql_nil_slice rfl rfl) ?_)
      | (refine OpsJ.gsel (d := 42) (j := 13) (want := true) rfl rfl rfl rfl ?_; first | refine GuardJ.yes (by with_reducible assumption) ?_ | refine GuardJ.no (by with_reducible assumption) ?_ | refine GuardJ.dt rfl (by omega) ?_ | refine GuardJ.nf rfl (by omega) ?_ | refine GuardJ.yes rfl ?_ | refine GuardJ.no rfl ?_)
      | (refine OpsJ.put (d := 42) rfl ?_; first | refine OpJ.pure (OpP.move rfl) ?_)
      | (refine OpsJ.gsel (d := 43) (j := 16) (want := false) rfl rfl rfl rfl ?_; first | refine GuardJ.yes (by with_reducible assumption) ?_ | refine GuardJ.no (by with_reducible assumption) ?_ | refine GuardJ.df rfl (by omega) ?_ | refine GuardJ.nt rfl (by omega) ?_ | refine GuardJ.yes rfl ?_ | refine GuardJ.no rfl ?_)
      | (refine OpsJ.put (d := 43) rfl ?_; first | refine OpJ.pure (OpP.move rfl) ?_)
      | (refine OpsJ.gsel (d := 44) (j := 16) (want := false) rfl rfl rfl rfl ?_; first | refine GuardJ.yes (by with_reducible assumption) ?_ | refine GuardJ.no (by with_reducible assumption) ?_ | refine GuardJ.df rfl (by omega) ?_ | refine GuardJ.nt rfl (by omega) ?_ | refine GuardJ.yes rfl ?_ | refine GuardJ.no rfl ?_)
      | (refine OpsJ.put (d := 44) rfl ?_; first | refine OpJ.pure (OpP.move rfl) ?_)
      | (refine OpsJ.gsel (d := 45) (j := 16) (want := false) rfl rfl rfl rfl ?_; first | refine GuardJ.yes (by with_reducible assumption) ?_ | refine GuardJ.no (by with_reducible assumption) ?_ | refine GuardJ.df rfl (by omega) ?_ | refine GuardJ.nt rfl (by omega) ?_ | refine GuardJ.yes rfl ?_ | refine GuardJ.no rfl ?_)
      | (refine OpsJ.put (d := 45) rfl ?_; first | refine OpJ.pure (OpP.sub_in rfl rfl (by omega) (by omega)) ?_ | refine OpJ.pure (OpP.sub rfl rfl) ?_)
      | (refine OpsJ.gsel (d := 46) (j := 16) (want := false) rfl rfl rfl rfl ?_; first | refine GuardJ.yes (by with_reducible assumption) ?_ | refine GuardJ.no (by with_reducible assumption) ?_ | refine GuardJ.df rfl (by omega) ?_ | refine GuardJ.nt rfl (by omega) ?_ | refine GuardJ.yes rfl ?_ | refine GuardJ.no rfl ?_)
      | (refine OpsJ.put (d := 46) rfl ?_; first | refine OpJ.pure (OpP.idx1 rfl rfl (by omega) (by omega) (Src.ofR (by with_reducible assumption)) (ne_get (by assumption))) ?_ | refine OpJ.pure (OpP.idx1 rfl rfl (by omega) (by omega) (Src.ofRow (by repeat (first | exact List.Mem.head _ | apply List.Mem.tail))) (ne_get (by assumption))) ?_)
      | (refine OpsJ.gsel (d := 47) (j := 16) (want := false) rfl rfl rfl rfl ?_; first | refine GuardJ.yes (by with_reducible assumption) ?_ | refine GuardJ.no (by with_reducible assumption) ?_ | refine GuardJ.df rfl (by omega) ?_ | refine GuardJ.nt rfl (by omega) ?_ | refine GuardJ.yes rfl ?_ | refine GuardJ.no rfl ?_)
      | (refine OpsJ.put (d := 47) rfl ?_; first | refine OpJ.pure (OpP.load_blk (by exact rfl) rfl (by repeat (first | exact List.Mem.head _ | apply List.Mem.tail)) rfl) ?_ | refine OpJ.pure (OpP.loadN_blk (by exact rfl) rfl (by repeat (first | exact List.Mem.head _ | apply List.Mem.tail)) (by exact rfl)) ?_ | refine OpJ.pure (OpP.load1 (by exact rfl) rfl (Src.ofR (by with_reducible assumption)) rfl (by assumption)) ?_ | refine OpJ.pure (OpP.load1 (by exact rfl) rfl (Src.ofRow (by repeat (first | exact List.Mem.head _ | apply List.Mem.tail))) rfl (by assumption)) ?_)
      | (refine OpsJ.gsel (d := 48) (j := 16) (want := false) rfl rfl rfl rfl ?_; first | refine GuardJ.yes (by with_reducible assumption) ?_ | refine GuardJ.no (by with_reducible assumption) ?_ | refine GuardJ.df rfl (by omega) ?_ | refine GuardJ.nt rfl (by omega) ?_ | refine GuardJ.yes rfl ?_ | refine GuardJ.no rfl ?_)
      | (refine OpsJ.put (d := 48) rfl ?_; first | refine OpJ.pure (OpP.neq rfl rfl) ?_ | refine OpJ.pure (OpP.neq_string rfl rfl) ?_ | refine OpJ.pure (OpP.neq_bool rfl rfl) ?_ | refine OpJ.pure (OpP.neq_nil rfl rfl) ?_ | refine OpJ.pure (OpP.neq_nil_slice rfl rfl) ?_)
      | (refine OpsJ.gsel (d := 49) (j := 13) (want := true) rfl rfl rfl rfl ?_; first | refine GuardJ.yes (by with_reducible assumption) ?_ | refine GuardJ.no (by with_reducible assumption) ?_ | refine GuardJ.dt rfl (by omega) ?_ | refine GuardJ.nf rfl (by omega) ?_ | refine GuardJ.yes rfl ?_ | refine GuardJ.no rfl ?_)
      | (refine OpsJ.put (d := 49) rfl ?_; first | refine OpJ.pure (OpP.pick_t rfl (by with_reducible assumption) rfl) ?_ | refine OpJ.pure (OpP.pick_f rfl (by with_reducible assumption) rfl) ?_ | refine OpJ.pure (OpP.pick_dt rfl (by omega) rfl) ?_ | refine OpJ.pure (OpP.pick_df rfl (by omega) rfl) ?_ | refine OpJ.pure (OpP.pick_t rfl rfl rfl) ?_ | refine OpJ.pure (OpP.pick_f rfl rfl rfl) ?_ | refine OpJ.pure (OpP.pick rfl rfl rfl) ?_)
      | (refine OpsJ.put (d := 50) rfl ?_; first | refine OpJ.pure (OpP.pick_t rfl (by with_reducible assumption) rfl) ?_ | refine OpJ.pure (OpP.pick_f rfl (by with_reducible assumption) rfl) ?_ | refine OpJ.pure (OpP.pick_dt rfl (by omega) rfl) ?_ | refine OpJ.pure (OpP.pick_df rfl (by omega) rfl) ?_ | refine OpJ.pure (OpP.pick_t rfl rfl rfl) ?_ | refine OpJ.pure (OpP.pick_f rfl rfl rfl) ?_ | refine OpJ.pure (OpP.pick rfl rfl rfl) ?_)
      | (refine OpsJ.put (d := 51) rfl ?_; first | refine OpJ.pure (OpP.move rfl) ?_)
      | (refine OpsJ.gsel (d := 52) (j := 25) (want := true) rfl rfl rfl rfl ?_; first | refine GuardJ.yes (by with_reducible assumption) ?_ | refine GuardJ.no (by with_reducible assumption) ?_ | refine GuardJ.dt rfl (by omega) ?_ | refine GuardJ.nf rfl (by omega) ?_ | refine GuardJ.yes rfl ?_ | refine GuardJ.no rfl ?_)
      | (refine OpsJ.put (d := 53) rfl ?_; first | refine OpJ.pure (OpP.pick_t rfl (by with_reducible assumption) rfl) ?_ | refine OpJ.pure (OpP.pick_f rfl (by with_reducible assumption) rfl) ?_ | refine OpJ.pure (OpP.pick_dt rfl (by omega) rfl) ?_ | refine OpJ.pure (OpP.pick_df rfl (by omega) rfl) ?_ | refine OpJ.pure (OpP.pick_t rfl rfl rfl) ?_ | refine OpJ.pure (OpP.pick_f rfl rfl rfl) ?_ | refine OpJ.pure (OpP.pick rfl rfl rfl) ?_)
      | refine OpsJ.nil ?_
      | refine CodeJ.cond_t rfl (by with_reducible assumption) ?_
      | refine CodeJ.cond_f rfl (by with_reducible assumption) ?_
      | refine CodeJ.cond_dt rfl (by omega) ?_
      | refine CodeJ.cond_df rfl (by omega) ?_
      | refine CodeJ.cond_t rfl rfl ?_
      | refine CodeJ.cond_f rfl rfl ?_)
    refine OpsJ.put (d := 13) rfl (OpJ.call (pass := []) rfl (by repeat (first | exact Split.nil | apply Split.p0 | apply Split.p1 | apply Split.p2 | apply Split.p3 | apply Split.p4 | apply Split.p5 | apply Split.p6 | apply Split.p7 | apply Split.p8)) (fun R' hle hin => known_calls R') ?_)
    rintro u D hs1 hd ⟨rfl, rfl⟩
    repeat (first
      | refine CodeJ.seq' ?_
      | refine CodeJ.region ?_
      | refine CodeJ.block ?_
      | refine CodeJ.skip ?_
      | refine CodeJ.exit rfl ?_
      | refine CodeJ.ret' ?_
      | (refine OpsJ.put (d := 2) rfl ?_; first | refine OpJ.pure (OpP.assign rfl) ?_)
      | (refine OpsJ.put (d := 7) rfl ?_; first | refine OpJ.pure (OpP.move rfl) ?_)
      | (refine OpsJ.put (d := 8) rfl ?_; first | refine OpJ.pure (OpP.lss rfl rfl) ?_)
      | (refine OpsJ.put (d := 9) rfl ?_; first | refine OpJ.pure (OpP.move rfl) ?_)
      | (refine OpsJ.gsel (d := 10) (j := 2) (want := false) rfl rfl rfl rfl ?_; first | refine GuardJ.yes (by with_reducible assumption) ?_ | refine GuardJ.no (by with_reducible assumption) ?_ | refine GuardJ.df rfl (by omega) ?_ | refine GuardJ.nt rfl (by omega) ?_ | refine GuardJ.yes rfl ?_ | refine GuardJ.no rfl ?_)
      | (refine OpsJ.put (d := 10) rfl ?_; first | refine OpJ.pure (OpP.move rfl) ?_)
      | (refine OpsJ.gsel (d := 11) (j := 2) (want := false) rfl rfl rfl rfl ?_; first | refine GuardJ.yes (by with_reducible assumption) ?_ | refine GuardJ.no (by with_reducible assumption) ?_ | refine GuardJ.df rfl (by omega) ?_ | refine GuardJ.nt rfl (by omega) ?_ | refine GuardJ.yes rfl ?_ | refine GuardJ.no rfl ?_)
      | (refine OpsJ.put (d := 11) rfl ?_; first | refine OpJ.pure (OpP.gtr rfl rfl) ?_)
      | (refine OpsJ.put (d := 12) rfl ?_; first | refine OpJ.pure (OpP.pick_t rfl (by with_reducible assumption) rfl) ?_ | refine OpJ.pure (OpP.pick_f rfl (by with_reducible assumption) rfl) ?_ | refine OpJ.pure (OpP.pick_dt rfl (by omega) rfl) ?_ | refine OpJ.pure (OpP.pick_df rfl (by omega) rfl) ?_ | refine OpJ.pure (OpP.pick_t rfl rfl rfl) ?_ | refine OpJ.pure (OpP.pick_f rfl rfl rfl) ?_ | refine OpJ.pure (OpP.pick rfl rfl rfl) ?_)
      | (refine OpsJ.put (d := 3) rfl ?_; first | refine OpJ.alloc (fun _ => ?_))
      | (refine OpsJ.put (d := 14) rfl ?_; first | refine OpJ.pure (OpP.move rfl) ?_)
      | (refine OpsJ.put (d := 15) rfl ?_; first | (refine OpJ.buildSlice rfl rfl (by exact rfl) (by exact rfl) rfl (fun _ => ?_); dsimp only [lsplice, take1, take2, take3, take4, drop1, drop2, drop3, drop4, List.take_zero, List.drop_zero, List.cons_append, List.nil_append, List.length_cons, List.length_nil, Nat.reduceAdd, fillL, sliceL, Value.cells, List.toList_toArray, List.append_nil]))
      | (refine OpsJ.put (d := 4) rfl ?_; first | refine OpJ.pure (OpP.assign rfl) ?_)
      | (refine OpsJ.put (d := 5) rfl ?_; first | refine OpJ.pure (OpP.assign rfl) ?_)
      | (refine OpsJ.put (d := 18) rfl ?_; first | refine OpJ.pure (OpP.move rfl) ?_)
      | (refine OpsJ.put (d := 19) rfl ?_; first | refine OpJ.pure (OpP.shr_nat rfl rfl rfl) ?_ | refine OpJ.pure (OpP.shr rfl rfl (by omega)) ?_)
      | (refine OpsJ.put (d := 6) rfl ?_; first | refine OpJ.pure (OpP.assign rfl) ?_)
      | (refine OpsJ.put (d := 20) rfl ?_; first | refine OpJ.pure (OpP.move rfl) ?_)
      | (refine OpsJ.put (d := 21) rfl ?_; first | refine OpJ.pure (OpP.gtr rfl rfl) ?_)
      | (refine OpsJ.put (d := 24) rfl ?_; first | refine OpJ.pure (OpP.move rfl) ?_)
      | (refine OpsJ.put (d := 25) rfl ?_; first | refine OpJ.pure (OpP.add_in rfl rfl (by omega) (by omega)) ?_ | refine OpJ.pure (OpP.cat rfl rfl (by omega)) ?_ | refine OpJ.pure (OpP.add rfl rfl) ?_)
      | (refine OpsJ.put (d := 22) rfl ?_; first | refine OpJ.pure (OpP.move rfl) ?_)
      | (refine OpsJ.put (d := 23) rfl ?_; first | refine OpJ.pure (OpP.shr_nat rfl rfl rfl) ?_ | refine OpJ.pure (OpP.shr rfl rfl (by omega)) ?_)
      | (refine OpsJ.put (d := 26) rfl ?_; first | refine OpJ.pure (OpP.move rfl) ?_)
      | (refine OpsJ.put (d := 27) rfl ?_; first | refine OpJ.pure (OpP.len rfl) ?_ | refine OpJ.pure (OpP.len_string rfl) ?_)
      | (refine OpsJ.put (d := 28) rfl ?_; first | refine OpJ.pure (OpP.move rfl) ?_)
      | (refine OpsJ.put (d := 29) rfl ?_; first | refine OpJ.pure (OpP.eql rfl rfl) ?_ | refine OpJ.pure (OpP.eql_string rfl rfl) ?_ | refine OpJ.pure (OpP.eql_bool rfl rfl) ?_ | refine OpJ.pure (OpP.eql_nil rfl rfl) ?_ | refine OpJ.pure (OpP.eql_nil_slice rfl rfl) ?_)
      | (refine OpsJ.put (d := 30) rfl ?_; first | refine OpJ.pure (OpP.move rfl) ?_)
      | (refine OpsJ.gsel (d := 31) (j := 4) (want := true) rfl rfl rfl rfl ?_; first | refine GuardJ.yes (by with_reducible assumption) ?_ | refine GuardJ.no (by with_reducible assumption) ?_ | refine GuardJ.dt rfl (by omega) ?_ | refine GuardJ.nf rfl (by omega) ?_ | refine GuardJ.yes rfl ?_ | refine GuardJ.no rfl ?_)
      | (refine OpsJ.put (d := 31) rfl ?_; first | refine OpJ.pure (OpP.move rfl) ?_)
      | (refine OpsJ.gsel (d := 32) (j := 4) (want := true) rfl rfl rfl rfl ?_; first | refine GuardJ.yes (by with_reducible assumption) ?_ | refine GuardJ.no (by with_reducible assumption) ?_ | refine GuardJ.dt rfl (by omega) ?_ | refine GuardJ.nf rfl (by omega) ?_ | refine GuardJ.yes rfl ?_ | refine GuardJ.no rfl ?_)
      | (refine OpsJ.put (d := 32) rfl ?_; first | refine OpJ.pure (OpP.idx1 rfl rfl (by omega) (by omega) (Src.ofR (by with_reducible assumption)) (ne_get (by assumption))) ?_ | refine OpJ.pure (OpP.idx1 rfl rfl (by omega) (by omega) (Src.ofRow (by repeat (first | exact List.Mem.head _ | apply List.Mem.tail))) (ne_get (by assumption))) ?_)
      | (refine OpsJ.gsel (d := 33) (j := 4) (want := true) rfl rfl rfl rfl ?_; first | refine GuardJ.yes (by with_reducible assumption) ?_ | refine GuardJ.no (by with_reducible assumption) ?_ | refine GuardJ.dt rfl (by omega) ?_ | refine GuardJ.nf rfl (by omega) ?_ | refine GuardJ.yes rfl ?_ | refine GuardJ.no rfl ?_)
      | (refine OpsJ.put (d := 33) rfl ?_; first | refine OpJ.pure (OpP.load_blk (by exact rfl) rfl (by repeat (first | exact List.Mem.head _ | apply List.Mem.tail)) rfl) ?_ | refine OpJ.pure (OpP.loadN_blk (by exact rfl) rfl (by repeat (first | exact List.Mem.head _ | apply List.Mem.tail)) (by exact rfl)) ?_ | refine OpJ.pure (OpP.load1 (by exact rfl) rfl (Src.ofR (by with_reducible assumption)) rfl (by assumption)) ?_ | refine OpJ.pure (OpP.load1 (by exact rfl) rfl (Src.ofRow (by repeat (first | exact List.Mem.head _ | apply List.Mem.tail))) rfl (by assumption)) ?_)
      | (refine OpsJ.gsel (d := 34) (j := 4) (want := true) rfl rfl rfl rfl ?_; first | refine GuardJ.yes (by with_reducible assumption) ?_ | refine GuardJ.no (by with_reducible assumption) ?_ | refine GuardJ.dt rfl (by omega) ?_ | refine GuardJ.nf rfl (by omega) ?_ | refine GuardJ.yes rfl ?_ | refine GuardJ.no rfl ?_)
      | (refine OpsJ.put (d := 34) rfl ?_; first | refine OpJ.pure (OpP.lss rfl rfl) ?_)
      | (refine OpsJ.gsel (d := 35) (j := 4) (want := true) rfl rfl rfl rfl ?_; first | refine GuardJ.yes (by with_reducible assumption) ?_ | refine GuardJ.no (by with_reducible assumption) ?_ | refine GuardJ.dt rfl (by omega) ?_ | refine GuardJ.nf rfl (by omega) ?_ | refine GuardJ.yes rfl ?_ | refine GuardJ.no rfl ?_)
      | (refine OpsJ.put (d := 35) rfl ?_; first | refine OpJ.pure (OpP.move rfl) ?_)
      | (refine OpsJ.gsel (d := 36) (j := 4) (want := true) rfl rfl rfl rfl ?_; first | refine GuardJ.yes (by with_reducible assumption) ?_ | refine GuardJ.no (by with_reducible assumption) ?_ | refine GuardJ.dt rfl (by omega) ?_ | refine GuardJ.nf rfl (by omega) ?_ | refine GuardJ.yes rfl ?_ | refine GuardJ.no rfl ?_)
      | (refine OpsJ.put (d := 36) rfl ?_; first | refine OpJ.pure (OpP.lss rfl rfl) ?_)
      | (refine OpsJ.gsel (d := 37) (j := 4) (want := true) rfl rfl rfl rfl ?_; first | refine GuardJ.yes (by with_reducible assumption) ?_ | refine GuardJ.no (by with_reducible assumption) ?_ | refine GuardJ.dt rfl (by omega) ?_ | refine GuardJ.nf rfl (by omega) ?_ | refine GuardJ.yes rfl ?_ | refine GuardJ.no rfl ?_)
      | (refine OpsJ.put (d := 37) rfl ?_; first | refine OpJ.pure (OpP.eql rfl rfl) ?_ | refine OpJ.pure (OpP.eql_string rfl rfl) ?_ | refine OpJ.pure (OpP.eql_bool rfl rfl) ?_ | refine OpJ.pure (OpP.eql_nil rfl rfl) ?_ | refine OpJ.pure (OpP.eql_nil_slice rfl rfl) ?_)
      | (refine OpsJ.put (d := 38) rfl ?_; first | refine OpJ.pure (OpP.pick_t rfl (by with_reducible assumption) rfl) ?_ | refine OpJ.pure (OpP.pick_f rfl (by with_reducible assumption) rfl) ?_ | refine OpJ.pure (OpP.pick_dt rfl (by omega) rfl) ?_ | refine OpJ.pure (OpP.pick_df rfl (by omega) rfl) ?_ | refine OpJ.pure (OpP.pick_t rfl rfl rfl) ?_ | refine OpJ.pure (OpP.pick_f rfl rfl rfl) ?_ | refine OpJ.pure (OpP.pick rfl rfl rfl) ?_)
      | (refine OpsJ.put (d := 39) rfl ?_; first | refine OpJ.pure (OpP.move rfl) ?_)
      | (refine OpsJ.gsel (d := 40) (j := 13) (want := true) rfl rfl rfl rfl ?_; first | refine GuardJ.yes (by with_reducible assumption) ?_ | refine GuardJ.no (by with_reducible assumption) ?_ | refine GuardJ.dt rfl (by omega) ?_ | refine GuardJ.nf rfl (by omega) ?_ | refine GuardJ.yes rfl ?_ | refine GuardJ.no rfl ?_)
      | (refine OpsJ.put (d := 40) rfl ?_; first | refine OpJ.pure (OpP.move rfl) ?_)
      | (refine OpsJ.gsel (d := 41) (j := 13) (want := true) rfl rfl rfl rfl ?_; first | refine GuardJ.yes (by with_reducible assumption) ?_ | refine GuardJ.no (by with_reducible assumption) ?_ | refine GuardJ.dt rfl (by omega) ?_ | refine GuardJ.nf rfl (by omega) ?_ | refine GuardJ.yes rfl ?_ | refine GuardJ.no rfl ?_)
      | (refine OpsJ.put (d := 41) rfl ?_; first | refine OpJ.pure (OpP.eql rfl rfl) ?_ | refine OpJ.pure (OpP.eql_string rfl rfl) ?_ | refine OpJ.pure (OpP.eql_bool rfl rfl) ?_ | refine OpJ.pure (OpP.eql_nil rfl rfl) ?_ | refine OpJ.pure (OpP.eql_nil_slice rfl rfl) ?_)
      | (refine OpsJ.gsel (d := 42) (j := 13) (want := true) rfl rfl rfl rfl ?_; first | refine GuardJ.yes (by with_reducible assumption) ?_ | refine GuardJ.no (by with_reducible assumption) ?_ | refine GuardJ.dt rfl (by omega) ?_ | refine GuardJ.nf rfl (by omega) ?_ | refine GuardJ.yes rfl ?_ | refine GuardJ.no rfl ?_)
      | (refine OpsJ.put (d := 42) rfl ?_; first | refine OpJ.pure (OpP.move rfl) ?_)
      | (refine OpsJ.gsel (d := 43) (j := 16) (want := false) rfl rfl rfl rfl ?_; first | refine GuardJ.yes (by with_reducible assumption) ?_ | refine GuardJ.no (by with_reducible assumption) ?_ | refine GuardJ.df rfl (by omega) ?_ | refine GuardJ.nt rfl (by omega) ?_ | refine GuardJ.yes rfl ?_ | refine GuardJ.no rfl ?_)
      | (refine OpsJ.put (d := 43) rfl ?_; first | refine OpJ.pure (OpP.move rfl) ?_)
      | (refine OpsJ.gsel (d := 44) (j := 16) (want := false) rfl rfl rfl rfl ?_; first | refine GuardJ.yes (by with_reducible assumption) ?_ | refine GuardJ.no (by with_reducible assumption) ?_ | refine GuardJ.df rfl (by omega) ?_ | refine GuardJ.nt rfl (by omega) ?_ | refine GuardJ.yes rfl ?_ | refine GuardJ.no rfl ?_)
      | (refine OpsJ.put (d := 44) rfl ?_; first | refine OpJ.pure (OpP.move rfl) ?_)
      | (refine OpsJ.gsel (d := 45) (j := 16) (want := false) rfl rfl rfl rfl ?_; first | refine GuardJ.yes (by with_reducible assumption) ?_ | refine GuardJ.no (by with_reducible assumption) ?_ | refine GuardJ.df rfl (by omega) ?_ | refine GuardJ.nt rfl (by omega) ?_ | refine GuardJ.yes rfl ?_ | refine GuardJ.no rfl ?_)
      | (refine OpsJ.put (d := 45) rfl ?_; first | refine OpJ.pure (OpP.sub_in rfl rfl (by omega) (by omega)) ?_ | refine OpJ.pure (OpP.sub rfl rfl) ?_)
      | (refine OpsJ.gsel (d := 46) (j := 16) (want := false) rfl rfl rfl rfl ?_; first | refine GuardJ.yes (by with_reducible assumption) ?_ | refine GuardJ.no (by with_reducible assumption) ?_ | refine GuardJ.df rfl (by omega) ?_ | refine GuardJ.nt rfl (by omega) ?_ | refine GuardJ.yes rfl ?_ | refine GuardJ.no rfl ?_)
      | (refine OpsJ.put (d := 46) rfl ?_; first | refine OpJ.pure (OpP.idx1 rfl rfl (by omega) (by omega) (Src.ofR (by with_reducible assumption)) (ne_get (by assumption))) ?_ | refine OpJ.pure (OpP.idx1 rfl rfl (by omega) (by omega) (Src.ofRow (by repeat (first | exact List.Mem.head _ | apply List.Mem.tail))) (ne_get (by assumption))) ?_)
      | (refine OpsJ.gsel (d := 47) (j := 16) (want := false) rfl rfl rfl rfl ?_; first | refine GuardJ.yes (by with_reducible assumption) ?_ | refine GuardJ.no (by with_reducible assumption) ?_ | refine GuardJ.df rfl (by omega) ?_ | refine GuardJ.nt rfl (by omega) ?_ | refine GuardJ.yes rfl ?_ | refine GuardJ.no rfl ?_)
      | (refine OpsJ.put (d := 47) rfl ?_; first | refine OpJ.pure (OpP.load_blk (by exact rfl) rfl (by repeat (first | exact List.Mem.head _ | apply List.Mem.tail)) rfl) ?_ | refine OpJ.pure (OpP.loadN_blk (by exact rfl) rfl (by repeat (first | exact List.Mem.head _ | apply List.Mem.tail)) (by exact rfl)) ?_ | refine OpJ.pure (OpP.load1 (by exact rfl) rfl (Src.ofR (by with_reducible assumption)) rfl (by assumption)) ?_ | refine OpJ.pure (OpP.load1 (by exact rfl) rfl (Src.ofRow (by repeat (first | exact List.Mem.head _ | apply List.Mem.tail))) rfl (by assumption)) ?_)
      | (refine OpsJ.gsel (d := 48) (j := 16) (want := false) rfl rfl rfl rfl ?_; first | refine GuardJ.yes (by with_reducible assumption) ?_ | refine GuardJ.no (by with_reducible assumption) ?_ | refine GuardJ.df rfl (by omega) ?_ | refine GuardJ.nt rfl (by omega) ?_ | refine GuardJ.yes rfl ?_ | refine GuardJ.no rfl ?_)
      | (refine OpsJ.put (d := 48) rfl ?_; first | refine OpJ.pure (OpP.neq rfl rfl) ?_ | refine OpJ.pure (OpP.neq_string rfl rfl) ?_ | refine OpJ.pure (OpP.neq_bool rfl rfl) ?_ | refine OpJ.pure (OpP.neq_nil rfl rfl) ?_ | refine OpJ.pure (OpP.neq_nil_slice rfl rfl) ?_)
      | (refine OpsJ.gsel (d := 49) (j := 13) (want := true) rfl rfl rfl rfl ?_; first | refine GuardJ.yes (by with_reducible assumption) ?_ | refine GuardJ.no (by with_reducible assumption) ?_ | refine GuardJ.dt rfl (by omega) ?_ | refine GuardJ.nf rfl (by omega) ?_ | refine GuardJ.yes rfl ?_ | refine GuardJ.no rfl ?_)
      | (refine OpsJ.put (d := 49) rfl ?_; first | refine OpJ.pure (OpP.pick_t rfl (by with_reducible assumption) rfl) ?_ | refine OpJ.pure (OpP.pick_f rfl (by with_reducible assumption) rfl) ?_ | refine OpJ.pure (OpP.pick_dt rfl (by omega) rfl) ?_ | refine OpJ.pure (OpP.pick_df rfl (by omega) rfl) ?_ | refine OpJ.pure (OpP.pick_t rfl rfl rfl) ?_ | refine OpJ.pure (OpP.pick_f rfl rfl rfl) ?_ | refine OpJ.pure (OpP.pick rfl rfl rfl) ?_)
      | (refine OpsJ.put (d := 50) rfl ?_; first | refine OpJ.pure (OpP.pick_t rfl (by with_reducible assumption) rfl) ?_ | refine OpJ.pure (OpP.pick_f rfl (by with_reducible assumption) rfl) ?_ | refine OpJ.pure (OpP.pick_dt rfl (by omega) rfl) ?_ | refine OpJ.pure (OpP.pick_df rfl (by omega) rfl) ?_ | refine OpJ.pure (OpP.pick_t rfl rfl rfl) ?_ | refine OpJ.pure (OpP.pick_f rfl rfl rfl) ?_ | refine OpJ.pure (OpP.pick rfl rfl rfl) ?_)
      | (refine OpsJ.put (d := 51) rfl ?_; first | refine OpJ.pure (OpP.move rfl) ?_)
      | (refine OpsJ.gsel (d := 52) (j := 25) (want := true) rfl rfl rfl rfl ?_; first | refine GuardJ.yes (by with_reducible assumption) ?_ | refine GuardJ.no (by with_reducible assumption) ?_ | refine GuardJ.dt rfl (by omega) ?_ | refine GuardJ.nf rfl (by omega) ?_ | refine GuardJ.yes rfl ?_ | refine GuardJ.no rfl ?_)
      | (refine OpsJ.put (d := 53) rfl ?_; first | refine OpJ.pure (OpP.pick_t rfl (by with_reducible assumption) rfl) ?_ | refine OpJ.pure (OpP.pick_f rfl (by with_reducible assumption) rfl) ?_ | refine OpJ.pure (OpP.pick_dt rfl (by omega) rfl) ?_ | refine OpJ.pure (OpP.pick_df rfl (by omega) rfl) ?_ | refine OpJ.pure (OpP.pick_t rfl rfl rfl) ?_ | refine OpJ.pure (OpP.pick_f rfl rfl rfl) ?_ | refine OpJ.pure (OpP.pick rfl rfl rfl) ?_)
      | refine OpsJ.nil ?_
      | refine CodeJ.cond_t rfl (by with_reducible assumption) ?_
      | refine CodeJ.cond_f rfl (by with_reducible assumption) ?_
      | refine CodeJ.cond_dt rfl (by omega) ?_
      | refine CodeJ.cond_df rfl (by omega) ?_
      | refine CodeJ.cond_t rfl rfl ?_
      | refine CodeJ.cond_f rfl rfl ?_)
    exact Ret.mk0 rfl (ResJ.one Try.results3 rfl) (by repeat (first | exact IM.le_refl _ | assumption | refine IM.le_trans ?_ (IM.le_or _ _))) (by repeat (first | exact SubL.nil _ | refine SubL.p0 ?_ | refine SubL.p1 ?_ | refine SubL.p2 ?_ | refine SubL.p3 ?_ | refine SubL.p4 ?_ | refine SubL.p5 ?_ | refine SubL.p6 ?_ | refine SubL.p7 ?_))
  · by_cases h1 : v > 4611686018427387904
    · repeat (first
        | refine CodeJ.seq' ?_
        | refine CodeJ.region ?_
        | refine CodeJ.block ?_
        | refine CodeJ.skip ?_
        | refine CodeJ.exit rfl ?_
        | refine CodeJ.ret' ?_
        | (refine OpsJ.put (d := 2) rfl ?_; first | refine OpJ.pure (OpP.assign rfl) ?_)
        | (refine OpsJ.put (d := 7) rfl ?_; first | refine OpJ.pure (OpP.move rfl) ?_)
        | (refine OpsJ.put (d := 8) rfl ?_; first | refine OpJ.pure (OpP.lss rfl rfl) ?_)
        | (refine OpsJ.put (d := 9) rfl ?_; first | refine OpJ.pure (OpP.move rfl) ?_)
        | (refine OpsJ.gsel (d := 10) (j := 2) (want := false) rfl rfl rfl rfl ?_; first | refine GuardJ.yes (by with_reducible assumption) ?_ | refine GuardJ.no (by with_reducible assumption) ?_ | refine GuardJ.df rfl (by omega) ?_ | refine GuardJ.nt rfl (by omega) ?_ | refine GuardJ.yes rfl ?_ | refine GuardJ.no rfl ?_)
        | (refine OpsJ.put (d := 10) rfl ?_; first | refine OpJ.pure (OpP.move rfl) ?_)
        | (refine OpsJ.gsel (d := 11) (j := 2) (want := false) rfl rfl rfl rfl ?_; first | refine GuardJ.yes (by with_reducible assumption) ?_ | refine GuardJ.no (by with_reducible assumption) ?_ | refine GuardJ.df rfl (by omega) ?_ | refine GuardJ.nt rfl (by omega) ?_ | refine GuardJ.yes rfl ?_ | refine GuardJ.no rfl ?_)
        | (refine OpsJ.put (d := 11) rfl ?_; first | refine OpJ.pure (OpP.gtr rfl rfl) ?_)
        | (refine OpsJ.put (d := 12) rfl ?_; first | refine OpJ.pure (OpP.pick_t rfl (by with_reducible assumption) rfl) ?_ | refine OpJ.pure (OpP.pick_f rfl (by with_reducible assumption) rfl) ?_ | refine OpJ.pure (OpP.pick_dt rfl (by omega) rfl) ?_ | refine OpJ.pure (OpP.pick_df rfl (by omega) rfl) ?_ | refine OpJ.pure (OpP.pick_t rfl rfl rfl) ?_ | refine OpJ.pure (OpP.pick_f rfl rfl rfl) ?_ | refine OpJ.pure (OpP.pick rfl rfl rfl) ?_)
        | (refine OpsJ.put (d := 3) rfl ?_; first | refine OpJ.alloc (fun _ => ?_))
        | (refine OpsJ.put (d := 14) rfl ?_; first | refine OpJ.pure (OpP.move rfl) ?_)
        | (refine OpsJ.put (d := 15) rfl ?_; first | (refine OpJ.buildSlice rfl rfl (by exact rfl) (by exact rfl) rfl (fun _ => ?_); dsimp only [lsplice, take1, take2, take3, take4, drop1, drop2, drop3, drop4, List.take_zero, List.drop_zero, List.cons_append, List.nil_append, List.length_cons, List.length_nil, Nat.reduceAdd, fillL, sliceL, Value.cells, List.toList_toArray, List.append_nil]))
        | (refine OpsJ.put (d := 4) rfl ?_; first | refine OpJ.pure (OpP.assign rfl) ?_)
        | (refine OpsJ.put (d := 5) rfl ?_; first | refine OpJ.pure (OpP.assign rfl) ?_)
        | (refine OpsJ.put (d := 18) rfl ?_; first | refine OpJ.pure (OpP.move rfl) ?_)
        | (refine OpsJ.put (d := 19) rfl ?_; first | refine OpJ.pure (OpP.shr_nat rfl rfl rfl) ?_ | refine OpJ.pure (OpP.shr rfl rfl (by omega)) ?_)
        | (refine OpsJ.put (d := 6) rfl ?_; first | refine OpJ.pure (OpP.assign rfl) ?_)
        | (refine OpsJ.put (d := 20) rfl ?_; first | refine OpJ.pure (OpP.move rfl) ?_)
        | (refine OpsJ.put (d := 21) rfl ?_; first | refine OpJ.pure (OpP.gtr rfl rfl) ?_)
        | (refine OpsJ.put (d := 24) rfl ?_; first | refine OpJ.pure (OpP.move rfl) ?_)
        | (refine OpsJ.put (d := 25) rfl ?_; first | refine OpJ.pure (OpP.add_in rfl rfl (by omega) (by omega)) ?_ | refine OpJ.pure (OpP.cat rfl rfl (by omega)) ?_ | refine OpJ.pure (OpP.add rfl rfl) ?_)
        | (refine OpsJ.put (d := 22) rfl ?_; first | refine OpJ.pure (OpP.move rfl) ?_)
        | (refine OpsJ.put (d := 23) rfl ?_; first | refine OpJ.pure (OpP.shr_nat rfl rfl rfl) ?_ | refine OpJ.pure (OpP.shr rfl rfl (by omega)) ?_)
        | (refine OpsJ.put (d := 26) rfl ?_; first | refine OpJ.pure (OpP.move rfl) ?_)
        | (refine OpsJ.put (d := 27) rfl ?_; first | refine OpJ.pure (OpP.len rfl) ?_ | refine OpJ.pure (OpP.len_string rfl) ?_)
        | (refine OpsJ.put (d := 28) rfl ?_; first | refine OpJ.pure (OpP.move rfl) ?_)
        | (refine OpsJ.put (d := 29) rfl ?_; first | refine OpJ.pure (OpP.eql rfl rfl) ?_ | refine OpJ.pure (OpP.eql_string rfl rfl) ?_ | refine OpJ.pure (OpP.eql_bool rfl rfl) ?_ | refine OpJ.pure (OpP.eql_nil rfl rfl) ?_ | refine OpJ.pure (OpP.eql_nil_slice rfl rfl) ?_)
        | (refine OpsJ.put (d := 30) rfl ?_; first | refine OpJ.pure (OpP.move rfl) ?_)
        | (refine OpsJ.gsel (d := 31) (j := 4) (want := true) rfl rfl rfl rfl ?_; first | refine GuardJ.yes (by with_reducible assumption) ?_ | refine GuardJ.no (by with_reducible assumption) ?_ | refine GuardJ.dt rfl (by omega) ?_ | refine GuardJ.nf rfl (by omega) ?_ | refine GuardJ.yes rfl ?_ | refine GuardJ.no rfl ?_)
        | (refine OpsJ.put (d := 31) rfl ?_; first | refine OpJ.pure (OpP.move rfl) ?_)
        | (refine OpsJ.gsel (d := 32) (j := 4) (want := true) rfl rfl rfl rfl ?_; first | refine GuardJ.yes (by with_reducible assumption) ?_ | refine GuardJ.no (by with_reducible assumption) ?_ | refine GuardJ.dt rfl (by omega) ?_ | refine GuardJ.nf rfl (by omega) ?_ | refine GuardJ.yes rfl ?_ | refine GuardJ.no rfl ?_)
        | (refine OpsJ.put (d := 32) rfl ?_; first | refine OpJ.pure (OpP.idx1 rfl rfl (by omega) (by omega) (Src.ofR (by with_reducible assumption)) (ne_get (by assumption))) ?_ | refine OpJ.pure (OpP.idx1 rfl rfl (by omega) (by omega) (Src.ofRow (by repeat (first | exact List.Mem.head _ | apply List.Mem.tail))) (ne_get (by assumption))) ?_)
        | (refine OpsJ.gsel (d := 33) (j := 4) (want := true) rfl rfl rfl rfl ?_; first | refine GuardJ.yes (by with_reducible assumption) ?_ | refine GuardJ.no (by with_reducible assumption) ?_ | refine GuardJ.dt rfl (by omega) ?_ | refine GuardJ.nf rfl (by omega) ?_ | refine GuardJ.yes rfl ?_ | refine GuardJ.no rfl ?_)
        | (refine OpsJ.put (d := 33) rfl ?_; first | refine OpJ.pure (OpP.load_blk (by exact rfl) rfl (by repeat (first | exact List.Mem.head _ | apply List.Mem.tail)) rfl) ?_ | refine OpJ.pure (OpP.loadN_blk (by exact rfl) rfl (by repeat (first | exact List.Mem.head _ | apply List.Mem.tail)) (by exact rfl)) ?_ | refine OpJ.pure (OpP.load1 (by exact rfl) rfl (Src.ofR (by with_reducible assumption)) rfl (by assumption)) ?_ | refine OpJ.pure (OpP.load1 (by exact rfl) rfl (Src.ofRow (by repeat (first | exact List.Mem.head _ | apply List.Mem.tail))) rfl (by assumption)) ?_)
        | (refine OpsJ.gsel (d := 34) (j := 4) (want := true) rfl rfl rfl rfl ?_; first | refine GuardJ.yes (by with_reducible assumption) ?_ | refine GuardJ.no (by with_reducible assumption) ?_ | refine GuardJ.dt rfl (by omega) ?_ | refine GuardJ.nf rfl (by omega) ?_ | refine GuardJ.yes rfl ?_ | refine GuardJ.no rfl ?_)
        | (refine OpsJ.put (d := 34) rfl ?_; first | refine OpJ.pure (OpP.lss rfl rfl) ?_)
        | (refine OpsJ.gsel (d := 35) (j := 4) (want := true) rfl rfl rfl rfl ?_; first | refine GuardJ.yes (by with_reducible assumption) ?_ | refine GuardJ.no (by with_reducible assumption) ?_ | refine GuardJ.dt rfl (by omega) ?_ | refine GuardJ.nf rfl (by omega) ?_ | refine GuardJ.yes rfl ?_ | refine GuardJ.no rfl ?_)
        | (refine OpsJ.put (d := 35) rfl ?_; first | refine OpJ.pure (OpP.move rfl) ?_)
        | (refine OpsJ.gsel (d := 36) (j := 4) (want := true) rfl rfl rfl rfl ?_; first | refine GuardJ.yes (by with_reducible assumption) ?_ | refine GuardJ.no (by with_reducible assumption) ?_ | refine GuardJ.dt rfl (by omega) ?_ | refine GuardJ.nf rfl (by omega) ?_ | refine GuardJ.yes rfl ?_ | refine GuardJ.no rfl ?_)
        | (refine OpsJ.put (d := 36) rfl ?_; first | refine OpJ.pure (OpP.lss rfl rfl) ?_)
        | (refine OpsJ.gsel (d := 37) (j := 4) (want := true) rfl rfl rfl rfl ?_; first | refine GuardJ.yes (by with_reducible assumption) ?_ | refine GuardJ.no (by with_reducible assumption) ?_ | refine GuardJ.dt rfl (by omega) ?_ | refine GuardJ.nf rfl (by omega) ?_ | refine GuardJ.yes rfl ?_ | refine GuardJ.no rfl ?_)
        | (refine OpsJ.put (d := 37) rfl ?_; first | refine OpJ.pure (OpP.eql rfl rfl) ?_ | refine OpJ.pure (OpP.eql_string rfl rfl) ?_ | refine OpJ.pure (OpP.eql_bool rfl rfl) ?_ | refine OpJ.pure (OpP.eql_nil rfl rfl) ?_ | refine OpJ.pure (OpP.eql_nil_slice rfl rfl) ?_)
        | (refine OpsJ.put (d := 38) rfl ?_; first | refine OpJ.pure (OpP.pick_t rfl (by with_reducible assumption) rfl) ?_ | refine OpJ.pure (OpP.pick_f rfl (by with_reducible assumption) rfl) ?_ | refine OpJ.pure (OpP.pick_dt rfl (by omega) rfl) ?_ | refine OpJ.pure (OpP.pick_df rfl (by omega) rfl) ?_ | refine OpJ.pure (OpP.pick_t rfl rfl rfl) ?_ | refine OpJ.pure (OpP.pick_f rfl rfl rfl) ?_ | refine OpJ.pure (OpP.pick rfl rfl rfl) ?_)
        | (refine OpsJ.put (d := 39) rfl ?_; first | refine OpJ.pure (OpP.move rfl) ?_)
        | (refine OpsJ.gsel (d := 40) (j := 13) (want := true) rfl rfl rfl rfl ?_; first | refine GuardJ.yes (by with_reducible assumption) ?_ | refine GuardJ.no (by with_reducible assumption) ?_ | refine GuardJ.dt rfl (by omega) ?_ | refine GuardJ.nf rfl (by omega) ?_ | refine GuardJ.yes rfl ?_ | refine GuardJ.no rfl ?_)
        | (refine OpsJ.put (d := 40) rfl ?_; first | refine OpJ.pure (OpP.move rfl) ?_)
        | (refine OpsJ.gsel (d := 41) (j := 13) (want := true) rfl rfl rfl rfl ?_; first | refine GuardJ.yes (by with_reducible assumption) ?_ | refine GuardJ.no (by with_reducible assumption) ?_ | refine GuardJ.dt rfl (by omega) ?_ | refine GuardJ.nf rfl (by omega) ?_ | refine GuardJ.yes rfl ?_ | refine GuardJ.no rfl ?_)
        | (refine OpsJ.put (d := 41) rfl ?_; first | refine OpJ.pure (OpP.eql rfl rfl) ?_ | refine OpJ.pure (OpP.eql_string rfl rfl) ?_ | refine OpJ.pure (OpP.eql_bool rfl rfl) ?_ | refine OpJ.pure (OpP.eql_nil rfl rfl) ?_ | refine OpJ.pure (OpP.eql_nil_slice rfl rfl) ?_)
        | (refine OpsJ.gsel (d := 42) (j := 13) (want := true) rfl rfl rfl rfl ?_; first | refine GuardJ.yes (by with_reducible assumption) ?_ | refine GuardJ.no (by with_reducible assumption) ?_ | refine GuardJ.dt rfl (by omega) ?_ | refine GuardJ.nf rfl (by omega) ?_ | refine GuardJ.yes rfl ?_ | refine GuardJ.no rfl ?_)
        | (refine OpsJ.put (d := 42) rfl ?_; first | refine OpJ.pure (OpP.move rfl) ?_)
        | (refine OpsJ.gsel (d := 43) (j := 16) (want := false) rfl rfl rfl rfl ?_; first | refine GuardJ.yes (by with_reducible assumption) ?_ | refine GuardJ.no (by with_reducible assumption) ?_ | refine GuardJ.df rfl (by omega) ?_ | refine GuardJ.nt rfl (by omega) ?_ | refine GuardJ.yes rfl ?_ | refine GuardJ.no rfl ?_)
        | (refine OpsJ.put (d := 43) rfl ?_; first | refine OpJ.pure (OpP.move rfl) ?_)
        | (refine OpsJ.gsel (d := 44) (j := 16) (want := false) rfl rfl rfl rfl ?_; first | refine GuardJ.yes (by with_reducible assumption) ?_ | refine GuardJ.no (by with_reducible assumption) ?_ | refine GuardJ.df rfl (by omega) ?_ | refine GuardJ.nt rfl (by omega) ?_ | refine GuardJ.yes rfl ?_ | refine GuardJ.no rfl ?_)
        | (refine OpsJ.put (d := 44) rfl ?_; first | refine OpJ.pure (OpP.move rfl) ?_)
        | (refine OpsJ.gsel (d := 45) (j := 16) (want := false) rfl rfl rfl rfl ?_; first | refine GuardJ.yes (by with_reducible assumption) ?_ | refine GuardJ.no (by with_reducible assumption) ?_ | refine GuardJ.df rfl (by omega) ?_ | refine GuardJ.nt rfl (by omega) ?_ | refine GuardJ.yes rfl ?_ | refine GuardJ.no rfl ?_)
        | (refine OpsJ.put (d := 45) rfl ?_; first | refine OpJ.pure (OpP.sub_in rfl rfl (by omega) (by omega)) ?_ | refine OpJ.pure (OpP.sub rfl rfl) ?_)
        | (refine OpsJ.gsel (d := 46) (j := 16) (want := false) rfl rfl rfl rfl ?_; first | refine GuardJ.yes (by with_reducible assumption) ?_ | refine GuardJ.no (by with_reducible assumption) ?_ | refine GuardJ.df rfl (by omega) ?_ | refine GuardJ.nt rfl (by omega) ?_ | refine GuardJ.yes rfl ?_ | refine GuardJ.no rfl ?_)
        | (refine OpsJ.put (d := 46) rfl ?_; first | refine OpJ.pure (OpP.idx1 rfl rfl (by omega) (by omega) (Src.ofR (by with_reducible assumption)) (ne_get (by assumption))) ?_ | refine OpJ.pure (OpP.idx1 rfl rfl (by omega) (by omega) (Src.ofRow (by repeat (first | exact List.Mem.head _ | apply List.Mem.tail))) (ne_get (by assumption))) ?_)
        | (refine OpsJ.gsel (d := 47) (j := 16) (want := false) rfl rfl rfl rfl ?_; first | refine GuardJ.yes (by with_reducible assumption) ?_ | refine GuardJ.no (by with_reducible assumption) ?_ | refine GuardJ.df rfl (by omega) ?_ | refine GuardJ.nt rfl (by omega) ?_ | refine GuardJ.yes rfl ?_ | refine GuardJ.no rfl ?_)
        | (refine OpsJ.put (d := 47) rfl ?_; first | refine OpJ.pure (OpP.load_blk (by exact rfl) rfl (by repeat (first | exact List.Mem.head _ | apply List.Mem.tail)) rfl) ?_ | refine OpJ.pure (OpP.loadN_blk (by exact rfl) rfl (by repeat (first | exact List.Mem.head _ | apply List.Mem.tail)) (by exact rfl)) ?_ | refine OpJ.pure (OpP.load1 (by exact rfl) rfl (Src.ofR (by with_reducible assumption)) rfl (by assumption)) ?_ | refine OpJ.pure (OpP.load1 (by exact rfl) rfl (Src.ofRow (by repeat (first | exact List.Mem.head _ | apply List.Mem.tail))) rfl (by assumption)) ?_)
        | (refine OpsJ.gsel (d := 48) (j := 16) (want := false) rfl rfl rfl rfl ?_; first | refine GuardJ.yes (by with_reducible assumption) ?_ | refine GuardJ.no (by with_reducible assumption) ?_ | refine GuardJ.df rfl (by omega) ?_ | refine GuardJ.nt rfl (by omega) ?_ | refine GuardJ.yes rfl ?_ | refine GuardJ.no rfl ?_)
        | (refine OpsJ.put (d := 48) rfl ?_; first | refine OpJ.pure (OpP.neq rfl rfl) ?_ | refine OpJ.pure (OpP.neq_string rfl rfl) ?_ | refine OpJ.pure (OpP.neq_bool rfl rfl) ?_ | refine OpJ.pure (OpP.neq_nil rfl rfl) ?_ | refine OpJ.pure (OpP.neq_nil_slice rfl rfl) ?_)
        | (refine OpsJ.gsel (d := 49) (j := 13) (want := true) rfl rfl rfl rfl ?_; first | refine GuardJ.yes (by with_reducible assumption) ?_ | refine GuardJ.no (by with_reducible assumption) ?_ | refine GuardJ.dt rfl (by omega) ?_ | refine GuardJ.nf rfl (by omega) ?_ | refine GuardJ.yes rfl ?_ | refine GuardJ.no rfl ?_)
        | (refine OpsJ.put (d := 49) rfl ?_; first | refine OpJ.pure (OpP.pick_t rfl (by with_reducible assumption) rfl) ?_ | refine OpJ.pure (OpP.pick_f rfl (by with_reducible assumption) rfl) ?_ | refine OpJ.pure (OpP.pick_dt rfl (by omega) rfl) ?_ | refine OpJ.pure (OpP.pick_df rfl (by omega) rfl) ?_ | refine OpJ.pure (OpP.pick_t rfl rfl rfl) ?_ | refine OpJ.pure (OpP.pick_f rfl rfl rfl) ?_ | refine OpJ.pure (OpP.pick rfl rfl rfl) ?_)
        | (refine OpsJ.put (d := 50) rfl ?_; first | refine OpJ.pure (OpP.pick_t rfl (by with_reducible assumption) rfl) ?_ | refine OpJ.pure (OpP.pick_f rfl (by with_reducible assumption) rfl) ?_ | refine OpJ.pure (OpP.pick_dt rfl (by omega) rfl) ?_ | refine OpJ.pure (OpP.pick_df rfl (by omega) rfl) ?_ | refine OpJ.pure (OpP.pick_t rfl rfl rfl) ?_ | refine OpJ.pure (OpP.pick_f rfl rfl rfl) ?_ | refine OpJ.pure (OpP.pick rfl rfl rfl) ?_)
        | (refine OpsJ.put (d := 51) rfl ?_; first | refine OpJ.pure (OpP.move rfl) ?_)
        | (refine OpsJ.gsel (d := 52) (j := 25) (want := true) rfl rfl rfl rfl ?_; first | refine GuardJ.yes (by with_reducible assumption) ?_ | refine GuardJ.no (by with_reducible assumption) ?_ | refine GuardJ.dt rfl (by omega) ?_ | refine GuardJ.nf rfl (by omega) ?_ | refine GuardJ.yes rfl ?_ | refine GuardJ.no rfl ?_)
        | (refine OpsJ.put (d := 53) rfl ?_; first | refine OpJ.pure (OpP.pick_t rfl (by with_reducible assumption) rfl) ?_ | refine OpJ.pure (OpP.pick_f rfl (by with_reducible assumption) rfl) ?_ | refine OpJ.pure (OpP.pick_dt rfl (by omega) rfl) ?_ | refine OpJ.pure (OpP.pick_df rfl (by omega) rfl) ?_ | refine OpJ.pure (OpP.pick_t rfl rfl rfl) ?_ | refine OpJ.pure (OpP.pick_f rfl rfl rfl) ?_ | refine OpJ.pure (OpP.pick rfl rfl rfl) ?_)
        | refine OpsJ.nil ?_
        | refine CodeJ.cond_t rfl (by with_reducible assumption) ?_
        | refine CodeJ.cond_f rfl (by with_reducible assumption) ?_
        | refine CodeJ.cond_dt rfl (by omega) ?_
        | refine CodeJ.cond_df rfl (by omega) ?_
        | refine CodeJ.cond_t rfl rfl ?_
        | refine CodeJ.cond_f rfl rfl ?_)
      refine OpsJ.put (d := 13) rfl (OpJ.call (pass := []) rfl (by repeat (first | exact Split.nil | apply Split.p0 | apply Split.p1 | apply Split.p2 | apply Split.p3 | apply Split.p4 | apply Split.p5 | apply Split.p6 | apply Split.p7 | apply Split.p8)) (fun R' hle hin => known_calls R') ?_)
      rintro u D hs1 hd ⟨rfl, rfl⟩
      repeat (first
        | refine CodeJ.seq' ?_
        | refine CodeJ.region ?_
        | refine CodeJ.block ?_
        | refine CodeJ.skip ?_
        | refine CodeJ.exit rfl ?_
        | refine CodeJ.ret' ?_
        | (refine OpsJ.put (d := 2) rfl ?_; first | refine OpJ.pure (OpP.assign rfl) ?_)
        | (refine OpsJ.put (d := 7) rfl ?_; first | refine OpJ.pure (OpP.move rfl) ?_)
        | (refine OpsJ.put (d := 8) rfl ?_; first | refine OpJ.pure (OpP.lss rfl rfl) ?_)
        | (refine OpsJ.put (d := 9) rfl ?_; first | refine OpJ.pure (OpP.move rfl) ?_)
        | (refine OpsJ.gsel (d := 10) (j := 2) (want := false) rfl rfl rfl rfl ?_; first | refine GuardJ.yes (by with_reducible assumption) ?_ | refine GuardJ.no (by with_reducible assumption) ?_ | refine GuardJ.df rfl (by omega) ?_ | refine GuardJ.nt rfl (by omega) ?_ | refine GuardJ.yes rfl ?_ | refine GuardJ.no rfl ?_)
        | (refine OpsJ.put (d := 10) rfl ?_; first | refine OpJ.pure (OpP.move rfl) ?_)
        | (refine OpsJ.gsel (d := 11) (j := 2) (want := false) rfl rfl rfl rfl ?_; first | refine GuardJ.yes (by with_reducible assumption) ?_ | refine GuardJ.no (by with_reducible assumption) ?_ | refine GuardJ.df rfl (by omega) ?_ | refine GuardJ.nt rfl (by omega) ?_ | refine GuardJ.yes rfl ?_ | refine GuardJ.no rfl ?_)
        | (refine OpsJ.put (d := 11) rfl ?_; first | refine OpJ.pure (OpP.gtr rfl rfl) ?_)
        | (refine OpsJ.put (d := 12) rfl ?_; first | refine OpJ.pure (OpP.pick_t rfl (by with_reducible assumption) rfl) ?_ | refine OpJ.pure (OpP.pick_f rfl (by with_reducible assumption) rfl) ?_ | refine OpJ.pure (OpP.pick_dt rfl (by omega) rfl) ?_ | refine OpJ.pure (OpP.pick_df rfl (by omega) rfl) ?_ | refine OpJ.pure (OpP.pick_t rfl rfl rfl) ?_ | refine OpJ.pure (OpP.pick_f rfl rfl rfl) ?_ | refine OpJ.pure (OpP.pick rfl rfl rfl) ?_)
        | (refine OpsJ.put (d := 3) rfl ?_; first | refine OpJ.alloc (fun _ => ?_))
        | (refine OpsJ.put (d := 14) rfl ?_; first | refine OpJ.pure (OpP.move rfl) ?_)
        | (refine OpsJ.put (d := 15) rfl ?_; first | (refine OpJ.buildSlice rfl rfl (by exact rfl) (by exact rfl) rfl (fun _ => ?_); dsimp only [lsplice, take1, take2, take3, take4, drop1, drop2, drop3, drop4, List.take_zero, List.drop_zero, List.cons_append, List.nil_append, List.length_cons, List.length_nil, Nat.reduceAdd, fillL, sliceL, Value.cells, List.toList_toArray, List.append_nil]))
        | (refine OpsJ.put (d := 4) rfl ?_; first | refine OpJ.pure (OpP.assign rfl) ?_)
        | (refine OpsJ.put (d := 5) rfl ?_; first | refine OpJ.pure (OpP.assign rfl) ?_)
        | (refine OpsJ.put (d := 18) rfl ?_; first | refine OpJ.pure (OpP.move rfl) ?_)
        | (refine OpsJ.put (d := 19) rfl ?_; first | refine OpJ.pure (OpP.shr_nat rfl rfl rfl) ?_ | refine OpJ.pure (OpP.shr rfl rfl (by omega)) ?_)
        | (refine OpsJ.put (d := 6) rfl ?_; first | refine OpJ.pure (OpP.assign rfl) ?_)
        | (refine OpsJ.put (d := 20) rfl ?_; first | refine OpJ.pure (OpP.move rfl) ?_)
        | (refine OpsJ.put (d := 21) rfl ?_; first | refine OpJ.pure (OpP.gtr rfl rfl) ?_)
        | (refine OpsJ.put (d := 24) rfl ?_; first | refine OpJ.pure (OpP.move rfl) ?_)
        | (refine OpsJ.put (d := 25) rfl ?_; first | refine OpJ.pure (OpP.add_in rfl rfl (by omega) (by omega)) ?_ | refine OpJ.pure (OpP.cat rfl rfl (by omega)) ?_ | refine OpJ.pure (OpP.add rfl rfl) ?_)
        | (refine OpsJ.put (d := 22) rfl ?_; first | refine OpJ.pure (OpP.move rfl) ?_)
        | (refine OpsJ.put (d := 23) rfl ?_; first | refine OpJ.pure (OpP.shr_nat rfl rfl rfl) ?_ | refine OpJ.pure (OpP.shr rfl rfl (by omega)) ?_)
        | (refine OpsJ.put (d := 26) rfl ?_; first | refine OpJ.pure (OpP.move rfl) ?_)
        | (refine OpsJ.put (d := 27) rfl ?_; first | refine OpJ.pure (OpP.len rfl) ?_ | refine OpJ.pure (OpP.len_string rfl) ?_)
        | (refine OpsJ.put (d := 28) rfl ?_; first | refine OpJ.pure (OpP.move rfl) ?_)
        | (refine OpsJ.put (d := 29) rfl ?_; first | refine OpJ.pure (OpP.eql rfl rfl) ?_ | refine OpJ.pure (OpP.eql_string rfl rfl) ?_ | refine OpJ.pure (OpP.eql_bool rfl rfl) ?_ | refine OpJ.pure (OpP.eql_nil rfl rfl) ?_ | refine OpJ.pure (OpP.eql_nil_slice rfl rfl) ?_)
        | (refine OpsJ.put (d := 30) rfl ?_; first | refine OpJ.pure (OpP.move rfl) ?_)
        | (refine OpsJ.gsel (d := 31) (j := 4) (want := true) rfl rfl rfl rfl ?_; first | refine GuardJ.yes (by with_reducible assumption) ?_ | refine GuardJ.no (by with_reducible assumption) ?_ | refine GuardJ.dt rfl (by omega) ?_ | refine GuardJ.nf rfl (by omega) ?_ | refine GuardJ.yes rfl ?_ | refine GuardJ.no rfl ?_)
        | (refine OpsJ.put (d := 31) rfl ?_; first | refine OpJ.pure (OpP.move rfl) ?_)
        | (refine OpsJ.gsel (d := 32) (j := 4) (want := true) rfl rfl rfl rfl ?_; first | refine GuardJ.yes (by with_reducible assumption) ?_ | refine GuardJ.no (by with_reducible assumption) ?_ | refine GuardJ.dt rfl (by omega) ?_ | refine GuardJ.nf rfl (by omega) ?_ | refine GuardJ.yes rfl ?_ | refine GuardJ.no rfl ?_)
        | (refine OpsJ.put (d := 32) rfl ?_; first | refine OpJ.pure (OpP.idx1 rfl rfl (by omega) (by omega) (Src.ofR (by with_reducible assumption)) (ne_get (by assumption))) ?_ | refine OpJ.pure (OpP.idx1 rfl rfl (by omega) (by omega) (Src.ofRow (by repeat (first | exact List.Mem.head _ | apply List.Mem.tail))) (ne_get (by assumption))) ?_)
        | (refine OpsJ.gsel (d := 33) (j := 4) (want := true) rfl rfl rfl rfl ?_; first | refine GuardJ.yes (by with_reducible assumption) ?_ | refine GuardJ.no (by with_reducible assumption) ?_ | refine GuardJ.dt rfl (by omega) ?_ | refine GuardJ.nf rfl (by omega) ?_ | refine GuardJ.yes rfl ?_ | refine GuardJ.no rfl ?_)
        | (refine OpsJ.put (d := 33) rfl ?_; first | refine OpJ.pure (OpP.load_blk (by exact rfl) rfl (by repeat (first | exact List.Mem.head _ | apply List.Mem.tail)) rfl) ?_ | refine OpJ.pure (OpP.loadN_blk (by exact rfl) rfl (by repeat (first | exact List.Mem.head _ | apply List.Mem.tail)) (by exact rfl)) ?_ | refine OpJ.pure (OpP.load1 (by exact rfl) rfl (Src.ofR (by with_reducible assumption)) rfl (by assumption)) ?_ | refine OpJ.pure (OpP.load1 (by exact rfl) rfl (Src.ofRow (by repeat (first | exact List.Mem.head _ | apply List.Mem.tail))) rfl (by assumption)) ?_)
        | (refine OpsJ.gsel (d := 34) (j := 4) (want := true) rfl rfl rfl rfl ?_; first | refine GuardJ.yes (by with_reducible assumption) ?_ | refine GuardJ.no (by with_reducible assumption) ?_ | refine GuardJ.dt rfl (by omega) ?_ | refine GuardJ.nf rfl (by omega) ?_ | refine GuardJ.yes rfl ?_ | refine GuardJ.no rfl ?_)
        | (refine OpsJ.put (d := 34) rfl ?_; first | refine OpJ.pure (OpP.lss rfl rfl) ?_)
        | (refine OpsJ.gsel (d := 35) (j := 4) (want := true) rfl rfl rfl rfl ?_; first | refine GuardJ.yes (by with_reducible assumption) ?_ | refine GuardJ.no (by with_reducible assumption) ?_ | refine GuardJ.dt rfl (by omega) ?_ | refine GuardJ.nf rfl (by omega) ?_ | refine GuardJ.yes rfl ?_ | refine GuardJ.no rfl ?_)
        | (refine OpsJ.put (d := 35) rfl ?_; first | refine OpJ.pure (OpP.move rfl) ?_)
        | (refine OpsJ.gsel (d := 36) (j := 4) (want := true) rfl rfl rfl rfl ?_; first | refine GuardJ.yes (by with_reducible assumption) ?_ | refine GuardJ.no (by with_reducible assumption) ?_ | refine GuardJ.dt rfl (by omega) ?_ | refine GuardJ.nf rfl (by omega) ?_ | refine GuardJ.yes rfl ?_ | refine GuardJ.no rfl ?_)
        | (refine OpsJ.put (d := 36) rfl ?_; first | refine OpJ.pure (OpP.lss rfl rfl) ?_)
        | (refine OpsJ.gsel (d := 37) (j := 4) (want := true) rfl rfl rfl rfl ?_; first | refine GuardJ.yes (by with_reducible assumption) ?_ | refine GuardJ.no (by with_reducible assumption) ?_ | refine GuardJ.dt rfl (by omega) ?_ | refine GuardJ.nf rfl (by omega) ?_ | refine GuardJ.yes rfl ?_ | refine GuardJ.no rfl ?_)
        | (refine OpsJ.put (d := 37) rfl ?_; first | refine OpJ.pure (OpP.eql rfl rfl) ?_ | refine OpJ.pure (OpP.eql_string rfl rfl) ?_ | refine OpJ.pure (OpP.eql_bool rfl rfl) ?_ | refine OpJ.pure (OpP.eql_nil rfl rfl) ?_ | refine OpJ.pure (OpP.eql_nil_slice rfl rfl) ?_)
        | (refine OpsJ.put (d := 38) rfl ?_; first | refine OpJ.pure (OpP.pick_t rfl (by with_reducible assumption) rfl) ?_ | refine OpJ.pure (OpP.pick_f rfl (by with_reducible assumption) rfl) ?_ | refine OpJ.pure (OpP.pick_dt rfl (by omega) rfl) ?_ | refine OpJ.pure (OpP.pick_df rfl (by omega) rfl) ?_ | refine OpJ.pure (OpP.pick_t rfl rfl rfl) ?_ | refine OpJ.pure (OpP.pick_f rfl rfl rfl) ?_ | refine OpJ.pure (OpP.pick rfl rfl rfl) ?_)
        | (refine OpsJ.put (d := 39) rfl ?_; first | refine OpJ.pure (OpP.move rfl) ?_)
        | (refine OpsJ.gsel (d := 40) (j := 13) (want := true) rfl rfl rfl rfl ?_; first | refine GuardJ.yes (by with_reducible assumption) ?_ | refine GuardJ.no (by with_reducible assumption) ?_ | refine GuardJ.dt rfl (by omega) ?_ | refine GuardJ.nf rfl (by omega) ?_ | refine GuardJ.yes rfl ?_ | refine GuardJ.no rfl ?_)
        | (refine OpsJ.put (d := 40) rfl ?_; first | refine OpJ.pure (OpP.move rfl) ?_)
        | (refine OpsJ.gsel (d := 41) (j := 13) (want := true) rfl rfl rfl rfl ?_; first | refine GuardJ.yes (by with_reducible assumption) ?_ | refine GuardJ.no (by with_reducible assumption) ?_ | refine GuardJ.dt rfl (by omega) ?_ | refine GuardJ.nf rfl (by omega) ?_ | refine GuardJ.yes rfl ?_ | refine GuardJ.no rfl ?_)
        | (refine OpsJ.put (d := 41) rfl ?_; first | refine OpJ.pure (OpP.eql rfl rfl) ?_ | refine OpJ.pure (OpP.eql_string rfl rfl) ?_ | refine OpJ.pure (OpP.eql_bool rfl rfl) ?_ | refine OpJ.pure (OpP.eql_nil rfl rfl) ?_ | refine OpJ.pure (OpP.eql_nil_slice rfl rfl) ?_)
        | (refine OpsJ.gsel (d := 42) (j := 13) (want := true) rfl rfl rfl rfl ?_; first | refine GuardJ.yes (by with_reducible assumption) ?_ | refine GuardJ.no (by with_reducible assumption) ?_ | refine GuardJ.dt rfl (by omega) ?_ | refine GuardJ.nf rfl (by omega) ?_ | refine GuardJ.yes rfl ?_ | refine GuardJ.no rfl ?_)
        | (refine OpsJ.put (d := 42) rfl ?_; first | refine OpJ.pure (OpP.move rfl) ?_)
        | (refine OpsJ.gsel (d := 43) (j := 16) (want := false) rfl rfl rfl rfl ?_; first | refine GuardJ.yes (by with_reducible assumption) ?_ | refine GuardJ.no (by with_reducible assumption) ?_ | refine GuardJ.df rfl (by omega) ?_ | refine GuardJ.nt rfl (by omega) ?_ | refine GuardJ.yes rfl ?_ | refine GuardJ.no rfl ?_)
        | (refine OpsJ.put (d := 43) rfl ?_; first | refine OpJ.pure (OpP.move rfl) ?_)
        | (refine OpsJ.gsel (d := 44) (j := 16) (want := false) rfl rfl rfl rfl ?_; first | refine GuardJ.yes (by with_reducible assumption) ?_ | refine GuardJ.no (by with_reducible assumption) ?_ | refine GuardJ.df rfl (by omega) ?_ | refine GuardJ.nt rfl (by omega) ?_ | refine GuardJ.yes rfl ?_ | refine GuardJ.no rfl ?_)
        | (refine OpsJ.put (d := 44) rfl ?_; first | refine OpJ.pure (OpP.move rfl) ?_)
        | (refine OpsJ.gsel (d := 45) (j := 16) (want := false) rfl rfl rfl rfl ?_; first | refine GuardJ.yes (by with_reducible assumption) ?_ | refine GuardJ.no (by with_reducible assumption) ?_ | refine GuardJ.df rfl (by omega) ?_ | refine GuardJ.nt rfl (by omega) ?_ | refine GuardJ.yes rfl ?_ | refine GuardJ.no rfl ?_)
        | (refine OpsJ.put (d := 45) rfl ?_; first | refine OpJ.pure (OpP.sub_in rfl rfl (by omega) (by omega)) ?_ | refine OpJ.pure (OpP.sub rfl rfl) ?_)
        | (refine OpsJ.gsel (d := 46) (j := 16) (want := false) rfl rfl rfl rfl ?_; first | refine GuardJ.yes (by with_reducible assumption) ?_ | refine GuardJ.no (by with_reducible assumption) ?_ | refine GuardJ.df rfl (by omega) ?_ | refine GuardJ.nt rfl (by omega) ?_ | refine GuardJ.yes rfl ?_ | refine GuardJ.no rfl ?_)
        | (refine OpsJ.put (d := 46) rfl ?_; first | refine OpJ.pure (OpP.idx1 rfl rfl (by omega) (by omega) (Src.ofR (by with_reducible assumption)) (ne_get (by assumption))) ?_ | refine OpJ.pure (OpP.idx1 rfl rfl (by omega) (by omega) (Src.ofRow (by repeat (first | exact List.Mem.head _ | apply List.Mem.tail))) (ne_get (by assumption))) ?_)
        | (refine OpsJ.gsel (d := 47) (j := 16) (want := false) rfl rfl rfl rfl ?_; first | refine GuardJ.yes (by with_reducible assumption) ?_ | refine GuardJ.no (by with_reducible assumption) ?_ | refine GuardJ.df rfl (by omega) ?_ | refine GuardJ.nt rfl (by omega) ?_ | refine GuardJ.yes rfl ?_ | refine GuardJ.no rfl ?_)
        | (refine OpsJ.put (d := 47) rfl ?_; first | refine OpJ.pure (OpP.load_blk (by exact rfl) rfl (by repeat (first | exact List.Mem.head _ | apply List.Mem.tail)) rfl) ?_ | refine OpJ.pure (OpP.loadN_blk (by exact rfl) rfl (by repeat (first | exact List.Mem.head _ | apply List.Mem.tail)) (by exact rfl)) ?_ | refine OpJ.pure (OpP.load1 (by exact rfl) rfl (Src.ofR (by with_reducible assumption)) rfl (by assumption)) ?_ | refine OpJ.pure (OpP.load1 (by exact rfl) rfl (Src.ofRow (by repeat (first | exact List.Mem.head _ | apply List.Mem.tail))) rfl (by assumption)) ?_)
        | (refine OpsJ.gsel (d := 48) (j := 16) (want := false) rfl rfl rfl rfl ?_; first | refine GuardJ.yes (by with_reducible assumption) ?_ | refine GuardJ.no (by with_reducible assumption) ?_ | refine GuardJ.df rfl (by omega) ?_ | refine GuardJ.nt rfl (by omega) ?_ | refine GuardJ.yes rfl ?_ | refine GuardJ.no rfl ?_)
        | (refine OpsJ.put (d := 48) rfl ?_; first | refine OpJ.pure (OpP.neq rfl rfl) ?_ | refine OpJ.pure (OpP.neq_string rfl rfl) ?_ | refine OpJ.pure (OpP.neq_bool rfl rfl) ?_ | refine OpJ.pure (OpP.neq_nil rfl rfl) ?_ | refine OpJ.pure (OpP.neq_nil_slice rfl rfl) ?_)
        | (refine OpsJ.gsel (d := 49) (j := 13) (want := true) rfl rfl rfl rfl ?_; first | refine GuardJ.yes (by with_reducible assumption) ?_ | refine GuardJ.no (by with_reducible assumption) ?_ | refine GuardJ.dt rfl (by omega) ?_ | refine GuardJ.nf rfl (by omega) ?_ | refine GuardJ.yes rfl ?_ | refine GuardJ.no rfl ?_)
        | (refine OpsJ.put (d := 49) rfl ?_; first | refine OpJ.pure (OpP.pick_t rfl (by with_reducible assumption) rfl) ?_ | refine OpJ.pure (OpP.pick_f rfl (by with_reducible assumption) rfl) ?_ | refine OpJ.pure (OpP.pick_dt rfl (by omega) rfl) ?_ | refine OpJ.pure (OpP.pick_df rfl (by omega) rfl) ?_ | refine OpJ.pure (OpP.pick_t rfl rfl rfl) ?_ | refine OpJ.pure (OpP.pick_f rfl rfl rfl) ?_ | refine OpJ.pure (OpP.pick rfl rfl rfl) ?_)
        | (refine OpsJ.put (d := 50) rfl ?_; first | refine OpJ.pure (OpP.pick_t rfl (by with_reducible assumption) rfl) ?_ | refine OpJ.pure (OpP.pick_f rfl (by with_reducible assumption) rfl) ?_ | refine OpJ.pure (OpP.pick_dt rfl (by omega) rfl) ?_ | refine OpJ.pure (OpP.pick_df rfl (by omega) rfl) ?_ | refine OpJ.pure (OpP.pick_t rfl rfl rfl) ?_ | refine OpJ.pure (OpP.pick_f rfl rfl rfl) ?_ | refine OpJ.pure (OpP.pick rfl rfl rfl) ?_)
        | (refine OpsJ.put (d := 51) rfl ?_; first | refine OpJ.pure (OpP.move rfl) ?_)
        | (refine OpsJ.gsel (d := 52) (j := 25) (want := true) rfl rfl rfl rfl ?_; first | refine GuardJ.yes (by with_reducible assumption) ?_ | refine GuardJ.no (by with_reducible assumption) ?_ | refine GuardJ.dt rfl (by omega) ?_ | refine GuardJ.nf rfl (by omega) ?_ | refine GuardJ.yes rfl ?_ | refine GuardJ.no rfl ?_)
        | (refine OpsJ.put (d := 53) rfl ?_; first | refine OpJ.pure (OpP.pick_t rfl (by with_reducible assumption) rfl) ?_ | refine OpJ.pure (OpP.pick_f rfl (by with_reducible assumption) rfl) ?_ | refine OpJ.pure (OpP.pick_dt rfl (by omega) rfl) ?_ | refine OpJ.pure (OpP.pick_df rfl (by omega) rfl) ?_ | refine OpJ.pure (OpP.pick_t rfl rfl rfl) ?_ | refine OpJ.pure (OpP.pick_f rfl rfl rfl) ?_ | refine OpJ.pure (OpP.pick rfl rfl rfl) ?_)
        | refine OpsJ.nil ?_
        | refine CodeJ.cond_t rfl (by with_reducible assumption) ?_
        | refine CodeJ.cond_f rfl (by with_reducible assumption) ?_
        | refine CodeJ.cond_dt rfl (by omega) ?_
        | refine CodeJ.cond_df rfl (by omega) ?_
        | refine CodeJ.cond_t rfl rfl ?_
        | refine CodeJ.cond_f rfl rfl ?_)
      exact Ret.mk0 rfl (ResJ.one Try.results3 rfl) (by repeat (first | exact IM.le_refl _ | assumption | refine IM.le_trans ?_ (IM.le_or _ _))) (by repeat (first | exact SubL.nil _ | refine SubL.p0 ?_ | refine SubL.p1 ?_ | refine SubL.p2 ?_ | refine SubL.p3 ?_ | refine SubL.p4 ?_ | refine SubL.p5 ?_ | refine SubL.p6 ?_ | refine SubL.p7 ?_))
    · obtain ⟨w, rfl⟩ := Int.eq_ofNat_of_zero_le (by omega : 0 ≤ v)
      refine CodeJ.nilrow 5 1 ?_
      repeat (first
        | refine CodeJ.seq' ?_
        | refine CodeJ.region ?_
        | refine CodeJ.block ?_
        | refine CodeJ.skip ?_
        | refine CodeJ.exit rfl ?_
        | refine CodeJ.ret' ?_
        | (refine OpsJ.put (d := 2) rfl ?_; first | refine OpJ.pure (OpP.assign rfl) ?_)
        | (refine OpsJ.put (d := 7) rfl ?_; first | refine OpJ.pure (OpP.move rfl) ?_)
        | (refine OpsJ.put (d := 8) rfl ?_; first | refine OpJ.pure (OpP.lss rfl rfl) ?_)
        | (refine OpsJ.put (d := 9) rfl ?_; first | refine OpJ.pure (OpP.move rfl) ?_)
        | (refine OpsJ.gsel (d := 10) (j := 2) (want := false) rfl rfl rfl rfl ?_; first | refine GuardJ.yes (by with_reducible assumption) ?_ | refine GuardJ.no (by with_reducible assumption) ?_ | refine GuardJ.df rfl (by omega) ?_ | refine GuardJ.nt rfl (by omega) ?_ | refine GuardJ.yes rfl ?_ | refine GuardJ.no rfl ?_)
        | (refine OpsJ.put (d := 10) rfl ?_; first | refine OpJ.pure (OpP.move rfl) ?_)
        | (refine OpsJ.gsel (d := 11) (j := 2) (want := false) rfl rfl rfl rfl ?_; first | refine GuardJ.yes (by with_reducible assumption) ?_ | refine GuardJ.no (by with_reducible assumption) ?_ | refine GuardJ.df rfl (by omega) ?_ | refine GuardJ.nt rfl (by omega) ?_ | refine GuardJ.yes rfl ?_ | refine GuardJ.no rfl ?_)
        | (refine OpsJ.put (d := 11) rfl ?_; first | refine OpJ.pure (OpP.gtr rfl rfl) ?_)
        | (refine OpsJ.put (d := 12) rfl ?_; first | refine OpJ.pure (OpP.pick_t rfl (by with_reducible assumption) rfl) ?_ | refine OpJ.pure (OpP.pick_f rfl (by with_reducible assumption) rfl) ?_ | refine OpJ.pure (OpP.pick_dt rfl (by omega) rfl) ?_ | refine OpJ.pure (OpP.pick_df rfl (by omega) rfl) ?_ | refine OpJ.pure (OpP.pick_t rfl rfl rfl) ?_ | refine OpJ.pure (OpP.pick_f rfl rfl rfl) ?_ | refine OpJ.pure (OpP.pick rfl rfl rfl) ?_)
        | (refine OpsJ.put (d := 3) rfl ?_; first | refine OpJ.alloc (fun _ => ?_))
        | (refine OpsJ.put (d := 14) rfl ?_; first | refine OpJ.pure (OpP.move rfl) ?_)
        | (refine OpsJ.put (d := 15) rfl ?_; first | (refine OpJ.buildSlice rfl rfl (by exact rfl) (by exact rfl) rfl (fun _ => ?_); dsimp only [lsplice, take1, take2, take3, take4, drop1, drop2, drop3, drop4, List.take_zero, List.drop_zero, List.cons_append, List.nil_append, List.length_cons, List.length_nil, Nat.reduceAdd, fillL, sliceL, Value.cells, List.toList_toArray, List.append_nil]))
        | (refine OpsJ.put (d := 4) rfl ?_; first | refine OpJ.pure (OpP.assign rfl) ?_)
        | (refine OpsJ.put (d := 5) rfl ?_; first | refine OpJ.pure (OpP.assign rfl) ?_)
        | (refine OpsJ.put (d := 18) rfl ?_; first | refine OpJ.pure (OpP.move rfl) ?_)
        | (refine OpsJ.put (d := 19) rfl ?_; first | refine OpJ.pure (OpP.shr_nat rfl rfl rfl) ?_ | refine OpJ.pure (OpP.shr rfl rfl (by omega)) ?_)
        | (refine OpsJ.put (d := 6) rfl ?_; first | refine OpJ.pure (OpP.assign rfl) ?_)
        | (refine OpsJ.put (d := 20) rfl ?_; first | refine OpJ.pure (OpP.move rfl) ?_)
        | (refine OpsJ.put (d := 21) rfl ?_; first | refine OpJ.pure (OpP.gtr rfl rfl) ?_)
        | (refine OpsJ.put (d := 24) rfl ?_; first | refine OpJ.pure (OpP.move rfl) ?_)
        | (refine OpsJ.put (d := 25) rfl ?_; first | refine OpJ.pure (OpP.add_in rfl rfl (by omega) (by omega)) ?_ | refine OpJ.pure (OpP.cat rfl rfl (by omega)) ?_ | refine OpJ.pure (OpP.add rfl rfl) ?_)
        | (refine OpsJ.put (d := 22) rfl ?_; first | refine OpJ.pure (OpP.move rfl) ?_)
        | (refine OpsJ.put (d := 23) rfl ?_; first | refine OpJ.pure (OpP.shr_nat rfl rfl rfl) ?_ | refine OpJ.pure (OpP.shr rfl rfl (by omega)) ?_)
        | (refine OpsJ.put (d := 26) rfl ?_; first | refine OpJ.pure (OpP.move rfl) ?_)
        | (refine OpsJ.put (d := 27) rfl ?_; first | refine OpJ.pure (OpP.len rfl) ?_ | refine OpJ.pure (OpP.len_string rfl) ?_)
        | (refine OpsJ.put (d := 28) rfl ?_; first | refine OpJ.pure (OpP.move rfl) ?_)
        | (refine OpsJ.put (d := 29) rfl ?_; first | refine OpJ.pure (OpP.eql rfl rfl) ?_ | refine OpJ.pure (OpP.eql_string rfl rfl) ?_ | refine OpJ.pure (OpP.eql_bool rfl rfl) ?_ | refine OpJ.pure (OpP.eql_nil rfl rfl) ?_ | refine OpJ.pure (OpP.eql_nil_slice rfl rfl) ?_)
        | (refine OpsJ.put (d := 30) rfl ?_; first | refine OpJ.pure (OpP.move rfl) ?_)
        | (refine OpsJ.gsel (d := 31) (j := 4) (want := true) rfl rfl rfl rfl ?_; first | refine GuardJ.yes (by with_reducible assumption) ?_ | refine GuardJ.no (by with_reducible assumption) ?_ | refine GuardJ.dt rfl (by omega) ?_ | refine GuardJ.nf rfl (by omega) ?_ | refine GuardJ.yes rfl ?_ | refine GuardJ.no rfl ?_)
        | (refine OpsJ.put (d := 31) rfl ?_; first | refine OpJ.pure (OpP.move rfl) ?_)
        | (refine OpsJ.gsel (d := 32) (j := 4) (want := true) rfl rfl rfl rfl ?_; first | refine GuardJ.yes (by with_reducible assumption) ?_ | refine GuardJ.no (by with_reducible assumption) ?_ | refine GuardJ.dt rfl (by omega) ?_ | refine GuardJ.nf rfl (by omega) ?_ | refine GuardJ.yes rfl ?_ | refine GuardJ.no rfl ?_)
        | (refine OpsJ.put (d := 32) rfl ?_; first | refine OpJ.pure (OpP.idx1 rfl rfl (by omega) (by omega) (Src.ofR (by with_reducible assumption)) (ne_get (by assumption))) ?_ | refine OpJ.pure (OpP.idx1 rfl rfl (by omega) (by omega) (Src.ofRow (by repeat (first | exact List.Mem.head _ | apply List.Mem.tail))) (ne_get (by assumption))) ?_)
        | (refine OpsJ.gsel (d := 33) (j := 4) (want := true) rfl rfl rfl rfl ?_; first | refine GuardJ.yes (by with_reducible assumption) ?_ | refine GuardJ.no (by with_reducible assumption) ?_ | refine GuardJ.dt rfl (by omega) ?_ | refine GuardJ.nf rfl (by omega) ?_ | refine GuardJ.yes rfl ?_ | refine GuardJ.no rfl ?_)
        | (refine OpsJ.put (d := 33) rfl ?_; first | refine OpJ.pure (OpP.load_blk (by exact rfl) rfl (by repeat (first | exact List.Mem.head _ | apply List.Mem.tail)) rfl) ?_ | refine OpJ.pure (OpP.loadN_blk (by exact rfl) rfl (by repeat (first | exact List.Mem.head _ | apply List.Mem.tail)) (by exact rfl)) ?_ | refine OpJ.pure (OpP.load1 (by exact rfl) rfl (Src.ofR (by with_reducible assumption)) rfl (by assumption)) ?_ | refine OpJ.pure (OpP.load1 (by exact rfl) rfl (Src.ofRow (by repeat (first | exact List.Mem.head _ | apply List.Mem.tail))) rfl (by assumption)) ?_)
        | (refine OpsJ.gsel (d := 34) (j := 4) (want := true) rfl rfl rfl rfl ?_; first | refine GuardJ.yes (by with_reducible assumption) ?_ | refine GuardJ.no (by with_reducible assumption) ?_ | refine GuardJ.dt rfl (by omega) ?_ | refine GuardJ.nf rfl (by omega) ?_ | refine GuardJ.yes rfl ?_ | refine GuardJ.no rfl ?_)
        | (refine OpsJ.put (d := 34) rfl ?_; first | refine OpJ.pure (OpP.lss rfl rfl) ?_)
        | (refine OpsJ.gsel (d := 35) (j := 4) (want := true) rfl rfl rfl rfl ?_; first | refine GuardJ.yes (by with_reducible assumption) ?_ | refine GuardJ.no (by with_reducible assumption) ?_ | refine GuardJ.dt rfl (by omega) ?_ | refine GuardJ.nf rfl (by omega) ?_ | refine GuardJ.yes rfl ?_ | refine GuardJ.no rfl ?_)
        | (refine OpsJ.put (d := 35) rfl ?_; first | refine OpJ.pure (OpP.move rfl) ?_)
        | (refine OpsJ.gsel (d := 36) (j := 4) (want := true) rfl rfl rfl rfl ?_; first | refine GuardJ.yes (by with_reducible assumption) ?_ | refine GuardJ.no (by with_reducible assumption) ?_ | refine GuardJ.dt rfl (by omega) ?_ | refine GuardJ.nf rfl (by omega) ?_ | refine GuardJ.yes rfl ?_ | refine GuardJ.no rfl ?_)
        | (refine OpsJ.put (d := 36) rfl ?_; first | refine OpJ.pure (OpP.lss rfl rfl) ?_)
        | (refine OpsJ.gsel (d := 37) (j := 4) (want := true) rfl rfl rfl rfl ?_; first | refine GuardJ.yes (by with_reducible assumption) ?_ | refine GuardJ.no (by with_reducible assumption) ?_ | refine GuardJ.dt rfl (by omega) ?_ | refine GuardJ.nf rfl (by omega) ?_ | refine GuardJ.yes rfl ?_ | refine GuardJ.no rfl ?_)
        | (refine OpsJ.put (d := 37) rfl ?_; first | refine OpJ.pure (OpP.eql rfl rfl) ?_ | refine OpJ.pure (OpP.eql_string rfl rfl) ?_ | refine OpJ.pure (OpP.eql_bool rfl rfl) ?_ | refine OpJ.pure (OpP.eql_nil rfl rfl) ?_ | refine OpJ.pure (OpP.eql_nil_slice rfl rfl) ?_)
        | (refine OpsJ.put (d := 38) rfl ?_; first | refine OpJ.pure (OpP.pick_t rfl (by with_reducible assumption) rfl) ?_ | refine OpJ.pure (OpP.pick_f rfl (by with_reducible assumption) rfl) ?_ | refine OpJ.pure (OpP.pick_dt rfl (by omega) rfl) ?_ | refine OpJ.pure (OpP.pick_df rfl (by omega) rfl) ?_ | refine OpJ.pure (OpP.pick_t rfl rfl rfl) ?_ | refine OpJ.pure (OpP.pick_f rfl rfl rfl) ?_ | refine OpJ.pure (OpP.pick rfl rfl rfl) ?_)
        | (refine OpsJ.put (d := 39) rfl ?_; first | refine OpJ.pure (OpP.move rfl) ?_)
        | (refine OpsJ.gsel (d := 40) (j := 13) (want := true) rfl rfl rfl rfl ?_; first | refine GuardJ.yes (by with_reducible assumption) ?_ | refine GuardJ.no (by with_reducible assumption) ?_ | refine GuardJ.dt rfl (by omega) ?_ | refine GuardJ.nf rfl (by omega) ?_ | refine GuardJ.yes rfl ?_ | refine GuardJ.no rfl ?_)
        | (refine OpsJ.put (d := 40) rfl ?_; first | refine OpJ.pure (OpP.move rfl) ?_)
        | (refine OpsJ.gsel (d := 41) (j := 13) (want := true) rfl rfl rfl rfl ?_; first | refine GuardJ.yes (by with_reducible assumption) ?_ | refine GuardJ.no (by with_reducible assumption) ?_ | refine GuardJ.dt rfl (by omega) ?_ | refine GuardJ.nf rfl (by omega) ?_ | refine GuardJ.yes rfl ?_ | refine GuardJ.no rfl ?_)
        | (refine OpsJ.put (d := 41) rfl ?_; first | refine OpJ.pure (OpP.eql rfl rfl) ?_ | refine OpJ.pure (OpP.eql_string rfl rfl) ?_ | refine OpJ.pure (OpP.eql_bool rfl rfl) ?_ | refine OpJ.pure (OpP.eql_nil rfl rfl) ?_ | refine OpJ.pure (OpP.eql_nil_slice rfl rfl) ?_)
        | (refine OpsJ.gsel (d := 42) (j := 13) (want := true) rfl rfl rfl rfl ?_; first | refine GuardJ.yes (by with_reducible assumption) ?_ | refine GuardJ.no (by with_reducible assumption) ?_ | refine GuardJ.dt rfl (by omega) ?_ | refine GuardJ.nf rfl (by omega) ?_ | refine GuardJ.yes rfl ?_ | refine GuardJ.no rfl ?_)
        | (refine OpsJ.put (d := 42) rfl ?_; first | refine OpJ.pure (OpP.move rfl) ?_)
        | (refine OpsJ.gsel (d := 43) (j := 16) (want := false) rfl rfl rfl rfl ?_; first | refine GuardJ.yes (by with_reducible assumption) ?_ | refine GuardJ.no (by with_reducible assumption) ?_ | refine GuardJ.df rfl (by omega) ?_ | refine GuardJ.nt rfl (by omega) ?_ | refine GuardJ.yes rfl ?_ | refine GuardJ.no rfl ?_)
        | (refine OpsJ.put (d := 43) rfl ?_; first | refine OpJ.pure (OpP.move rfl) ?_)
        | (refine OpsJ.gsel (d := 44) (j := 16) (want := false) rfl rfl rfl rfl ?_; first | refine GuardJ.yes (by with_reducible assumption) ?_ | refine GuardJ.no (by with_reducible assumption) ?_ | refine GuardJ.df rfl (by omega) ?_ | refine GuardJ.nt rfl (by omega) ?_ | refine GuardJ.yes rfl ?_ | refine GuardJ.no rfl ?_)
        | (refine OpsJ.put (d := 44) rfl ?_; first | refine OpJ.pure (OpP.move rfl) ?_)
        | (refine OpsJ.gsel (d := 45) (j := 16) (want := false) rfl rfl rfl rfl ?_; first | refine GuardJ.yes (by with_reducible assumption) ?_ | refine GuardJ.no (by with_reducible assumption) ?_ | refine GuardJ.df rfl (by omega) ?_ | refine GuardJ.nt rfl (by omega) ?_ | refine GuardJ.yes rfl ?_ | refine GuardJ.no rfl ?_)
        | (refine OpsJ.put (d := 45) rfl ?_; first | refine OpJ.pure (OpP.sub_in rfl rfl (by omega) (by omega)) ?_ | refine OpJ.pure (OpP.sub rfl rfl) ?_)
        | (refine OpsJ.gsel (d := 46) (j := 16) (want := false) rfl rfl rfl rfl ?_; first | refine GuardJ.yes (by with_reducible assumption) ?_ | refine GuardJ.no (by with_reducible assumption) ?_ | refine GuardJ.df rfl (by omega) ?_ | refine GuardJ.nt rfl (by omega) ?_ | refine GuardJ.yes rfl ?_ | refine GuardJ.no rfl ?_)
        | (refine OpsJ.put (d := 46) rfl ?_; first | refine OpJ.pure (OpP.idx1 rfl rfl (by omega) (by omega) (Src.ofR (by with_reducible assumption)) (ne_get (by assumption))) ?_ | refine OpJ.pure (OpP.idx1 rfl rfl (by omega) (by omega) (Src.ofRow (by repeat (first | exact List.Mem.head _ | apply List.Mem.tail))) (ne_get (by assumption))) ?_)
        | (refine OpsJ.gsel (d := 47) (j := 16) (want := false) rfl rfl rfl rfl ?_; first | refine GuardJ.yes (by with_reducible assumption) ?_ | refine GuardJ.no (by with_reducible assumption) ?_ | refine GuardJ.df rfl (by omega) ?_ | refine GuardJ.nt rfl (by omega) ?_ | refine GuardJ.yes rfl ?_ | refine GuardJ.no rfl ?_)
        | (refine OpsJ.put (d := 47) rfl ?_; first | refine OpJ.pure (OpP.load_blk (by exact rfl) rfl (by repeat (first | exact List.Mem.head _ | apply List.Mem.tail)) rfl) ?_ | refine OpJ.pure (OpP.loadN_blk (by exact rfl) rfl (by repeat (first | exact List.Mem.head _ | apply List.Mem.tail)) (by exact rfl)) ?_ | refine OpJ.pure (OpP.load1 (by exact rfl) rfl (Src.ofR (by with_reducible assumption)) rfl (by assumption)) ?_ | refine OpJ.pure (OpP.load1 (by exact rfl) rfl (Src.ofRow (by repeat (first | exact List.Mem.head _ | apply List.Mem.tail))) rfl (by assumption)) ?_)
        | (refine OpsJ.gsel (d := 48) (j := 16) (want := false) rfl rfl rfl rfl ?_; first | refine GuardJ.yes (by with_reducible assumption) ?_ | refine GuardJ.no (by with_reducible assumption) ?_ | refine GuardJ.df rfl (by omega) ?_ | refine GuardJ.nt rfl (by omega) ?_ | refine GuardJ.yes rfl ?_ | refine GuardJ.no rfl ?_)
        | (refine OpsJ.put (d := 48) rfl ?_; first | refine OpJ.pure (OpP.neq rfl rfl) ?_ | refine OpJ.pure (OpP.neq_string rfl rfl) ?_ | refine OpJ.pure (OpP.neq_bool rfl rfl) ?_ | refine OpJ.pure (OpP.neq_nil rfl rfl) ?_ | refine OpJ.pure (OpP.neq_nil_slice rfl rfl) ?_)
        | (refine OpsJ.gsel (d := 49) (j := 13) (want := true) rfl rfl rfl rfl ?_; first | refine GuardJ.yes (by with_reducible assumption) ?_ | refine GuardJ.no (by with_reducible assumption) ?_ | refine GuardJ.dt rfl (by omega) ?_ | refine GuardJ.nf rfl (by omega) ?_ | refine GuardJ.yes rfl ?_ | refine GuardJ.no rfl ?_)
        | (refine OpsJ.put (d := 49) rfl ?_; first | refine OpJ.pure (OpP.pick_t rfl (by with_reducible assumption) rfl) ?_ | refine OpJ.pure (OpP.pick_f rfl (by with_reducible assumption) rfl) ?_ | refine OpJ.pure (OpP.pick_dt rfl (by omega) rfl) ?_ | refine OpJ.pure (OpP.pick_df rfl (by omega) rfl) ?_ | refine OpJ.pure (OpP.pick_t rfl rfl rfl) ?_ | refine OpJ.pure (OpP.pick_f rfl rfl rfl) ?_ | refine OpJ.pure (OpP.pick rfl rfl rfl) ?_)
        | (refine OpsJ.put (d := 50) rfl ?_; first | refine OpJ.pure (OpP.pick_t rfl (by with_reducible assumption) rfl) ?_ | refine OpJ.pure (OpP.pick_f rfl (by with_reducible assumption) rfl) ?_ | refine OpJ.pure (OpP.pick_dt rfl (by omega) rfl) ?_ | refine OpJ.pure (OpP.pick_df rfl (by omega) rfl) ?_ | refine OpJ.pure (OpP.pick_t rfl rfl rfl) ?_ | refine OpJ.pure (OpP.pick_f rfl rfl rfl) ?_ | refine OpJ.pure (OpP.pick rfl rfl rfl) ?_)
        | (refine OpsJ.put (d := 51) rfl ?_; first | refine OpJ.pure (OpP.move rfl) ?_)
        | (refine OpsJ.gsel (d := 52) (j := 25) (want := true) rfl rfl rfl rfl ?_; first | refine GuardJ.yes (by with_reducible assumption) ?_ | refine GuardJ.no (by with_reducible assumption) ?_ | refine GuardJ.dt rfl (by omega) ?_ | refine GuardJ.nf rfl (by omega) ?_ | refine GuardJ.yes rfl ?_ | refine GuardJ.no rfl ?_)
        | (refine OpsJ.put (d := 53) rfl ?_; first | refine OpJ.pure (OpP.pick_t rfl (by with_reducible assumption) rfl) ?_ | refine OpJ.pure (OpP.pick_f rfl (by with_reducible assumption) rfl) ?_ | refine OpJ.pure (OpP.pick_dt rfl (by omega) rfl) ?_ | refine OpJ.pure (OpP.pick_df rfl (by omega) rfl) ?_ | refine OpJ.pure (OpP.pick_t rfl rfl rfl) ?_ | refine OpJ.pure (OpP.pick_f rfl rfl rfl) ?_ | refine OpJ.pure (OpP.pick rfl rfl rfl) ?_)
        | refine OpsJ.nil ?_
        | refine CodeJ.cond_t rfl (by with_reducible assumption) ?_
        | refine CodeJ.cond_f rfl (by with_reducible assumption) ?_
        | refine CodeJ.cond_dt rfl (by omega) ?_
        | refine CodeJ.cond_df rfl (by omega) ?_
        | refine CodeJ.cond_t rfl rfl ?_
        | refine CodeJ.cond_f rfl rfl ?_)
      refine OpsJ.put (d := 16) rfl (OpJ.call rfl (by repeat (first | exact Split.nil | apply Split.p0 | apply Split.p1 | apply Split.p2 | apply Split.p3 | apply Split.p4 | apply Split.p5 | apply Split.p6 | apply Split.p7 | apply Split.p8)) (fun R' hle hin => nums_calls R' _ _ _ _ [] [(w : Int)] _ (inRow hin (by repeat (first | exact List.Mem.head _ | apply List.Mem.tail))) rfl ⟨_, _, _, _, rfl, rfl, rfl⟩ (by simp)) ?_)
      rintro u D hs1 hd ⟨rfl, A, c, m, cs, hm, hcs, rfl⟩
      have he : [] ++ encs [(w : Int)] = enc w := by
        simp only [encs, List.flatMap_cons, List.flatMap_nil, List.nil_append, List.append_nil]
        rw [clamp_nat _ (by omega)]
      rw [he] at hm hcs
      repeat (first
        | refine CodeJ.seq' ?_
        | refine CodeJ.region ?_
        | refine CodeJ.block ?_
        | refine CodeJ.skip ?_
        | refine CodeJ.exit rfl ?_
        | refine CodeJ.ret' ?_
        | (refine OpsJ.put (d := 2) rfl ?_; first | refine OpJ.pure (OpP.assign rfl) ?_)
        | (refine OpsJ.put (d := 7) rfl ?_; first | refine OpJ.pure (OpP.move rfl) ?_)
        | (refine OpsJ.put (d := 8) rfl ?_; first | refine OpJ.pure (OpP.lss rfl rfl) ?_)
        | (refine OpsJ.put (d := 9) rfl ?_; first | refine OpJ.pure (OpP.move rfl) ?_)
        | (refine OpsJ.gsel (d := 10) (j := 2) (want := false) rfl rfl rfl rfl ?_; first | refine GuardJ.yes (by with_reducible assumption) ?_ | refine GuardJ.no (by with_reducible assumption) ?_ | refine GuardJ.df rfl (by omega) ?_ | refine GuardJ.nt rfl (by omega) ?_ | refine GuardJ.yes rfl ?_ | refine GuardJ.no rfl ?_)
        | (refine OpsJ.put (d := 10) rfl ?_; first | refine OpJ.pure (OpP.move rfl) ?_)
        | (refine OpsJ.gsel (d := 11) (j := 2) (want := false) rfl rfl rfl rfl ?_; first | refine GuardJ.yes (by with_reducible assumption) ?_ | refine GuardJ.no (by with_reducible assumption) ?_ | refine GuardJ.df rfl (by omega) ?_ | refine GuardJ.nt rfl (by omega) ?_ | refine GuardJ.yes rfl ?_ | refine GuardJ.no rfl ?_)
        | (refine OpsJ.put (d := 11) rfl ?_; first | refine OpJ.pure (OpP.gtr rfl rfl) ?_)
        | (refine OpsJ.put (d := 12) rfl ?_; first | refine OpJ.pure (OpP.pick_t rfl (by with_reducible assumption) rfl) ?_ | refine OpJ.pure (OpP.pick_f rfl (by with_reducible assumption) rfl) ?_ | refine OpJ.pure (OpP.pick_dt rfl (by omega) rfl) ?_ | refine OpJ.pure (OpP.pick_df rfl (by omega) rfl) ?_ | refine OpJ.pure (OpP.pick_t rfl rfl rfl) ?_ | refine OpJ.pure (OpP.pick_f rfl rfl rfl) ?_ | refine OpJ.pure (OpP.pick rfl rfl rfl) ?_)
        | (refine OpsJ.put (d := 3) rfl ?_; first | refine OpJ.alloc (fun _ => ?_))
        | (refine OpsJ.put (d := 14) rfl ?_; first | refine OpJ.pure (OpP.move rfl) ?_)
        | (refine OpsJ.put (d := 15) rfl ?_; first | (refine OpJ.buildSlice rfl rfl (by exact rfl) (by exact rfl) rfl (fun _ => ?_); dsimp only [lsplice, take1, take2, take3, take4, drop1, drop2, drop3, drop4, List.take_zero, List.drop_zero, List.cons_append, List.nil_append, List.length_cons, List.length_nil, Nat.reduceAdd, fillL, sliceL, Value.cells, List.toList_toArray, List.append_nil]))
        | (refine OpsJ.put (d := 4) rfl ?_; first | refine OpJ.pure (OpP.assign rfl) ?_)
        | (refine OpsJ.put (d := 5) rfl ?_; first | refine OpJ.pure (OpP.assign rfl) ?_)
        | (refine OpsJ.put (d := 18) rfl ?_; first | refine OpJ.pure (OpP.move rfl) ?_)
        | (refine OpsJ.put (d := 19) rfl ?_; first | refine OpJ.pure (OpP.shr_nat rfl rfl rfl) ?_ | refine OpJ.pure (OpP.shr rfl rfl (by omega)) ?_)
        | (refine OpsJ.put (d := 6) rfl ?_; first | refine OpJ.pure (OpP.assign rfl) ?_)
        | (refine OpsJ.put (d := 20) rfl ?_; first | refine OpJ.pure (OpP.move rfl) ?_)
        | (refine OpsJ.put (d := 21) rfl ?_; first | refine OpJ.pure (OpP.gtr rfl rfl) ?_)
        | (refine OpsJ.put (d := 24) rfl ?_; first | refine OpJ.pure (OpP.move rfl) ?_)
        | (refine OpsJ.put (d := 25) rfl ?_; first | refine OpJ.pure (OpP.add_in rfl rfl (by omega) (by omega)) ?_ | refine OpJ.pure (OpP.cat rfl rfl (by omega)) ?_ | refine OpJ.pure (OpP.add rfl rfl) ?_)
        | (refine OpsJ.put (d := 22) rfl ?_; first | refine OpJ.pure (OpP.move rfl) ?_)
        | (refine OpsJ.put (d := 23) rfl ?_; first | refine OpJ.pure (OpP.shr_nat rfl rfl rfl) ?_ | refine OpJ.pure (OpP.shr rfl rfl (by omega)) ?_)
        | (refine OpsJ.put (d := 26) rfl ?_; first | refine OpJ.pure (OpP.move rfl) ?_)
        | (refine OpsJ.put (d := 27) rfl ?_; first | refine OpJ.pure (OpP.len rfl) ?_ | refine OpJ.pure (OpP.len_string rfl) ?_)
        | (refine OpsJ.put (d := 28) rfl ?_; first | refine OpJ.pure (OpP.move rfl) ?_)
        | (refine OpsJ.put (d := 29) rfl ?_; first | refine OpJ.pure (OpP.eql rfl rfl) ?_ | refine OpJ.pure (OpP.eql_string rfl rfl) ?_ | refine OpJ.pure (OpP.eql_bool rfl rfl) ?_ | refine OpJ.pure (OpP.eql_nil rfl rfl) ?_ | refine OpJ.pure (OpP.eql_nil_slice rfl rfl) ?_)
        | (refine OpsJ.put (d := 30) rfl ?_; first | refine OpJ.pure (OpP.move rfl) ?_)
        | (refine OpsJ.gsel (d := 31) (j := 4) (want := true) rfl rfl rfl rfl ?_; first | refine GuardJ.yes (by with_reducible assumption) ?_ | refine GuardJ.no (by with_reducible assumption) ?_ | refine GuardJ.dt rfl (by omega) ?_ | refine GuardJ.nf rfl (by omega) ?_ | refine GuardJ.yes rfl ?_ | refine GuardJ.no rfl ?_)
        | (refine OpsJ.put (d := 31) rfl ?_; first | refine OpJ.pure (OpP.move rfl) ?_)
        | (refine OpsJ.gsel (d := 32) (j := 4) (want := true) rfl rfl rfl rfl ?_; first | refine GuardJ.yes (by with_reducible assumption) ?_ | refine GuardJ.no (by with_reducible assumption) ?_ | refine GuardJ.dt rfl (by omega) ?_ | refine GuardJ.nf rfl (by omega) ?_ | refine GuardJ.yes rfl ?_ | refine GuardJ.no rfl ?_)
        | (refine OpsJ.put (d := 32) rfl ?_; first | refine OpJ.pure (OpP.idx1 rfl rfl (by omega) (by omega) (Src.ofR (by with_reducible assumption)) (ne_get (by assumption))) ?_ | refine OpJ.pure (OpP.idx1 rfl rfl (by omega) (by omega) (Src.ofRow (by repeat (first | exact List.Mem.head _ | apply List.Mem.tail))) (ne_get (by assumption))) ?_)
        | (refine OpsJ.gsel (d := 33) (j := 4) (want := true) rfl rfl rfl rfl ?_; first | refine GuardJ.yes (by with_reducible assumption) ?_ | refine GuardJ.no (by with_reducible assumption) ?_ | refine GuardJ.dt rfl (by omega) ?_ | refine GuardJ.nf rfl (by omega) ?_ | refine GuardJ.yes rfl ?_ | refine GuardJ.no rfl ?_)
        | (refine OpsJ.put (d := 33) rfl ?_; first | refine OpJ.pure (OpP.load_blk (by exact rfl) rfl (by repeat (first | exact List.Mem.head _ | apply List.Mem.tail)) rfl) ?_ | refine OpJ.pure (OpP.loadN_blk (by exact rfl) rfl (by repeat (first | exact List.Mem.head _ | apply List.Mem.tail)) (by exact rfl)) ?_ | refine OpJ.pure (OpP.load1 (by exact rfl) rfl (Src.ofR (by with_reducible assumption)) rfl (by assumption)) ?_ | refine OpJ.pure (OpP.load1 (by exact rfl) rfl (Src.ofRow (by repeat (first | exact List.Mem.head _ | apply List.Mem.tail))) rfl (by assumption)) ?_)
        | (refine OpsJ.gsel (d := 34) (j := 4) (want := true) rfl rfl rfl rfl ?_; first | refine GuardJ.yes (by with_reducible assumption) ?_ | refine GuardJ.no (by with_reducible assumption) ?_ | refine GuardJ.dt rfl (by omega) ?_ | refine GuardJ.nf rfl (by omega) ?_ | refine GuardJ.yes rfl ?_ | refine GuardJ.no rfl ?_)
        | (refine OpsJ.put (d := 34) rfl ?_; first | refine OpJ.pure (OpP.lss rfl rfl) ?_)
        | (refine OpsJ.gsel (d := 35) (j := 4) (want := true) rfl rfl rfl rfl ?_; first | refine GuardJ.yes (by with_reducible assumption) ?_ | refine GuardJ.no (by with_reducible assumption) ?_ | refine GuardJ.dt rfl (by omega) ?_ | refine GuardJ.nf rfl (by omega) ?_ | refine GuardJ.yes rfl ?_ | refine GuardJ.no rfl ?_)
        | (refine OpsJ.put (d := 35) rfl ?_; first | refine OpJ.pure (OpP.move rfl) ?_)
        | (refine OpsJ.gsel (d := 36) (j := 4) (want := true) rfl rfl rfl rfl ?_; first | refine GuardJ.yes (by with_reducible assumption) ?_ | refine GuardJ.no (by with_reducible assumption) ?_ | refine GuardJ.dt rfl (by omega) ?_ | refine GuardJ.nf rfl (by omega) ?_ | refine GuardJ.yes rfl ?_ | refine GuardJ.no rfl ?_)
        | (refine OpsJ.put (d := 36) rfl ?_; first | refine OpJ.pure (OpP.lss rfl rfl) ?_)
        | (refine OpsJ.gsel (d := 37) (j := 4) (want := true) rfl rfl rfl rfl ?_; first | refine GuardJ.yes (by with_reducible assumption) ?_ | refine GuardJ.no (by with_reducible assumption) ?_ | refine GuardJ.dt rfl (by omega) ?_ | refine GuardJ.nf rfl (by omega) ?_ | refine GuardJ.yes rfl ?_ | refine GuardJ.no rfl ?_)
        | (refine OpsJ.put (d := 37) rfl ?_; first | refine OpJ.pure (OpP.eql rfl rfl) ?_ | refine OpJ.pure (OpP.eql_string rfl rfl) ?_ | refine OpJ.pure (OpP.eql_bool rfl rfl) ?_ | refine OpJ.pure (OpP.eql_nil rfl rfl) ?_ | refine OpJ.pure (OpP.eql_nil_slice rfl rfl) ?_)
        | (refine OpsJ.put (d := 38) rfl ?_; first | refine OpJ.pure (OpP.pick_t rfl (by with_reducible assumption) rfl) ?_ | refine OpJ.pure (OpP.pick_f rfl (by with_reducible assumption) rfl) ?_ | refine OpJ.pure (OpP.pick_dt rfl (by omega) rfl) ?_ | refine OpJ.pure (OpP.pick_df rfl (by omega) rfl) ?_ | refine OpJ.pure (OpP.pick_t rfl rfl rfl) ?_ | refine OpJ.pure (OpP.pick_f rfl rfl rfl) ?_ | refine OpJ.pure (OpP.pick rfl rfl rfl) ?_)
        | (refine OpsJ.put (d := 39) rfl ?_; first | refine OpJ.pure (OpP.move rfl) ?_)
        | (refine OpsJ.gsel (d := 40) (j := 13) (want := true) rfl rfl rfl rfl ?_; first | refine GuardJ.yes (by with_reducible assumption) ?_ | refine GuardJ.no (by with_reducible assumption) ?_ | refine GuardJ.dt rfl (by omega) ?_ | refine GuardJ.nf rfl (by omega) ?_ | refine GuardJ.yes rfl ?_ | refine GuardJ.no rfl ?_)
        | (refine OpsJ.put (d := 40) rfl ?_; first | refine OpJ.pure (OpP.move rfl) ?_)
        | (refine OpsJ.gsel (d := 41) (j := 13) (want := true) rfl rfl rfl rfl ?_; first | refine GuardJ.yes (by with_reducible assumption) ?_ | refine GuardJ.no (by with_reducible assumption) ?_ | refine GuardJ.dt rfl (by omega) ?_ | refine GuardJ.nf rfl (by omega) ?_ | refine GuardJ.yes rfl ?_ | refine GuardJ.no rfl ?_)
        | (refine OpsJ.put (d := 41) rfl ?_; first | refine OpJ.pure (OpP.eql rfl rfl) ?_ | refine OpJ.pure (OpP.eql_string rfl rfl) ?_ | refine OpJ.pure (OpP.eql_bool rfl rfl) ?_ | refine OpJ.pure (OpP.eql_nil rfl rfl) ?_ | refine OpJ.pure (OpP.eql_nil_slice rfl rfl) ?_)
        | (refine OpsJ.gsel (d := 42) (j := 13) (want := true) rfl rfl rfl rfl ?_; first | refine GuardJ.yes (by with_reducible assumption) ?_ | refine GuardJ.no (by with_reducible assumption) ?_ | refine GuardJ.dt rfl (by omega) ?_ | refine GuardJ.nf rfl (by omega) ?_ | refine GuardJ.yes rfl ?_ | refine GuardJ.no rfl ?_)
        | (refine OpsJ.put (d := 42) rfl ?_; first | refine OpJ.pure (OpP.move rfl) ?_)
        | (refine OpsJ.gsel (d := 43) (j := 16) (want := false) rfl rfl rfl rfl ?_; first | refine GuardJ.yes (by with_reducible assumption) ?_ | refine GuardJ.no (by with_reducible assumption) ?_ | refine GuardJ.df rfl (by omega) ?_ | refine GuardJ.nt rfl (by omega) ?_ | refine GuardJ.yes rfl ?_ | refine GuardJ.no rfl ?_)
        | (refine OpsJ.put (d := 43) rfl ?_; first | refine OpJ.pure (OpP.move rfl) ?_)
        | (refine OpsJ.gsel (d := 44) (j := 16) (want := false) rfl rfl rfl rfl ?_; first | refine GuardJ.yes (by with_reducible assumption) ?_ | refine GuardJ.no (by with_reducible assumption) ?_ | refine GuardJ.df rfl (by omega) ?_ | refine GuardJ.nt rfl (by omega) ?_ | refine GuardJ.yes rfl ?_ | refine GuardJ.no rfl ?_)
        | (refine OpsJ.put (d := 44) rfl ?_; first | refine OpJ.pure (OpP.move rfl) ?_)
        | (refine OpsJ.gsel (d := 45) (j := 16) (want := false) rfl rfl rfl rfl ?_; first | refine GuardJ.yes (by with_reducible assumption) ?_ | refine GuardJ.no (by with_reducible assumption) ?_ | refine GuardJ.df rfl (by omega) ?_ | refine GuardJ.nt rfl (by omega) ?_ | refine GuardJ.yes rfl ?_ | refine GuardJ.no rfl ?_)
        | (refine OpsJ.put (d := 45) rfl ?_; first | refine OpJ.pure (OpP.sub_in rfl rfl (by omega) (by omega)) ?_ | refine OpJ.pure (OpP.sub rfl rfl) ?_)
        | (refine OpsJ.gsel (d := 46) (j := 16) (want := false) rfl rfl rfl rfl ?_; first | refine GuardJ.yes (by with_reducible assumption) ?_ | refine GuardJ.no (by with_reducible assumption) ?_ | refine GuardJ.df rfl (by omega) ?_ | refine GuardJ.nt rfl (by omega) ?_ | refine GuardJ.yes rfl ?_ | refine GuardJ.no rfl ?_)
        | (refine OpsJ.put (d := 46) rfl ?_; first | refine OpJ.pure (OpP.idx1 rfl rfl (by omega) (by omega) (Src.ofR (by with_reducible assumption)) (ne_get (by assumption))) ?_ | refine OpJ.pure (OpP.idx1 rfl rfl (by omega) (by omega) (Src.ofRow (by repeat (first | exact List.Mem.head _ | apply List.Mem.tail))) (ne_get (by assumption))) ?_)
        | (refine OpsJ.gsel (d := 47) (j := 16) (want := false) rfl rfl rfl rfl ?_; first | refine GuardJ.yes (by with_reducible assumption) ?_ | refine GuardJ.no (by with_reducible assumption) ?_ | refine GuardJ.df rfl (by omega) ?_ | refine GuardJ.nt rfl (by omega) ?_ | refine GuardJ.yes rfl ?_ | refine GuardJ.no rfl ?_)
        | (refine OpsJ.put (d := 47) rfl ?_; first | refine OpJ.pure (OpP.load_blk (by exact rfl) rfl (by repeat (first | exact List.Mem.head _ | apply List.Mem.tail)) rfl) ?_ | refine OpJ.pure (OpP.loadN_blk (by exact rfl) rfl (by repeat (first | exact List.Mem.head _ | apply List.Mem.tail)) (by exact rfl)) ?_ | refine OpJ.pure (OpP.load1 (by exact rfl) rfl (Src.ofR (by with_reducible assumption)) rfl (by assumption)) ?_ | refine OpJ.pure (OpP.load1 (by exact rfl) rfl (Src.ofRow (by repeat (first | exact List.Mem.head _ | apply List.Mem.tail))) rfl (by assumption)) ?_)
        | (refine OpsJ.gsel (d := 48) (j := 16) (want := false) rfl rfl rfl rfl ?_; first | refine GuardJ.yes (by with_reducible assumption) ?_ | refine GuardJ.no (by with_reducible assumption) ?_ | refine GuardJ.df rfl (by omega) ?_ | refine GuardJ.nt rfl (by omega) ?_ | refine GuardJ.yes rfl ?_ | refine GuardJ.no rfl ?_)
        | (refine OpsJ.put (d := 48) rfl ?_; first | refine OpJ.pure (OpP.neq rfl rfl) ?_ | refine OpJ.pure (OpP.neq_string rfl rfl) ?_ | refine OpJ.pure (OpP.neq_bool rfl rfl) ?_ | refine OpJ.pure (OpP.neq_nil rfl rfl) ?_ | refine OpJ.pure (OpP.neq_nil_slice rfl rfl) ?_)
        | (refine OpsJ.gsel (d := 49) (j := 13) (want := true) rfl rfl rfl rfl ?_; first | refine GuardJ.yes (by with_reducible assumption) ?_ | refine GuardJ.no (by with_reducible assumption) ?_ | refine GuardJ.dt rfl (by omega) ?_ | refine GuardJ.nf rfl (by omega) ?_ | refine GuardJ.yes rfl ?_ | refine GuardJ.no rfl ?_)
        | (refine OpsJ.put (d := 49) rfl ?_; first | refine OpJ.pure (OpP.pick_t rfl (by with_reducible assumption) rfl) ?_ | refine OpJ.pure (OpP.pick_f rfl (by with_reducible assumption) rfl) ?_ | refine OpJ.pure (OpP.pick_dt rfl (by omega) rfl) ?_ | refine OpJ.pure (OpP.pick_df rfl (by omega) rfl) ?_ | refine OpJ.pure (OpP.pick_t rfl rfl rfl) ?_ | refine OpJ.pure (OpP.pick_f rfl rfl rfl) ?_ | refine OpJ.pure (OpP.pick rfl rfl rfl) ?_)
        | (refine OpsJ.put (d := 50) rfl ?_; first | refine OpJ.pure (OpP.pick_t rfl (by with_reducible assumption) rfl) ?_ | refine OpJ.pure (OpP.pick_f rfl (by with_reducible assumption) rfl) ?_ | refine OpJ.pure (OpP.pick_dt rfl (by omega) rfl) ?_ | refine OpJ.pure (OpP.pick_df rfl (by omega) rfl) ?_ | refine OpJ.pure (OpP.pick_t rfl rfl rfl) ?_ | refine OpJ.pure (OpP.pick_f rfl rfl rfl) ?_ | refine OpJ.pure (OpP.pick rfl rfl rfl) ?_)
        | (refine OpsJ.put (d := 51) rfl ?_; first | refine OpJ.pure (OpP.move rfl) ?_)
        | (refine OpsJ.gsel (d := 52) (j := 25) (want := true) rfl rfl rfl rfl ?_; first | refine GuardJ.yes (by with_reducible assumption) ?_ | refine GuardJ.no (by with_reducible assumption) ?_ | refine GuardJ.dt rfl (by omega) ?_ | refine GuardJ.nf rfl (by omega) ?_ | refine GuardJ.yes rfl ?_ | refine GuardJ.no rfl ?_)
        | (refine OpsJ.put (d := 53) rfl ?_; first | refine OpJ.pure (OpP.pick_t rfl (by with_reducible assumption) rfl) ?_ | refine OpJ.pure (OpP.pick_f rfl (by with_reducible assumption) rfl) ?_ | refine OpJ.pure (OpP.pick_dt rfl (by omega) rfl) ?_ | refine OpJ.pure (OpP.pick_df rfl (by omega) rfl) ?_ | refine OpJ.pure (OpP.pick_t rfl rfl rfl) ?_ | refine OpJ.pure (OpP.pick_f rfl rfl rfl) ?_ | refine OpJ.pure (OpP.pick rfl rfl rfl) ?_)
        | refine OpsJ.nil ?_
        | refine CodeJ.cond_t rfl (by with_reducible assumption) ?_
        | refine CodeJ.cond_f rfl (by with_reducible assumption) ?_
        | refine CodeJ.cond_dt rfl (by omega) ?_
        | refine CodeJ.cond_df rfl (by omega) ?_
        | refine CodeJ.cond_t rfl rfl ?_
        | refine CodeJ.cond_f rfl rfl ?_)
      refine OpsJ.put (d := 17) rfl (OpJ.call rfl (by repeat (first | exact Split.nil | apply Split.p0 | apply Split.p1 | apply Split.p2 | apply Split.p3 | apply Split.p4 | apply Split.p5 | apply Split.p6 | apply Split.p7 | apply Split.p8)) (fun R' hle hin => out_calls R' _ (enc w) _ ⟨_, _, _, _, hm, hcs, rfl⟩ ?_) ?_)
      · have := enc_nat_length w (by omega); omega
      rintro u D3 hs3 hd3 ⟨A', m', c', cs', hw, rfl, hm', hcs', ⟨A2, c2, m2, cs2, hm2, hcs2, rfl⟩, rfl⟩
      have hlen := enc_nat_length w (by omega)
      have hpos := enc_pos w
      repeat (first
        | refine CodeJ.seq' ?_
        | refine CodeJ.region ?_
        | refine CodeJ.block ?_
        | refine CodeJ.skip ?_
        | refine CodeJ.exit rfl ?_
        | refine CodeJ.ret' ?_
        | (refine OpsJ.put (d := 2) rfl ?_; first | refine OpJ.pure (OpP.assign rfl) ?_)
        | (refine OpsJ.put (d := 7) rfl ?_; first | refine OpJ.pure (OpP.move rfl) ?_)
        | (refine OpsJ.put (d := 8) rfl ?_; first | refine OpJ.pure (OpP.lss rfl rfl) ?_)
        | (refine OpsJ.put (d := 9) rfl ?_; first | refine OpJ.pure (OpP.move rfl) ?_)
        | (refine OpsJ.gsel (d := 10) (j := 2) (want := false) rfl rfl rfl rfl ?_; first | refine GuardJ.yes (by with_reducible assumption) ?_ | refine GuardJ.no (by with_reducible assumption) ?_ | refine GuardJ.df rfl (by omega) ?_ | refine GuardJ.nt rfl (by omega) ?_ | refine GuardJ.yes rfl ?_ | refine GuardJ.no rfl ?_)
        | (refine OpsJ.put (d := 10) rfl ?_; first | refine OpJ.pure (OpP.move rfl) ?_)
        | (refine OpsJ.gsel (d := 11) (j := 2) (want := false) rfl rfl rfl rfl ?_; first | refine GuardJ.yes (by with_reducible assumption) ?_ | refine GuardJ.no (by with_reducible assumption) ?_ | refine GuardJ.df rfl (by omega) ?_ | refine GuardJ.nt rfl (by omega) ?_ | refine GuardJ.yes rfl ?_ | refine GuardJ.no rfl ?_)
        | (refine OpsJ.put (d := 11) rfl ?_; first | refine OpJ.pure (OpP.gtr rfl rfl) ?_)
        | (refine OpsJ.put (d := 12) rfl ?_; first | refine OpJ.pure (OpP.pick_t rfl (by with_reducible assumption) rfl) ?_ | refine OpJ.pure (OpP.pick_f rfl (by with_reducible assumption) rfl) ?_ | refine OpJ.pure (OpP.pick_dt rfl (by omega) rfl) ?_ | refine OpJ.pure (OpP.pick_df rfl (by omega) rfl) ?_ | refine OpJ.pure (OpP.pick_t rfl rfl rfl) ?_ | refine OpJ.pure (OpP.pick_f rfl rfl rfl) ?_ | refine OpJ.pure (OpP.pick rfl rfl rfl) ?_)
        | (refine OpsJ.put (d := 3) rfl ?_; first | refine OpJ.alloc (fun _ => ?_))
        | (refine OpsJ.put (d := 14) rfl ?_; first | refine OpJ.pure (OpP.move rfl) ?_)
        | (refine OpsJ.put (d := 15) rfl ?_; first | (refine OpJ.buildSlice rfl rfl (by exact rfl) (by exact rfl) rfl (fun _ => ?_); dsimp only [lsplice, take1, take2, take3, take4, drop1, drop2, drop3, drop4, List.take_zero, List.drop_zero, List.cons_append, List.nil_append, List.length_cons, List.length_nil, Nat.reduceAdd, fillL, sliceL, Value.cells, List.toList_toArray, List.append_nil]))
        | (refine OpsJ.put (d := 4) rfl ?_; first | refine OpJ.pure (OpP.assign rfl) ?_)
        | (refine OpsJ.put (d := 5) rfl ?_; first | refine OpJ.pure (OpP.assign rfl) ?_)
        | (refine OpsJ.put (d := 18) rfl ?_; first | refine OpJ.pure (OpP.move rfl) ?_)
        | (refine OpsJ.put (d := 19) rfl ?_; first | refine OpJ.pure (OpP.shr_nat rfl rfl rfl) ?_ | refine OpJ.pure (OpP.shr rfl rfl (by omega)) ?_)
        | (refine OpsJ.put (d := 6) rfl ?_; first | refine OpJ.pure (OpP.assign rfl) ?_)
        | (refine OpsJ.put (d := 20) rfl ?_; first | refine OpJ.pure (OpP.move rfl) ?_)
        | (refine OpsJ.put (d := 21) rfl ?_; first | refine OpJ.pure (OpP.gtr rfl rfl) ?_)
        | (refine OpsJ.put (d := 24) rfl ?_; first | refine OpJ.pure (OpP.move rfl) ?_)
        | (refine OpsJ.put (d := 25) rfl ?_; first | refine OpJ.pure (OpP.add_in rfl rfl (by omega) (by omega)) ?_ | refine OpJ.pure (OpP.cat rfl rfl (by omega)) ?_ | refine OpJ.pure (OpP.add rfl rfl) ?_)
        | (refine OpsJ.put (d := 22) rfl ?_; first | refine OpJ.pure (OpP.move rfl) ?_)
        | (refine OpsJ.put (d := 23) rfl ?_; first | refine OpJ.pure (OpP.shr_nat rfl rfl rfl) ?_ | refine OpJ.pure (OpP.shr rfl rfl (by omega)) ?_)
        | (refine OpsJ.put (d := 26) rfl ?_; first | refine OpJ.pure (OpP.move rfl) ?_)
        | (refine OpsJ.put (d := 27) rfl ?_; first | refine OpJ.pure (OpP.len rfl) ?_ | refine OpJ.pure (OpP.len_string rfl) ?_)
        | (refine OpsJ.put (d := 28) rfl ?_; first | refine OpJ.pure (OpP.move rfl) ?_)
        | (refine OpsJ.put (d := 29) rfl ?_; first | refine OpJ.pure (OpP.eql rfl rfl) ?_ | refine OpJ.pure (OpP.eql_string rfl rfl) ?_ | refine OpJ.pure (OpP.eql_bool rfl rfl) ?_ | refine OpJ.pure (OpP.eql_nil rfl rfl) ?_ | refine OpJ.pure (OpP.eql_nil_slice rfl rfl) ?_)
        | (refine OpsJ.put (d := 30) rfl ?_; first | refine OpJ.pure (OpP.move rfl) ?_)
        | (refine OpsJ.gsel (d := 31) (j := 4) (want := true) rfl rfl rfl rfl ?_; first | refine GuardJ.yes (by with_reducible assumption) ?_ | refine GuardJ.no (by with_reducible assumption) ?_ | refine GuardJ.dt rfl (by omega) ?_ | refine GuardJ.nf rfl (by omega) ?_ | refine GuardJ.yes rfl ?_ | refine GuardJ.no rfl ?_)
        | (refine OpsJ.put (d := 31) rfl ?_; first | refine OpJ.pure (OpP.move rfl) ?_)
        | (refine OpsJ.gsel (d := 32) (j := 4) (want := true) rfl rfl rfl rfl ?_; first | refine GuardJ.yes (by with_reducible assumption) ?_ | refine GuardJ.no (by with_reducible assumption) ?_ | refine GuardJ.dt rfl (by omega) ?_ | refine GuardJ.nf rfl (by omega) ?_ | refine GuardJ.yes rfl ?_ | refine GuardJ.no rfl ?_)
        | (refine OpsJ.put (d := 32) rfl ?_; first | refine OpJ.pure (OpP.idx1 rfl rfl (by omega) (by omega) (Src.ofR (by with_reducible assumption)) (ne_get (by assumption))) ?_ | refine OpJ.pure (OpP.idx1 rfl rfl (by omega) (by omega) (Src.ofRow (by repeat (first | exact List.Mem.head _ | apply List.Mem.tail))) (ne_get (by assumption))) ?_)
        | (refine OpsJ.gsel (d := 33) (j := 4) (want := true) rfl rfl rfl rfl ?_; first | refine GuardJ.yes (by with_reducible assumption) ?_ | refine GuardJ.no (by with_reducible assumption) ?_ | refine GuardJ.dt rfl (by omega) ?_ | refine GuardJ.nf rfl (by omega) ?_ | refine GuardJ.yes rfl ?_ | refine GuardJ.no rfl ?_)
        | (refine OpsJ.put (d := 33) rfl ?_; first | refine OpJ.pure (OpP.load_blk (by exact rfl) rfl (by repeat (first | exact List.Mem.head _ | apply List.Mem.tail)) rfl) ?_ | refine OpJ.pure (OpP.loadN_blk (by exact rfl) rfl (by repeat (first | exact List.Mem.head _ | apply List.Mem.tail)) (by exact rfl)) ?_ | refine OpJ.pure (OpP.load1 (by exact rfl) rfl (Src.ofR (by with_reducible assumption)) rfl (by assumption)) ?_ | refine OpJ.pure (OpP.load1 (by exact rfl) rfl (Src.ofRow (by repeat (first | exact List.Mem.head _ | apply List.Mem.tail))) rfl (by assumption)) ?_)
        | (refine OpsJ.gsel (d := 34) (j := 4) (want := true) rfl rfl rfl rfl ?_; first | refine GuardJ.yes (by with_reducible assumption) ?_ | refine GuardJ.no (by with_reducible assumption) ?_ | refine GuardJ.dt rfl (by omega) ?_ | refine GuardJ.nf rfl (by omega) ?_ | refine GuardJ.yes rfl ?_ | refine GuardJ.no rfl ?_)
        | (refine OpsJ.put (d := 34) rfl ?_; first | refine OpJ.pure (OpP.lss rfl rfl) ?_)
        | (refine OpsJ.gsel (d := 35) (j := 4) (want := true) rfl rfl rfl rfl ?_; first | refine GuardJ.yes (by with_reducible assumption) ?_ | refine GuardJ.no (by with_reducible assumption) ?_ | refine GuardJ.dt rfl (by omega) ?_ | refine GuardJ.nf rfl (by omega) ?_ | refine GuardJ.yes rfl ?_ | refine GuardJ.no rfl ?_)
        | (refine OpsJ.put (d := 35) rfl ?_; first | refine OpJ.pure (OpP.move rfl) ?_)
        | (refine OpsJ.gsel (d := 36) (j := 4) (want := true) rfl rfl rfl rfl ?_; first | refine GuardJ.yes (by with_reducible assumption) ?_ | refine GuardJ.no (by with_reducible assumption) ?_ | refine GuardJ.dt rfl (by omega) ?_ | refine GuardJ.nf rfl (by omega) ?_ | refine GuardJ.yes rfl ?_ | refine GuardJ.no rfl ?_)
        | (refine OpsJ.put (d := 36) rfl ?_; first | refine OpJ.pure (OpP.lss rfl rfl) ?_)
        | (refine OpsJ.gsel (d := 37) (j := 4) (want := true) rfl rfl rfl rfl ?_; first | refine GuardJ.yes (by with_reducible assumption) ?_ | refine GuardJ.no (by with_reducible assumption) ?_ | refine GuardJ.dt rfl (by omega) ?_ | refine GuardJ.nf rfl (by omega) ?_ | refine GuardJ.yes rfl ?_ | refine GuardJ.no rfl ?_)
        | (refine OpsJ.put (d := 37) rfl ?_; first | refine OpJ.pure (OpP.eql rfl rfl) ?_ | refine OpJ.pure (OpP.eql_string rfl rfl) ?_ | refine OpJ.pure (OpP.eql_bool rfl rfl) ?_ | refine OpJ.pure (OpP.eql_nil rfl rfl) ?_ | refine OpJ.pure (OpP.eql_nil_slice rfl rfl) ?_)
        | (refine OpsJ.put (d := 38) rfl ?_; first | refine OpJ.pure (OpP.pick_t rfl (by with_reducible assumption) rfl) ?_ | refine OpJ.pure (OpP.pick_f rfl (by with_reducible assumption) rfl) ?_ | refine OpJ.pure (OpP.pick_dt rfl (by omega) rfl) ?_ | refine OpJ.pure (OpP.pick_df rfl (by omega) rfl) ?_ | refine OpJ.pure (OpP.pick_t rfl rfl rfl) ?_ | refine OpJ.pure (OpP.pick_f rfl rfl rfl) ?_ | refine OpJ.pure (OpP.pick rfl rfl rfl) ?_)
        | (refine OpsJ.put (d := 39) rfl ?_; first | refine OpJ.pure (OpP.move rfl) ?_)
        | (refine OpsJ.gsel (d := 40) (j := 13) (want := true) rfl rfl rfl rfl ?_; first | refine GuardJ.yes (by with_reducible assumption) ?_ | refine GuardJ.no (by with_reducible assumption) ?_ | refine GuardJ.dt rfl (by omega) ?_ | refine GuardJ.nf rfl (by omega) ?_ | refine GuardJ.yes rfl ?_ | refine GuardJ.no rfl ?_)
        | (refine OpsJ.put (d := 40) rfl ?_; first | refine OpJ.pure (OpP.move rfl) ?_)
        | (refine OpsJ.gsel (d := 41) (j := 13) (want := true) rfl rfl rfl rfl ?_; first | refine GuardJ.yes (by with_reducible assumption) ?_ | refine GuardJ.no (by with_reducible assumption) ?_ | refine GuardJ.dt rfl (by omega) ?_ | refine GuardJ.nf rfl (by omega) ?_ | refine GuardJ.yes rfl ?_ | refine GuardJ.no rfl ?_)
        | (refine OpsJ.put (d := 41) rfl ?_; first | refine OpJ.pure (OpP.eql rfl rfl) ?_ | refine OpJ.pure (OpP.eql_string rfl rfl) ?_ | refine OpJ.pure (OpP.eql_bool rfl rfl) ?_ | refine OpJ.pure (OpP.eql_nil rfl rfl) ?_ | refine OpJ.pure (OpP.eql_nil_slice rfl rfl) ?_)
        | (refine OpsJ.gsel (d := 42) (j := 13) (want := true) rfl rfl rfl rfl ?_; first | refine GuardJ.yes (by with_reducible assumption) ?_ | refine GuardJ.no (by with_reducible assumption) ?_ | refine GuardJ.dt rfl (by omega) ?_ | refine GuardJ.nf rfl (by omega) ?_ | refine GuardJ.yes rfl ?_ | refine GuardJ.no rfl ?_)
        | (refine OpsJ.put (d := 42) rfl ?_; first | refine OpJ.pure (OpP.move rfl) ?_)
        | (refine OpsJ.gsel (d := 43) (j := 16) (want := false) rfl rfl rfl rfl ?_; first | refine GuardJ.yes (by with_reducible assumption) ?_ | refine GuardJ.no (by with_reducible assumption) ?_ | refine GuardJ.df rfl (by omega) ?_ | refine GuardJ.nt rfl (by omega) ?_ | refine GuardJ.yes rfl ?_ | refine GuardJ.no rfl ?_)
        | (refine OpsJ.put (d := 43) rfl ?_; first | refine OpJ.pure (OpP.move rfl) ?_)
        | (refine OpsJ.gsel (d := 44) (j := 16) (want := false) rfl rfl rfl rfl ?_; first | refine GuardJ.yes (by with_reducible assumption) ?_ | refine GuardJ.no (by with_reducible assumption) ?_ | refine GuardJ.df rfl (by omega) ?_ | refine GuardJ.nt rfl (by omega) ?_ | refine GuardJ.yes rfl ?_ | refine GuardJ.no rfl ?_)
        | (refine OpsJ.put (d := 44) rfl ?_; first | refine OpJ.pure (OpP.move rfl) ?_)
        | (refine OpsJ.gsel (d := 45) (j := 16) (want := false) rfl rfl rfl rfl ?_; first | refine GuardJ.yes (by with_reducible assumption) ?_ | refine GuardJ.no (by with_reducible assumption) ?_ | refine GuardJ.df rfl (by omega) ?_ | refine GuardJ.nt rfl (by omega) ?_ | refine GuardJ.yes rfl ?_ | refine GuardJ.no rfl ?_)
        | (refine OpsJ.put (d := 45) rfl ?_; first | refine OpJ.pure (OpP.sub_in rfl rfl (by omega) (by omega)) ?_ | refine OpJ.pure (OpP.sub rfl rfl) ?_)
        | (refine OpsJ.gsel (d := 46) (j := 16) (want := false) rfl rfl rfl rfl ?_; first | refine GuardJ.yes (by with_reducible assumption) ?_ | refine GuardJ.no (by with_reducible assumption) ?_ | refine GuardJ.df rfl (by omega) ?_ | refine GuardJ.nt rfl (by omega) ?_ | refine GuardJ.yes rfl ?_ | refine GuardJ.no rfl ?_)
        | (refine OpsJ.put (d := 46) rfl ?_; first | refine OpJ.pure (OpP.idx1 rfl rfl (by omega) (by omega) (Src.ofR (by with_reducible assumption)) (ne_get (by assumption))) ?_ | refine OpJ.pure (OpP.idx1 rfl rfl (by omega) (by omega) (Src.ofRow (by repeat (first | exact List.Mem.head _ | apply List.Mem.tail))) (ne_get (by assumption))) ?_)
        | (refine OpsJ.gsel (d := 47) (j := 16) (want := false) rfl rfl rfl rfl ?_; first | refine GuardJ.yes (by with_reducible assumption) ?_ | refine GuardJ.no (by with_reducible assumption) ?_ | refine GuardJ.df rfl (by omega) ?_ | refine GuardJ.nt rfl (by omega) ?_ | refine GuardJ.yes rfl ?_ | refine GuardJ.no rfl ?_)
        | (refine OpsJ.put (d := 47) rfl ?_; first | refine OpJ.pure (OpP.load_blk (by exact rfl) rfl (by repeat (first | exact List.Mem.head _ | apply List.Mem.tail)) rfl) ?_ | refine OpJ.pure (OpP.loadN_blk (by exact rfl) rfl (by repeat (first | exact List.Mem.head _ | apply List.Mem.tail)) (by exact rfl)) ?_ | refine OpJ.pure (OpP.load1 (by exact rfl) rfl (Src.ofR (by with_reducible assumption)) rfl (by assumption)) ?_ | refine OpJ.pure (OpP.load1 (by exact rfl) rfl (Src.ofRow (by repeat (first | exact List.Mem.head _ | apply List.Mem.tail))) rfl (by assumption)) ?_)
        | (refine OpsJ.gsel (d := 48) (j := 16) (want := false) rfl rfl rfl rfl ?_; first | refine GuardJ.yes (by with_reducible assumption) ?_ | refine GuardJ.no (by with_reducible assumption) ?_ | refine GuardJ.df rfl (by omega) ?_ | refine GuardJ.nt rfl (by omega) ?_ | refine GuardJ.yes rfl ?_ | refine GuardJ.no rfl ?_)
        | (refine OpsJ.put (d := 48) rfl ?_; first | refine OpJ.pure (OpP.neq rfl rfl) ?_ | refine OpJ.pure (OpP.neq_string rfl rfl) ?_ | refine OpJ.pure (OpP.neq_bool rfl rfl) ?_ | refine OpJ.pure (OpP.neq_nil rfl rfl) ?_ | refine OpJ.pure (OpP.neq_nil_slice rfl rfl) ?_)
        | (refine OpsJ.gsel (d := 49) (j := 13) (want := true) rfl rfl rfl rfl ?_; first | refine GuardJ.yes (by with_reducible assumption) ?_ | refine GuardJ.no (by with_reducible assumption) ?_ | refine GuardJ.dt rfl (by omega) ?_ | refine GuardJ.nf rfl (by omega) ?_ | refine GuardJ.yes rfl ?_ | refine GuardJ.no rfl ?_)
        | (refine OpsJ.put (d := 49) rfl ?_; first | refine OpJ.pure (OpP.pick_t rfl (by with_reducible assumption) rfl) ?_ | refine OpJ.pure (OpP.pick_f rfl (by with_reducible assumption) rfl) ?_ | refine OpJ.pure (OpP.pick_dt rfl (by omega) rfl) ?_ | refine OpJ.pure (OpP.pick_df rfl (by omega) rfl) ?_ | refine OpJ.pure (OpP.pick_t rfl rfl rfl) ?_ | refine OpJ.pure (OpP.pick_f rfl rfl rfl) ?_ | refine OpJ.pure (OpP.pick rfl rfl rfl) ?_)
        | (refine OpsJ.put (d := 50) rfl ?_; first | refine OpJ.pure (OpP.pick_t rfl (by with_reducible assumption) rfl) ?_ | refine OpJ.pure (OpP.pick_f rfl (by with_reducible assumption) rfl) ?_ | refine OpJ.pure (OpP.pick_dt rfl (by omega) rfl) ?_ | refine OpJ.pure (OpP.pick_df rfl (by omega) rfl) ?_ | refine OpJ.pure (OpP.pick_t rfl rfl rfl) ?_ | refine OpJ.pure (OpP.pick_f rfl rfl rfl) ?_ | refine OpJ.pure (OpP.pick rfl rfl rfl) ?_)
        | (refine OpsJ.put (d := 51) rfl ?_; first | refine OpJ.pure (OpP.move rfl) ?_)
        | (refine OpsJ.gsel (d := 52) (j := 25) (want := true) rfl rfl rfl rfl ?_; first | refine GuardJ.yes (by with_reducible assumption) ?_ | refine GuardJ.no (by with_reducible assumption) ?_ | refine GuardJ.dt rfl (by omega) ?_ | refine GuardJ.nf rfl (by omega) ?_ | refine GuardJ.yes rfl ?_ | refine GuardJ.no rfl ?_)
        | (refine OpsJ.put (d := 53) rfl ?_; first | refine OpJ.pure (OpP.pick_t rfl (by with_reducible assumption) rfl) ?_ | refine OpJ.pure (OpP.pick_f rfl (by with_reducible assumption) rfl) ?_ | refine OpJ.pure (OpP.pick_dt rfl (by omega) rfl) ?_ | refine OpJ.pure (OpP.pick_df rfl (by omega) rfl) ?_ | refine OpJ.pure (OpP.pick_t rfl rfl rfl) ?_ | refine OpJ.pure (OpP.pick_f rfl rfl rfl) ?_ | refine OpJ.pure (OpP.pick rfl rfl rfl) ?_)
        | refine OpsJ.nil ?_
        | refine CodeJ.cond_t rfl (by with_reducible assumption) ?_
        | refine CodeJ.cond_f rfl (by with_reducible assumption) ?_
        | refine CodeJ.cond_dt rfl (by omega) ?_
        | refine CodeJ.cond_df rfl (by omega) ?_
        | refine CodeJ.cond_t rfl rfl ?_
        | refine CodeJ.cond_f rfl rfl ?_)
      refine CodeJ.loop (fun k e s => ∃ (q x : Nat), k = x ∧ q + (if x = 0 then 0 else (enc x).length) = (enc w).length ∧ 1 ≤ q ∧ 
        e = [(0, .int .i64 (w : Int)), (4, .slice A' m' c'), (5, .int .i64 q), (6, .int .i64 x)] ∧ s = ⟨((R.or D).or D3), [.row 5 1 A' m' c' cs']⟩) (w / 2 ^ 7)
        ⟨1, w / 2 ^ 7, rfl, ?_, Nat.le_refl _, rfl, rfl⟩ (by repeat (first | exact SubE.nil _ | refine SubE.cons rfl ?_)) (by repeat (first | exact SubL.nil _ | refine SubL.p0 ?_ | refine SubL.p1 ?_ | refine SubL.p2 ?_ | refine SubL.p3 ?_ | refine SubL.p4 ?_ | refine SubL.p5 ?_ | refine SubL.p6 ?_ | refine SubL.p7 ?_)) ?_
      · by_cases hw : w < 128
        · rw [if_pos (by omega), enc_small hw]; rfl
        · rw [if_neg (by omega), enc_big hw, List.length_cons]; simp only [Nat.reducePow]; omega
      clear hm hcs
      rintro k e1 s1 ⟨q, x, hk, hq, hq1, rfl, rfl⟩
      repeat (first
        | refine CodeJ.seq' ?_
        | refine CodeJ.region ?_
        | refine CodeJ.block ?_
        | refine CodeJ.skip ?_
        | refine CodeJ.exit rfl ?_
        | refine CodeJ.ret' ?_
        | (refine OpsJ.put (d := 2) rfl ?_; first | refine OpJ.pure (OpP.assign rfl) ?_)
        | (refine OpsJ.put (d := 7) rfl ?_; first | refine OpJ.pure (OpP.move rfl) ?_)
        | (refine OpsJ.put (d := 8) rfl ?_; first | refine OpJ.pure (OpP.lss rfl rfl) ?_)
        | (refine OpsJ.put (d := 9) rfl ?_; first | refine OpJ.pure (OpP.move rfl) ?_)
        | (refine OpsJ.gsel (d := 10) (j := 2) (want := false) rfl rfl rfl rfl ?_; first | refine GuardJ.yes (by with_reducible assumption) ?_ | refine GuardJ.no (by with_reducible assumption) ?_ | refine GuardJ.df rfl (by omega) ?_ | refine GuardJ.nt rfl (by omega) ?_ | refine GuardJ.yes rfl ?_ | refine GuardJ.no rfl ?_)
        | (refine OpsJ.put (d := 10) rfl ?_; first | refine OpJ.pure (OpP.move rfl) ?_)
        | (refine OpsJ.gsel (d := 11) (j := 2) (want := false) rfl rfl rfl rfl ?_; first | refine GuardJ.yes (by with_reducible assumption) ?_ | refine GuardJ.no (by with_reducible assumption) ?_ | refine GuardJ.df rfl (by omega) ?_ | refine GuardJ.nt rfl (by omega) ?_ | refine GuardJ.yes rfl ?_ | refine GuardJ.no rfl ?_)
        | (refine OpsJ.put (d := 11) rfl ?_; first | refine OpJ.pure (OpP.gtr rfl rfl) ?_)
        | (refine OpsJ.put (d := 12) rfl ?_; first | refine OpJ.pure (OpP.pick_t rfl (by with_reducible assumption) rfl) ?_ | refine OpJ.pure (OpP.pick_f rfl (by with_reducible assumption) rfl) ?_ | refine OpJ.pure (OpP.pick_dt rfl (by omega) rfl) ?_ | refine OpJ.pure (OpP.pick_df rfl (by omega) rfl) ?_ | refine OpJ.pure (OpP.pick_t rfl rfl rfl) ?_ | refine OpJ.pure (OpP.pick_f rfl rfl rfl) ?_ | refine OpJ.pure (OpP.pick rfl rfl rfl) ?_)
        | (refine OpsJ.put (d := 3) rfl ?_; first | refine OpJ.alloc (fun _ => ?_))
        | (refine OpsJ.put (d := 14) rfl ?_; first | refine OpJ.pure (OpP.move rfl) ?_)
        | (refine OpsJ.put (d := 15) rfl ?_; first | (refine OpJ.buildSlice rfl rfl (by exact rfl) (by exact rfl) rfl (fun _ => ?_); dsimp only [lsplice, take1, take2, take3, take4, drop1, drop2, drop3, drop4, List.take_zero, List.drop_zero, List.cons_append, List.nil_append, List.length_cons, List.length_nil, Nat.reduceAdd, fillL, sliceL, Value.cells, List.toList_toArray, List.append_nil]))
        | (refine OpsJ.put (d := 4) rfl ?_; first | refine OpJ.pure (OpP.assign rfl) ?_)
        | (refine OpsJ.put (d := 5) rfl ?_; first | refine OpJ.pure (OpP.assign rfl) ?_)
        | (refine OpsJ.put (d := 18) rfl ?_; first | refine OpJ.pure (OpP.move rfl) ?_)
        | (refine OpsJ.put (d := 19) rfl ?_; first | refine OpJ.pure (OpP.shr_nat rfl rfl rfl) ?_ | refine OpJ.pure (OpP.shr rfl rfl (by omega)) ?_)
        | (refine OpsJ.put (d := 6) rfl ?_; first | refine OpJ.pure (OpP.assign rfl) ?_)
        | (refine OpsJ.put (d := 20) rfl ?_; first | refine OpJ.pure (OpP.move rfl) ?_)
        | (refine OpsJ.put (d := 21) rfl ?_; first | refine OpJ.pure (OpP.gtr rfl rfl) ?_)
        | (refine OpsJ.put (d := 24) rfl ?_; first | refine OpJ.pure (OpP.move rfl) ?_)
        | (refine OpsJ.put (d := 25) rfl ?_; first | refine OpJ.pure (OpP.add_in rfl rfl (by omega) (by omega)) ?_ | refine OpJ.pure (OpP.cat rfl rfl (by omega)) ?_ | refine OpJ.pure (OpP.add rfl rfl) ?_)
        | (refine OpsJ.put (d := 22) rfl ?_; first | refine OpJ.pure (OpP.move rfl) ?_)
        | (refine OpsJ.put (d := 23) rfl ?_; first | refine OpJ.pure (OpP.shr_nat rfl rfl rfl) ?_ | refine OpJ.pure (OpP.shr rfl rfl (by omega)) ?_)
        | (refine OpsJ.put (d := 26) rfl ?_; first | refine OpJ.pure (OpP.move rfl) ?_)
        | (refine OpsJ.put (d := 27) rfl ?_; first | refine OpJ.pure (OpP.len rfl) ?_ | refine OpJ.pure (OpP.len_string rfl) ?_)
        | (refine OpsJ.put (d := 28) rfl ?_; first | refine OpJ.pure (OpP.move rfl) ?_)
        | (refine OpsJ.put (d := 29) rfl ?_; first | refine OpJ.pure (OpP.eql rfl rfl) ?_ | refine OpJ.pure (OpP.eql_string rfl rfl) ?_ | refine OpJ.pure (OpP.eql_bool rfl rfl) ?_ | refine OpJ.pure (OpP.eql_nil rfl rfl) ?_ | refine OpJ.pure (OpP.eql_nil_slice rfl rfl) ?_)
        | (refine OpsJ.put (d := 30) rfl ?_; first | refine OpJ.pure (OpP.move rfl) ?_)
        | (refine OpsJ.gsel (d := 31) (j := 4) (want := true) rfl rfl rfl rfl ?_; first | refine GuardJ.yes (by with_reducible assumption) ?_ | refine GuardJ.no (by with_reducible assumption) ?_ | refine GuardJ.dt rfl (by omega) ?_ | refine GuardJ.nf rfl (by omega) ?_ | refine GuardJ.yes rfl ?_ | refine GuardJ.no rfl ?_)
        | (refine OpsJ.put (d := 31) rfl ?_; first | refine OpJ.pure (OpP.move rfl) ?_)
        | (refine OpsJ.gsel (d := 32) (j := 4) (want := true) rfl rfl rfl rfl ?_; first | refine GuardJ.yes (by with_reducible assumption) ?_ | refine GuardJ.no (by with_reducible assumption) ?_ | refine GuardJ.dt rfl (by omega) ?_ | refine GuardJ.nf rfl (by omega) ?_ | refine GuardJ.yes rfl ?_ | refine GuardJ.no rfl ?_)
        | (refine OpsJ.put (d := 32) rfl ?_; first | refine OpJ.pure (OpP.idx1 rfl rfl (by omega) (by omega) (Src.ofR (by with_reducible assumption)) (ne_get (by assumption))) ?_ | refine OpJ.pure (OpP.idx1 rfl rfl (by omega) (by omega) (Src.ofRow (by repeat (first | exact List.Mem.head _ | apply List.Mem.tail))) (ne_get (by assumption))) ?_)
        | (refine OpsJ.gsel (d := 33) (j := 4) (want := true) rfl rfl rfl rfl ?_; first | refine GuardJ.yes (by with_reducible assumption) ?_ | refine GuardJ.no (by with_reducible assumption) ?_ | refine GuardJ.dt rfl (by omega) ?_ | refine GuardJ.nf rfl (by omega) ?_ | refine GuardJ.yes rfl ?_ | refine GuardJ.no rfl ?_)
        | (refine OpsJ.put (d := 33) rfl ?_; first | refine OpJ.pure (OpP.load_blk (by exact rfl) rfl (by repeat (first | exact List.Mem.head _ | apply List.Mem.tail)) rfl) ?_ | refine OpJ.pure (OpP.loadN_blk (by exact rfl) rfl (by repeat (first | exact List.Mem.head _ | apply List.Mem.tail)) (by exact rfl)) ?_ | refine OpJ.pure (OpP.load1 (by exact rfl) rfl (Src.ofR (by with_reducible assumption)) rfl (by assumption)) ?_ | refine OpJ.pure (OpP.load1 (by exact rfl) rfl (Src.ofRow (by repeat (first | exact List.Mem.head _ | apply List.Mem.tail))) rfl (by assumption)) ?_)
        | (refine OpsJ.gsel (d := 34) (j := 4) (want := true) rfl rfl rfl rfl ?_; first | refine GuardJ.yes (by with_reducible assumption) ?_ | refine GuardJ.no (by with_reducible assumption) ?_ | refine GuardJ.dt rfl (by omega) ?_ | refine GuardJ.nf rfl (by omega) ?_ | refine GuardJ.yes rfl ?_ | refine GuardJ.no rfl ?_)
        | (refine OpsJ.put (d := 34) rfl ?_; first | refine OpJ.pure (OpP.lss rfl rfl) ?_)
        | (refine OpsJ.gsel (d := 35) (j := 4) (want := true) rfl rfl rfl rfl ?_; first | refine GuardJ.yes (by with_reducible assumption) ?_ | refine GuardJ.no (by with_reducible assumption) ?_ | refine GuardJ.dt rfl (by omega) ?_ | refine GuardJ.nf rfl (by omega) ?_ | refine GuardJ.yes rfl ?_ | refine GuardJ.no rfl ?_)
        | (refine OpsJ.put (d := 35) rfl ?_; first | refine OpJ.pure (OpP.move rfl) ?_)
        | (refine OpsJ.gsel (d := 36) (j := 4) (want := true) rfl rfl rfl rfl ?_; first | refine GuardJ.yes (by with_reducible assumption) ?_ | refine GuardJ.no (by with_reducible assumption) ?_ | refine GuardJ.dt rfl (by omega) ?_ | refine GuardJ.nf rfl (by omega) ?_ | refine GuardJ.yes rfl ?_ | refine GuardJ.no rfl ?_)
        | (refine OpsJ.put (d := 36) rfl ?_; first | refine OpJ.pure (OpP.lss rfl rfl) ?_)
        | (refine OpsJ.gsel (d := 37) (j := 4) (want := true) rfl rfl rfl rfl ?_; first | refine GuardJ.yes (by with_reducible assumption) ?_ | refine GuardJ.no (by with_reducible assumption) ?_ | refine GuardJ.dt rfl (by omega) ?_ | refine GuardJ.nf rfl (by omega) ?_ | refine GuardJ.yes rfl ?_ | refine GuardJ.no rfl ?_)
        | (refine OpsJ.put (d := 37) rfl ?_; first | refine OpJ.pure (OpP.eql rfl rfl) ?_ | refine OpJ.pure (OpP.eql_string rfl rfl) ?_ | refine OpJ.pure (OpP.eql_bool rfl rfl) ?_ | refine OpJ.pure (OpP.eql_nil rfl rfl) ?_ | refine OpJ.pure (OpP.eql_nil_slice rfl rfl) ?_)
        | (refine OpsJ.put (d := 38) rfl ?_; first | refine OpJ.pure (OpP.pick_t rfl (by with_reducible assumption) rfl) ?_ | refine OpJ.pure (OpP.pick_f rfl (by with_reducible assumption) rfl) ?_ | refine OpJ.pure (OpP.pick_dt rfl (by omega) rfl) ?_ | refine OpJ.pure (OpP.pick_df rfl (by omega) rfl) ?_ | refine OpJ.pure (OpP.pick_t rfl rfl rfl) ?_ | refine OpJ.pure (OpP.pick_f rfl rfl rfl) ?_ | refine OpJ.pure (OpP.pick rfl rfl rfl) ?_)
        | (refine OpsJ.put (d := 39) rfl ?_; first | refine OpJ.pure (OpP.move rfl) ?_)
        | (refine OpsJ.gsel (d := 40) (j := 13) (want := true) rfl rfl rfl rfl ?_; first | refine GuardJ.yes (by with_reducible assumption) ?_ | refine GuardJ.no (by with_reducible assumption) ?_ | refine GuardJ.dt rfl (by omega) ?_ | refine GuardJ.nf rfl (by omega) ?_ | refine GuardJ.yes rfl ?_ | refine GuardJ.no rfl ?_)
        | (refine OpsJ.put (d := 40) rfl ?_; first | refine OpJ.pure (OpP.move rfl) ?_)
        | (refine OpsJ.gsel (d := 41) (j := 13) (want := true) rfl rfl rfl rfl ?_; first | refine GuardJ.yes (by with_reducible assumption) ?_ | refine GuardJ.no (by with_reducible assumption) ?_ | refine GuardJ.dt rfl (by omega) ?_ | refine GuardJ.nf rfl (by omega) ?_ | refine GuardJ.yes rfl ?_ | refine GuardJ.no rfl ?_)
        | (refine OpsJ.put (d := 41) rfl ?_; first | refine OpJ.pure (OpP.eql rfl rfl) ?_ | refine OpJ.pure (OpP.eql_string rfl rfl) ?_ | refine OpJ.pure (OpP.eql_bool rfl rfl) ?_ | refine OpJ.pure (OpP.eql_nil rfl rfl) ?_ | refine OpJ.pure (OpP.eql_nil_slice rfl rfl) ?_)
        | (refine OpsJ.gsel (d := 42) (j := 13) (want := true) rfl rfl rfl rfl ?_; first | refine GuardJ.yes (by with_reducible assumption) ?_ | refine GuardJ.no (by with_reducible assumption) ?_ | refine GuardJ.dt rfl (by omega) ?_ | refine GuardJ.nf rfl (by omega) ?_ | refine GuardJ.yes rfl ?_ | refine GuardJ.no rfl ?_)
        | (refine OpsJ.put (d := 42) rfl ?_; first | refine OpJ.pure (OpP.move rfl) ?_)
        | (refine OpsJ.gsel (d := 43) (j := 16) (want := false) rfl rfl rfl rfl ?_; first | refine GuardJ.yes (by with_reducible assumption) ?_ | refine GuardJ.no (by with_reducible assumption) ?_ | refine GuardJ.df rfl (by omega) ?_ | refine GuardJ.nt rfl (by omega) ?_ | refine GuardJ.yes rfl ?_ | refine GuardJ.no rfl ?_)
        | (refine OpsJ.put (d := 43) rfl ?_; first | refine OpJ.pure (OpP.move rfl) ?_)
        | (refine OpsJ.gsel (d := 44) (j := 16) (want := false) rfl rfl rfl rfl ?_; first | refine GuardJ.yes (by with_reducible assumption) ?_ | refine GuardJ.no (by with_reducible assumption) ?_ | refine GuardJ.df rfl (by omega) ?_ | refine GuardJ.nt rfl (by omega) ?_ | refine GuardJ.yes rfl ?_ | refine GuardJ.no rfl ?_)
        | (refine OpsJ.put (d := 44) rfl ?_; first | refine OpJ.pure (OpP.move rfl) ?_)
        | (refine OpsJ.gsel (d := 45) (j := 16) (want := false) rfl rfl rfl rfl ?_; first | refine GuardJ.yes (by with_reducible assumption) ?_ | refine GuardJ.no (by with_reducible assumption) ?_ | refine GuardJ.df rfl (by omega) ?_ | refine GuardJ.nt rfl (by omega) ?_ | refine GuardJ.yes rfl ?_ | refine GuardJ.no rfl ?_)
        | (refine OpsJ.put (d := 45) rfl ?_; first | refine OpJ.pure (OpP.sub_in rfl rfl (by omega) (by omega)) ?_ | refine OpJ.pure (OpP.sub rfl rfl) ?_)
        | (refine OpsJ.gsel (d := 46) (j := 16) (want := false) rfl rfl rfl rfl ?_; first | refine GuardJ.yes (by with_reducible assumption) ?_ | refine GuardJ.no (by with_reducible assumption) ?_ | refine GuardJ.df rfl (by omega) ?_ | refine GuardJ.nt rfl (by omega) ?_ | refine GuardJ.yes rfl ?_ | refine GuardJ.no rfl ?_)
        | (refine OpsJ.put (d := 46) rfl ?_; first | refine OpJ.pure (OpP.idx1 rfl rfl (by omega) (by omega) (Src.ofR (by with_reducible assumption)) (ne_get (by assumption))) ?_ | refine OpJ.pure (OpP.idx1 rfl rfl (by omega) (by omega) (Src.ofRow (by repeat (first | exact List.Mem.head _ | apply List.Mem.tail))) (ne_get (by assumption))) ?_)
        | (refine OpsJ.gsel (d := 47) (j := 16) (want := false) rfl rfl rfl rfl ?_; first | refine GuardJ.yes (by with_reducible assumption) ?_ | refine GuardJ.no (by with_reducible assumption) ?_ | refine GuardJ.df rfl (by omega) ?_ | refine GuardJ.nt rfl (by omega) ?_ | refine GuardJ.yes rfl ?_ | refine GuardJ.no rfl ?_)
        | (refine OpsJ.put (d := 47) rfl ?_; first | refine OpJ.pure (OpP.load_blk (by exact rfl) rfl (by repeat (first | exact List.Mem.head _ | apply List.Mem.tail)) rfl) ?_ | refine OpJ.pure (OpP.loadN_blk (by exact rfl) rfl (by repeat (first | exact List.Mem.head _ | apply List.Mem.tail)) (by exact rfl)) ?_ | refine OpJ.pure (OpP.load1 (by exact rfl) rfl (Src.ofR (by with_reducible assumption)) rfl (by assumption)) ?_ | refine OpJ.pure (OpP.load1 (by exact rfl) rfl (Src.ofRow (by repeat (first | exact List.Mem.head _ | apply List.Mem.tail))) rfl (by assumption)) ?_)
        | (refine OpsJ.gsel (d := 48) (j := 16) (want := false) rfl rfl rfl rfl ?_; first | refine GuardJ.yes (by with_reducible assumption) ?_ | refine GuardJ.no (by with_reducible assumption) ?_ | refine GuardJ.df rfl (by omega) ?_ | refine GuardJ.nt rfl (by omega) ?_ | refine GuardJ.yes rfl ?_ | refine GuardJ.no rfl ?_)
        | (refine OpsJ.put (d := 48) rfl ?_; first | refine OpJ.pure (OpP.neq rfl rfl) ?_ | refine OpJ.pure (OpP.neq_string rfl rfl) ?_ | refine OpJ.pure (OpP.neq_bool rfl rfl) ?_ | refine OpJ.pure (OpP.neq_nil rfl rfl) ?_ | refine OpJ.pure (OpP.neq_nil_slice rfl rfl) ?_)
        | (refine OpsJ.gsel (d := 49) (j := 13) (want := true) rfl rfl rfl rfl ?_; first | refine GuardJ.yes (by with_reducible assumption) ?_ | refine GuardJ.no (by with_reducible assumption) ?_ | refine GuardJ.dt rfl (by omega) ?_ | refine GuardJ.nf rfl (by omega) ?_ | refine GuardJ.yes rfl ?_ | refine GuardJ.no rfl ?_)
        | (refine OpsJ.put (d := 49) rfl ?_; first | refine OpJ.pure (OpP.pick_t rfl (by with_reducible assumption) rfl) ?_ | refine OpJ.pure (OpP.pick_f rfl (by with_reducible assumption) rfl) ?_ | refine OpJ.pure (OpP.pick_dt rfl (by omega) rfl) ?_ | refine OpJ.pure (OpP.pick_df rfl (by omega) rfl) ?_ | refine OpJ.pure (OpP.pick_t rfl rfl rfl) ?_ | refine OpJ.pure (OpP.pick_f rfl rfl rfl) ?_ | refine OpJ.pure (OpP.pick rfl rfl rfl) ?_)
        | (refine OpsJ.put (d := 50) rfl ?_; first | refine OpJ.pure (OpP.pick_t rfl (by with_reducible assumption) rfl) ?_ | refine OpJ.pure (OpP.pick_f rfl (by with_reducible assumption) rfl) ?_ | refine OpJ.pure (OpP.pick_dt rfl (by omega) rfl) ?_ | refine OpJ.pure (OpP.pick_df rfl (by omega) rfl) ?_ | refine OpJ.pure (OpP.pick_t rfl rfl rfl) ?_ | refine OpJ.pure (OpP.pick_f rfl rfl rfl) ?_ | refine OpJ.pure (OpP.pick rfl rfl rfl) ?_)
        | (refine OpsJ.put (d := 51) rfl ?_; first | refine OpJ.pure (OpP.move rfl) ?_)
        | (refine OpsJ.gsel (d := 52) (j := 25) (want := true) rfl rfl rfl rfl ?_; first | refine GuardJ.yes (by with_reducible assumption) ?_ | refine GuardJ.no (by with_reducible assumption) ?_ | refine GuardJ.dt rfl (by omega) ?_ | refine GuardJ.nf rfl (by omega) ?_ | refine GuardJ.yes rfl ?_ | refine GuardJ.no rfl ?_)
        | (refine OpsJ.put (d := 53) rfl ?_; first | refine OpJ.pure (OpP.pick_t rfl (by with_reducible assumption) rfl) ?_ | refine OpJ.pure (OpP.pick_f rfl (by with_reducible assumption) rfl) ?_ | refine OpJ.pure (OpP.pick_dt rfl (by omega) rfl) ?_ | refine OpJ.pure (OpP.pick_df rfl (by omega) rfl) ?_ | refine OpJ.pure (OpP.pick_t rfl rfl rfl) ?_ | refine OpJ.pure (OpP.pick_f rfl rfl rfl) ?_ | refine OpJ.pure (OpP.pick rfl rfl rfl) ?_)
        | refine OpsJ.nil ?_
        | refine CodeJ.cond_t rfl (by with_reducible assumption) ?_
        | refine CodeJ.cond_f rfl (by with_reducible assumption) ?_
        | refine CodeJ.cond_dt rfl (by omega) ?_
        | refine CodeJ.cond_df rfl (by omega) ?_
        | refine CodeJ.cond_t rfl rfl ?_
        | refine CodeJ.cond_f rfl rfl ?_)
      refine CodeJ.cond_d rfl (fun hc => ?_) (fun hc => ?_)
      · repeat (first
          | refine CodeJ.seq' ?_
          | refine CodeJ.region ?_
          | refine CodeJ.block ?_
          | refine CodeJ.skip ?_
          | refine CodeJ.exit rfl ?_
          | refine CodeJ.ret' ?_
          | (refine OpsJ.put (d := 2) rfl ?_; first | refine OpJ.pure (OpP.assign rfl) ?_)
          | (refine OpsJ.put (d := 7) rfl ?_; first | refine OpJ.pure (OpP.move rfl) ?_)
          | (refine OpsJ.put (d := 8) rfl ?_; first | refine OpJ.pure (OpP.lss rfl rfl) ?_)
          | (refine OpsJ.put (d := 9) rfl ?_; first | refine OpJ.pure (OpP.move rfl) ?_)
          | (refine OpsJ.gsel (d := 10) (j := 2) (want := false) rfl rfl rfl rfl ?_; first | refine GuardJ.yes (by with_reducible assumption) ?_ | refine GuardJ.no (by with_reducible assumption) ?_ | refine GuardJ.df rfl (by omega) ?_ | refine GuardJ.nt rfl (by omega) ?_ | refine GuardJ.yes rfl ?_ | refine GuardJ.no rfl ?_)
          | (refine OpsJ.put (d := 10) rfl ?_; first | refine OpJ.pure (OpP.move rfl) ?_)
          | (refine OpsJ.gsel (d := 11) (j := 2) (want := false) rfl rfl rfl rfl ?_; first | refine GuardJ.yes (by with_reducible assumption) ?_ | refine GuardJ.no (by with_reducible assumption) ?_ | refine GuardJ.df rfl (by omega) ?_ | refine GuardJ.nt rfl (by omega) ?_ | refine GuardJ.yes rfl ?_ | refine GuardJ.no rfl ?_)
          | (refine OpsJ.put (d := 11) rfl ?_; first | refine OpJ.pure (OpP.gtr rfl rfl) ?_)
          | (refine OpsJ.put (d := 12) rfl ?_; first | refine OpJ.pure (OpP.pick_t rfl (by with_reducible assumption) rfl) ?_ | refine OpJ.pure (OpP.pick_f rfl (by with_reducible assumption) rfl) ?_ | refine OpJ.pure (OpP.pick_dt rfl (by omega) rfl) ?_ | refine OpJ.pure (OpP.pick_df rfl (by omega) rfl) ?_ | refine OpJ.pure (OpP.pick_t rfl rfl rfl) ?_ | refine OpJ.pure (OpP.pick_f rfl rfl rfl) ?_ | refine OpJ.pure (OpP.pick rfl rfl rfl) ?_)
          | (refine OpsJ.put (d := 3) rfl ?_; first | refine OpJ.alloc (fun _ => ?_))
          | (refine OpsJ.put (d := 14) rfl ?_; first | refine OpJ.pure (OpP.move rfl) ?_)
          | (refine OpsJ.put (d := 15) rfl ?_; first | (refine OpJ.buildSlice rfl rfl (by exact rfl) (by exact rfl) rfl (fun _ => ?_); dsimp only [lsplice, take1, take2, take3, take4, drop1, drop2, drop3, drop4, List.take_zero, List.drop_zero, List.cons_append, List.nil_append, List.length_cons, List.length_nil, Nat.reduceAdd, fillL, sliceL, Value.cells, List.toList_toArray, List.append_nil]))
          | (refine OpsJ.put (d := 4) rfl ?_; first | refine OpJ.pure (OpP.assign rfl) ?_)
          | (refine OpsJ.put (d := 5) rfl ?_; first | refine OpJ.pure (OpP.assign rfl) ?_)
          | (refine OpsJ.put (d := 18) rfl ?_; first | refine OpJ.pure (OpP.move rfl) ?_)
          | (refine OpsJ.put (d := 19) rfl ?_; first | refine OpJ.pure (OpP.shr_nat rfl rfl rfl) ?_ | refine OpJ.pure (OpP.shr rfl rfl (by omega)) ?_)
          | (refine OpsJ.put (d := 6) rfl ?_; first | refine OpJ.pure (OpP.assign rfl) ?_)
          | (refine OpsJ.put (d := 20) rfl ?_; first | refine OpJ.pure (OpP.move rfl) ?_)
          | (refine OpsJ.put (d := 21) rfl ?_; first | refine OpJ.pure (OpP.gtr rfl rfl) ?_)
          | (refine OpsJ.put (d := 24) rfl ?_; first | refine OpJ.pure (OpP.move rfl) ?_)
          | (refine OpsJ.put (d := 25) rfl ?_; first | refine OpJ.pure (OpP.add_in rfl rfl (by omega) (by omega)) ?_ | refine OpJ.pure (OpP.cat rfl rfl (by omega)) ?_ | refine OpJ.pure (OpP.add rfl rfl) ?_)
          | (refine OpsJ.put (d := 22) rfl ?_; first | refine OpJ.pure (OpP.move rfl) ?_)
          | (refine OpsJ.put (d := 23) rfl ?_; first | refine OpJ.pure (OpP.shr_nat rfl rfl rfl) ?_ | refine OpJ.pure (OpP.shr rfl rfl (by omega)) ?_)
          | (refine OpsJ.put (d := 26) rfl ?_; first | refine OpJ.pure (OpP.move rfl) ?_)
          | (refine OpsJ.put (d := 27) rfl ?_; first | refine OpJ.pure (OpP.len rfl) ?_ | refine OpJ.pure (OpP.len_string rfl) ?_)
          | (refine OpsJ.put (d := 28) rfl ?_; first | refine OpJ.pure (OpP.move rfl) ?_)
          | (refine OpsJ.put (d := 29) rfl ?_; first | refine OpJ.pure (OpP.eql rfl rfl) ?_ | refine OpJ.pure (OpP.eql_string rfl rfl) ?_ | refine OpJ.pure (OpP.eql_bool rfl rfl) ?_ | refine OpJ.pure (OpP.eql_nil rfl rfl) ?_ | refine OpJ.pure (OpP.eql_nil_slice rfl rfl) ?_)
          | (refine OpsJ.put (d := 30) rfl ?_; first | refine OpJ.pure (OpP.move rfl) ?_)
          | (refine OpsJ.gsel (d := 31) (j := 4) (want := true) rfl rfl rfl rfl ?_; first | refine GuardJ.yes (by with_reducible assumption) ?_ | refine GuardJ.no (by with_reducible assumption) ?_ | refine GuardJ.dt rfl (by omega) ?_ | refine GuardJ.nf rfl (by omega) ?_ | refine GuardJ.yes rfl ?_ | refine GuardJ.no rfl ?_)
          | (refine OpsJ.put (d := 31) rfl ?_; first | refine OpJ.pure (OpP.move rfl) ?_)
          | (refine OpsJ.gsel (d := 32) (j := 4) (want := true) rfl rfl rfl rfl ?_; first | refine GuardJ.yes (by with_reducible assumption) ?_ | refine GuardJ.no (by with_reducible assumption) ?_ | refine GuardJ.dt rfl (by omega) ?_ | refine GuardJ.nf rfl (by omega) ?_ | refine GuardJ.yes rfl ?_ | refine GuardJ.no rfl ?_)
          | (refine OpsJ.put (d := 32) rfl ?_; first | refine OpJ.pure (OpP.idx1 rfl rfl (by omega) (by omega) (Src.ofR (by with_reducible assumption)) (ne_get (by assumption))) ?_ | refine OpJ.pure (OpP.idx1 rfl rfl (by omega) (by omega) (Src.ofRow (by repeat (first | exact List.Mem.head _ | apply List.Mem.tail))) (ne_get (by assumption))) ?_)
          | (refine OpsJ.gsel (d := 33) (j := 4) (want := true) rfl rfl rfl rfl ?_; first | refine GuardJ.yes (by with_reducible assumption) ?_ | refine GuardJ.no (by with_reducible assumption) ?_ | refine GuardJ.dt rfl (by omega) ?_ | refine GuardJ.nf rfl (by omega) ?_ | refine GuardJ.yes rfl ?_ | refine GuardJ.no rfl ?_)
          | (refine OpsJ.put (d := 33) rfl ?_; first | refine OpJ.pure (OpP.load_blk (by exact rfl) rfl (by repeat (first | exact List.Mem.head _ | apply List.Mem.tail)) rfl) ?_ | refine OpJ.pure (OpP.loadN_blk (by exact rfl) rfl (by repeat (first | exact List.Mem.head _ | apply List.Mem.tail)) (by exact rfl)) ?_ | refine OpJ.pure (OpP.load1 (by exact rfl) rfl (Src.ofR (by with_reducible assumption)) rfl (by assumption)) ?_ | refine OpJ.pure (OpP.load1 (by exact rfl) rfl (Src.ofRow (by repeat (first | exact List.Mem.head _ | apply List.Mem.tail))) rfl (by assumption)) ?_)
          | (refine OpsJ.gsel (d := 34) (j := 4) (want := true) rfl rfl rfl rfl ?_; first | refine GuardJ.yes (by with_reducible assumption) ?_ | refine GuardJ.no (by with_reducible assumption) ?_ | refine GuardJ.dt rfl (by omega) ?_ | refine GuardJ.nf rfl (by omega) ?_ | refine GuardJ.yes rfl ?_ | refine GuardJ.no rfl ?_)
          | (refine OpsJ.put (d := 34) rfl ?_; first | refine OpJ.pure (OpP.lss rfl rfl) ?_)
          | (refine OpsJ.gsel (d := 35) (j := 4) (want := true) rfl rfl rfl rfl ?_; first | refine GuardJ.yes (by with_reducible assumption) ?_ | refine GuardJ.no (by with_reducible assumption) ?_ | refine GuardJ.dt rfl (by omega) ?_ | refine GuardJ.nf rfl (by omega) ?_ | refine GuardJ.yes rfl ?_ | refine GuardJ.no rfl ?_)
          | (refine OpsJ.put (d := 35) rfl ?_; first | refine OpJ.pure (OpP.move rfl) ?_)
          | (refine OpsJ.gsel (d := 36) (j := 4) (want := true) rfl rfl rfl rfl ?_; first | refine GuardJ.yes (by with_reducible assumption) ?_ | refine GuardJ.no (by with_reducible assumption) ?_ | refine GuardJ.dt rfl (by omega) ?_ | refine GuardJ.nf rfl (by omega) ?_ | refine GuardJ.yes rfl ?_ | refine GuardJ.no rfl ?_)
          | (refine OpsJ.put (d := 36) rfl ?_; first | refine OpJ.pure (OpP.lss rfl rfl) ?_)
          | (refine OpsJ.gsel (d := 37) (j := 4) (want := true) rfl rfl rfl rfl ?_; first | refine GuardJ.yes (by with_reducible assumption) ?_ | refine GuardJ.no (by with_reducible assumption) ?_ | refine GuardJ.dt rfl (by omega) ?_ | refine GuardJ.nf rfl (by omega) ?_ | refine GuardJ.yes rfl ?_ | refine GuardJ.no rfl ?_)
          | (refine OpsJ.put (d := 37) rfl ?_; first | refine OpJ.pure (OpP.eql rfl rfl) ?_ | refine OpJ.pure (OpP.eql_string rfl rfl) ?_ | refine OpJ.pure (OpP.eql_bool rfl rfl) ?_ | refine OpJ.pure (OpP.eql_nil rfl rfl) ?_ | refine OpJ.pure (OpP.eql_nil_slice rfl rfl) ?_)
          | (refine OpsJ.put (d := 38) rfl ?_; first | refine OpJ.pure (OpP.pick_t rfl (by with_reducible assumption) rfl) ?_ | refine OpJ.pure (OpP.pick_f rfl (by with_reducible assumption) rfl) ?_ | refine OpJ.pure (OpP.pick_dt rfl (by omega) rfl) ?_ | refine OpJ.pure (OpP.pick_df rfl (by omega) rfl) ?_ | refine OpJ.pure (OpP.pick_t rfl rfl rfl) ?_ | refine OpJ.pure (OpP.pick_f rfl rfl rfl) ?_ | refine OpJ.pure (OpP.pick rfl rfl rfl) ?_)
          | (refine OpsJ.put (d := 39) rfl ?_; first | refine OpJ.pure (OpP.move rfl) ?_)
          | (refine OpsJ.gsel (d := 40) (j := 13) (want := true) rfl rfl rfl rfl ?_; first | refine GuardJ.yes (by with_reducible assumption) ?_ | refine GuardJ.no (by with_reducible assumption) ?_ | refine GuardJ.dt rfl (by omega) ?_ | refine GuardJ.nf rfl (by omega) ?_ | refine GuardJ.yes rfl ?_ | refine GuardJ.no rfl ?_)
          | (refine OpsJ.put (d := 40) rfl ?_; first | refine OpJ.pure (OpP.move rfl) ?_)
          | (refine OpsJ.gsel (d := 41) (j := 13) (want := true) rfl rfl rfl rfl ?_; first | refine GuardJ.yes (by with_reducible assumption) ?_ | refine GuardJ.no (by with_reducible assumption) ?_ | refine GuardJ.dt rfl (by omega) ?_ | refine GuardJ.nf rfl (by omega) ?_ | refine GuardJ.yes rfl ?_ | refine GuardJ.no rfl ?_)
          | (refine OpsJ.put (d := 41) rfl ?_; first | refine OpJ.pure (OpP.eql rfl rfl) ?_ | refine OpJ.pure (OpP.eql_string rfl rfl) ?_ | refine OpJ.pure (OpP.eql_bool rfl rfl) ?_ | refine OpJ.pure (OpP.eql_nil rfl rfl) ?_ | refine OpJ.pure (OpP.eql_nil_slice rfl rfl) ?_)
          | (refine OpsJ.gsel (d := 42) (j := 13) (want := true) rfl rfl rfl rfl ?_; first | refine GuardJ.yes (by with_reducible assumption) ?_ | refine GuardJ.no (by with_reducible assumption) ?_ | refine GuardJ.dt rfl (by omega) ?_ | refine GuardJ.nf rfl (by omega) ?_ | refine GuardJ.yes rfl ?_ | refine GuardJ.no rfl ?_)
          | (refine OpsJ.put (d := 42) rfl ?_; first | refine OpJ.pure (OpP.move rfl) ?_)
          | (refine OpsJ.gsel (d := 43) (j := 16) (want := false) rfl rfl rfl rfl ?_; first | refine GuardJ.yes (by with_reducible assumption) ?_ | refine GuardJ.no (by with_reducible assumption) ?_ | refine GuardJ.df rfl (by omega) ?_ | refine GuardJ.nt rfl (by omega) ?_ | refine GuardJ.yes rfl ?_ | refine GuardJ.no rfl ?_)
          | (refine OpsJ.put (d := 43) rfl ?_; first | refine OpJ.pure (OpP.move rfl) ?_)
          | (refine OpsJ.gsel (d := 44) (j := 16) (want := false) rfl rfl rfl rfl ?_; first | refine GuardJ.yes (by with_reducible assumption) ?_ | refine GuardJ.no (by with_reducible assumption) ?_ | refine GuardJ.df rfl (by omega) ?_ | refine GuardJ.nt rfl (by omega) ?_ | refine GuardJ.yes rfl ?_ | refine GuardJ.no rfl ?_)
          | (refine OpsJ.put (d := 44) rfl ?_; first | refine OpJ.pure (OpP.move rfl) ?_)
          | (refine OpsJ.gsel (d := 45) (j := 16) (want := false) rfl rfl rfl rfl ?_; first | refine GuardJ.yes (by with_reducible assumption) ?_ | refine GuardJ.no (by with_reducible assumption) ?_ | refine GuardJ.df rfl (by omega) ?_ | refine GuardJ.nt rfl (by omega) ?_ | refine GuardJ.yes rfl ?_ | refine GuardJ.no rfl ?_)
          | (refine OpsJ.put (d := 45) rfl ?_; first | refine OpJ.pure (OpP.sub_in rfl rfl (by omega) (by omega)) ?_ | refine OpJ.pure (OpP.sub rfl rfl) ?_)
          | (refine OpsJ.gsel (d := 46) (j := 16) (want := false) rfl rfl rfl rfl ?_; first | refine GuardJ.yes (by with_reducible assumption) ?_ | refine GuardJ.no (by with_reducible assumption) ?_ | refine GuardJ.df rfl (by omega) ?_ | refine GuardJ.nt rfl (by omega) ?_ | refine GuardJ.yes rfl ?_ | refine GuardJ.no rfl ?_)
          | (refine OpsJ.put (d := 46) rfl ?_; first | refine OpJ.pure (OpP.idx1 rfl rfl (by omega) (by omega) (Src.ofR (by with_reducible assumption)) (ne_get (by assumption))) ?_ | refine OpJ.pure (OpP.idx1 rfl rfl (by omega) (by omega) (Src.ofRow (by repeat (first | exact List.Mem.head _ | apply List.Mem.tail))) (ne_get (by assumption))) ?_)
          | (refine OpsJ.gsel (d := 47) (j := 16) (want := false) rfl rfl rfl rfl ?_; first | refine GuardJ.yes (by with_reducible assumption) ?_ | refine GuardJ.no (by with_reducible assumption) ?_ | refine GuardJ.df rfl (by omega) ?_ | refine GuardJ.nt rfl (by omega) ?_ | refine GuardJ.yes rfl ?_ | refine GuardJ.no rfl ?_)
          | (refine OpsJ.put (d := 47) rfl ?_; first | refine OpJ.pure (OpP.load_blk (by exact rfl) rfl (by repeat (first | exact List.Mem.head _ | apply List.Mem.tail)) rfl) ?_ | refine OpJ.pure (OpP.loadN_blk (by exact rfl) rfl (by repeat (first | exact List.Mem.head _ | apply List.Mem.tail)) (by exact rfl)) ?_ | refine OpJ.pure (OpP.load1 (by exact rfl) rfl (Src.ofR (by with_reducible assumption)) rfl (by assumption)) ?_ | refine OpJ.pure (OpP.load1 (by exact rfl) rfl (Src.ofRow (by repeat (first | exact List.Mem.head _ | apply List.Mem.tail))) rfl (by assumption)) ?_)
          | (refine OpsJ.gsel (d := 48) (j := 16) (want := false) rfl rfl rfl rfl ?_; first | refine GuardJ.yes (by with_reducible assumption) ?_ | refine GuardJ.no (by with_reducible assumption) ?_ | refine GuardJ.df rfl (by omega) ?_ | refine GuardJ.nt rfl (by omega) ?_ | refine GuardJ.yes rfl ?_ | refine GuardJ.no rfl ?_)
          | (refine OpsJ.put (d := 48) rfl ?_; first | refine OpJ.pure (OpP.neq rfl rfl) ?_ | refine OpJ.pure (OpP.neq_string rfl rfl) ?_ | refine OpJ.pure (OpP.neq_bool rfl rfl) ?_ | refine OpJ.pure (OpP.neq_nil rfl rfl) ?_ | refine OpJ.pure (OpP.neq_nil_slice rfl rfl) ?_)
          | (refine OpsJ.gsel (d := 49) (j := 13) (want := true) rfl rfl rfl rfl ?_; first | refine GuardJ.yes (by with_reducible assumption) ?_ | refine GuardJ.no (by with_reducible assumption) ?_ | refine GuardJ.dt rfl (by omega) ?_ | refine GuardJ.nf rfl (by omega) ?_ | refine GuardJ.yes rfl ?_ | refine GuardJ.no rfl ?_)
          | (refine OpsJ.put (d := 49) rfl ?_; first | refine OpJ.pure (OpP.pick_t rfl (by with_reducible assumption) rfl) ?_ | refine OpJ.pure (OpP.pick_f rfl (by with_reducible assumption) rfl) ?_ | refine OpJ.pure (OpP.pick_dt rfl (by omega) rfl) ?_ | refine OpJ.pure (OpP.pick_df rfl (by omega) rfl) ?_ | refine OpJ.pure (OpP.pick_t rfl rfl rfl) ?_ | refine OpJ.pure (OpP.pick_f rfl rfl rfl) ?_ | refine OpJ.pure (OpP.pick rfl rfl rfl) ?_)
          | (refine OpsJ.put (d := 50) rfl ?_; first | refine OpJ.pure (OpP.pick_t rfl (by with_reducible assumption) rfl) ?_ | refine OpJ.pure (OpP.pick_f rfl (by with_reducible assumption) rfl) ?_ | refine OpJ.pure (OpP.pick_dt rfl (by omega) rfl) ?_ | refine OpJ.pure (OpP.pick_df rfl (by omega) rfl) ?_ | refine OpJ.pure (OpP.pick_t rfl rfl rfl) ?_ | refine OpJ.pure (OpP.pick_f rfl rfl rfl) ?_ | refine OpJ.pure (OpP.pick rfl rfl rfl) ?_)
          | (refine OpsJ.put (d := 51) rfl ?_; first | refine OpJ.pure (OpP.move rfl) ?_)
          | (refine OpsJ.gsel (d := 52) (j := 25) (want := true) rfl rfl rfl rfl ?_; first | refine GuardJ.yes (by with_reducible assumption) ?_ | refine GuardJ.no (by with_reducible assumption) ?_ | refine GuardJ.dt rfl (by omega) ?_ | refine GuardJ.nf rfl (by omega) ?_ | refine GuardJ.yes rfl ?_ | refine GuardJ.no rfl ?_)
          | (refine OpsJ.put (d := 53) rfl ?_; first | refine OpJ.pure (OpP.pick_t rfl (by with_reducible assumption) rfl) ?_ | refine OpJ.pure (OpP.pick_f rfl (by with_reducible assumption) rfl) ?_ | refine OpJ.pure (OpP.pick_dt rfl (by omega) rfl) ?_ | refine OpJ.pure (OpP.pick_df rfl (by omega) rfl) ?_ | refine OpJ.pure (OpP.pick_t rfl rfl rfl) ?_ | refine OpJ.pure (OpP.pick_f rfl rfl rfl) ?_ | refine OpJ.pure (OpP.pick rfl rfl rfl) ?_)
          | refine OpsJ.nil ?_
          | refine CodeJ.cond_t rfl (by with_reducible assumption) ?_
          | refine CodeJ.cond_f rfl (by with_reducible assumption) ?_
          | refine CodeJ.cond_dt rfl (by omega) ?_
          | refine CodeJ.cond_df rfl (by omega) ?_
          | refine CodeJ.cond_t rfl rfl ?_
          | refine CodeJ.cond_f rfl rfl ?_)
        refine ⟨x / 2 ^ 7, _, _, _, by omega, ⟨q + 1, x / 2 ^ 7, rfl, ?_, by omega, rfl, rfl⟩, (by repeat (first | exact IM.le_refl _ | assumption | refine IM.le_trans ?_ (IM.le_or _ _))), (by repeat (first | exact SubE.nil _ | refine SubE.cons rfl ?_)), (by repeat (first | exact SubL.nil _ | refine SubL.p0 ?_ | refine SubL.p1 ?_ | refine SubL.p2 ?_ | refine SubL.p3 ?_ | refine SubL.p4 ?_ | refine SubL.p5 ?_ | refine SubL.p6 ?_ | refine SubL.p7 ?_))⟩
        rw [← hq, if_neg (by omega : ¬ x = 0)]
        by_cases hx : x < 128
        · rw [if_pos (by omega), enc_small hx]; rfl
        · rw [if_neg (by omega), enc_big hx, List.length_cons]; simp only [Nat.reducePow]; omega
      · have hx0 : x = 0 := by omega
        rw [if_pos hx0] at hq
        have hc0 : cs'[0]? = some (.int .u8 (((enc w).getD 0 0).toNat : Int)) := by rw [hcs']; exact bcells_get (by omega)
        by_cases hw : w < 128
        · have hq2 : q = 1 := by rw [enc_small hw] at hq; simpa using hq
          have hf := enc_first_small hw
          have hb : (decide ((((enc w).getD 0 0).toNat : Int) < 128) == decide ((w : Int) < 128)) = true := by
            rw [decide_eq_true (by omega), decide_eq_true (by omega)]; rfl
          repeat (first
            | refine CodeJ.seq' ?_
            | refine CodeJ.region ?_
            | refine CodeJ.block ?_
            | refine CodeJ.skip ?_
            | refine CodeJ.exit rfl ?_
            | refine CodeJ.ret' ?_
            | (refine OpsJ.put (d := 2) rfl ?_; first | refine OpJ.pure (OpP.assign rfl) ?_)
            | (refine OpsJ.put (d := 7) rfl ?_; first | refine OpJ.pure (OpP.move rfl) ?_)
            | (refine OpsJ.put (d := 8) rfl ?_; first | refine OpJ.pure (OpP.lss rfl rfl) ?_)
            | (refine OpsJ.put (d := 9) rfl ?_; first | refine OpJ.pure (OpP.move rfl) ?_)
            | (refine OpsJ.gsel (d := 10) (j := 2) (want := false) rfl rfl rfl rfl ?_; first | refine GuardJ.yes (by with_reducible assumption) ?_ | refine GuardJ.no (by with_reducible assumption) ?_ | refine GuardJ.df rfl (by omega) ?_ | refine GuardJ.nt rfl (by omega) ?_ | refine GuardJ.yes rfl ?_ | refine GuardJ.no rfl ?_)
            | (refine OpsJ.put (d := 10) rfl ?_; first | refine OpJ.pure (OpP.move rfl) ?_)
            | (refine OpsJ.gsel (d := 11) (j := 2) (want := false) rfl rfl rfl rfl ?_; first | refine GuardJ.yes (by with_reducible assumption) ?_ | refine GuardJ.no (by with_reducible assumption) ?_ | refine GuardJ.df rfl (by omega) ?_ | refine GuardJ.nt rfl (by omega) ?_ | refine GuardJ.yes rfl ?_ | refine GuardJ.no rfl ?_)
            | (refine OpsJ.put (d := 11) rfl ?_; first | refine OpJ.pure (OpP.gtr rfl rfl) ?_)
            | (refine OpsJ.put (d := 12) rfl ?_; first | refine OpJ.pure (OpP.pick_t rfl (by with_reducible assumption) rfl) ?_ | refine OpJ.pure (OpP.pick_f rfl (by with_reducible assumption) rfl) ?_ | refine OpJ.pure (OpP.pick_dt rfl (by omega) rfl) ?_ | refine OpJ.pure (OpP.pick_df rfl (by omega) rfl) ?_ | refine OpJ.pure (OpP.pick_t rfl rfl rfl) ?_ | refine OpJ.pure (OpP.pick_f rfl rfl rfl) ?_ | refine OpJ.pure (OpP.pick rfl rfl rfl) ?_)
            | (refine OpsJ.put (d := 3) rfl ?_; first | refine OpJ.alloc (fun _ => ?_))
            | (refine OpsJ.put (d := 14) rfl ?_; first | refine OpJ.pure (OpP.move rfl) ?_)
            | (refine OpsJ.put (d := 15) rfl ?_; first | (refine OpJ.buildSlice rfl rfl (by exact rfl) (by exact rfl) rfl (fun _ => ?_); dsimp only [lsplice, take1, take2, take3, take4, drop1, drop2, drop3, drop4, List.take_zero, List.drop_zero, List.cons_append, List.nil_append, List.length_cons, List.length_nil, Nat.reduceAdd, fillL, sliceL, Value.cells, List.toList_toArray, List.append_nil]))
            | (refine OpsJ.put (d := 4) rfl ?_; first | refine OpJ.pure (OpP.assign rfl) ?_)
            | (refine OpsJ.put (d := 5) rfl ?_; first | refine OpJ.pure (OpP.assign rfl) ?_)
            | (refine OpsJ.put (d := 18) rfl ?_; first | refine OpJ.pure (OpP.move rfl) ?_)
            | (refine OpsJ.put (d := 19) rfl ?_; first | refine OpJ.pure (OpP.shr_nat rfl rfl rfl) ?_ | refine OpJ.pure (OpP.shr rfl rfl (by omega)) ?_)
            | (refine OpsJ.put (d := 6) rfl ?_; first | refine OpJ.pure (OpP.assign rfl) ?_)
            | (refine OpsJ.put (d := 20) rfl ?_; first | refine OpJ.pure (OpP.move rfl) ?_)
            | (refine OpsJ.put (d := 21) rfl ?_; first | refine OpJ.pure (OpP.gtr rfl rfl) ?_)
            | (refine OpsJ.put (d := 24) rfl ?_; first | refine OpJ.pure (OpP.move rfl) ?_)
            | (refine OpsJ.put (d := 25) rfl ?_; first | refine OpJ.pure (OpP.add_in rfl rfl (by omega) (by omega)) ?_ | refine OpJ.pure (OpP.cat rfl rfl (by omega)) ?_ | refine OpJ.pure (OpP.add rfl rfl) ?_)
            | (refine OpsJ.put (d := 22) rfl ?_; first | refine OpJ.pure (OpP.move rfl) ?_)
            | (refine OpsJ.put (d := 23) rfl ?_; first | refine OpJ.pure (OpP.shr_nat rfl rfl rfl) ?_ | refine OpJ.pure (OpP.shr rfl rfl (by omega)) ?_)
            | (refine OpsJ.put (d := 26) rfl ?_; first | refine OpJ.pure (OpP.move rfl) ?_)
            | (refine OpsJ.put (d := 27) rfl ?_; first | refine OpJ.pure (OpP.len rfl) ?_ | refine OpJ.pure (OpP.len_string rfl) ?_)
            | (refine OpsJ.put (d := 28) rfl ?_; first | refine OpJ.pure (OpP.move rfl) ?_)
            | (refine OpsJ.put (d := 29) rfl ?_; first | refine OpJ.pure (OpP.eql rfl rfl) ?_ | refine OpJ.pure (OpP.eql_string rfl rfl) ?_ | refine OpJ.pure (OpP.eql_bool rfl rfl) ?_ | refine OpJ.pure (OpP.eql_nil rfl rfl) ?_ | refine OpJ.pure (OpP.eql_nil_slice rfl rfl) ?_)
            | (refine OpsJ.put (d := 30) rfl ?_; first | refine OpJ.pure (OpP.move rfl) ?_)
            | (refine OpsJ.gsel (d := 31) (j := 4) (want := true) rfl rfl rfl rfl ?_; first | refine GuardJ.yes (by with_reducible assumption) ?_ | refine GuardJ.no (by with_reducible assumption) ?_ | refine GuardJ.dt rfl (by omega) ?_ | refine GuardJ.nf rfl (by omega) ?_ | refine GuardJ.yes rfl ?_ | refine GuardJ.no rfl ?_)
            | (refine OpsJ.put (d := 31) rfl ?_; first | refine OpJ.pure (OpP.move rfl) ?_)
            | (refine OpsJ.gsel (d := 32) (j := 4) (want := true) rfl rfl rfl rfl ?_; first | refine GuardJ.yes (by with_reducible assumption) ?_ | refine GuardJ.no (by with_reducible assumption) ?_ | refine GuardJ.dt rfl (by omega) ?_ | refine GuardJ.nf rfl (by omega) ?_ | refine GuardJ.yes rfl ?_ | refine GuardJ.no rfl ?_)
            | (refine OpsJ.put (d := 32) rfl ?_; first | refine OpJ.pure (OpP.idx1 rfl rfl (by omega) (by omega) (Src.ofR (by with_reducible assumption)) (ne_get (by assumption))) ?_ | refine OpJ.pure (OpP.idx1 rfl rfl (by omega) (by omega) (Src.ofRow (by repeat (first | exact List.Mem.head _ | apply List.Mem.tail))) (ne_get (by assumption))) ?_)
            | (refine OpsJ.gsel (d := 33) (j := 4) (want := true) rfl rfl rfl rfl ?_; first | refine GuardJ.yes (by with_reducible assumption) ?_ | refine GuardJ.no (by with_reducible assumption) ?_ | refine GuardJ.dt rfl (by omega) ?_ | refine GuardJ.nf rfl (by omega) ?_ | refine GuardJ.yes rfl ?_ | refine GuardJ.no rfl ?_)
            | (refine OpsJ.put (d := 33) rfl ?_; first | refine OpJ.pure (OpP.load_blk (by exact rfl) rfl (by repeat (first | exact List.Mem.head _ | apply List.Mem.tail)) rfl) ?_ | refine OpJ.pure (OpP.loadN_blk (by exact rfl) rfl (by repeat (first | exact List.Mem.head _ | apply List.Mem.tail)) (by exact rfl)) ?_ | refine OpJ.pure (OpP.load1 (by exact rfl) rfl (Src.ofR (by with_reducible assumption)) rfl (by assumption)) ?_ | refine OpJ.pure (OpP.load1 (by exact rfl) rfl (Src.ofRow (by repeat (first | exact List.Mem.head _ | apply List.Mem.tail))) rfl (by assumption)) ?_)
            | (refine OpsJ.gsel (d := 34) (j := 4) (want := true) rfl rfl rfl rfl ?_; first | refine GuardJ.yes (by with_reducible assumption) ?_ | refine GuardJ.no (by with_reducible assumption) ?_ | refine GuardJ.dt rfl (by omega) ?_ | refine GuardJ.nf rfl (by omega) ?_ | refine GuardJ.yes rfl ?_ | refine GuardJ.no rfl ?_)
            | (refine OpsJ.put (d := 34) rfl ?_; first | refine OpJ.pure (OpP.lss rfl rfl) ?_)
            | (refine OpsJ.gsel (d := 35) (j := 4) (want := true) rfl rfl rfl rfl ?_; first | refine GuardJ.yes (by with_reducible assumption) ?_ | refine GuardJ.no (by with_reducible assumption) ?_ | refine GuardJ.dt rfl (by omega) ?_ | refine GuardJ.nf rfl (by omega) ?_ | refine GuardJ.yes rfl ?_ | refine GuardJ.no rfl ?_)
            | (refine OpsJ.put (d := 35) rfl ?_; first | refine OpJ.pure (OpP.move rfl) ?_)
            | (refine OpsJ.gsel (d := 36) (j := 4) (want := true) rfl rfl rfl rfl ?_; first | refine GuardJ.yes (by with_reducible assumption) ?_ | refine GuardJ.no (by with_reducible assumption) ?_ | refine GuardJ.dt rfl (by omega) ?_ | refine GuardJ.nf rfl (by omega) ?_ | refine GuardJ.yes rfl ?_ | refine GuardJ.no rfl ?_)
            | (refine OpsJ.put (d := 36) rfl ?_; first | refine OpJ.pure (OpP.lss rfl rfl) ?_)
            | (refine OpsJ.gsel (d := 37) (j := 4) (want := true) rfl rfl rfl rfl ?_; first | refine GuardJ.yes (by with_reducible assumption) ?_ | refine GuardJ.no (by with_reducible assumption) ?_ | refine GuardJ.dt rfl (by omega) ?_ | refine GuardJ.nf rfl (by omega) ?_ | refine GuardJ.yes rfl ?_ | refine GuardJ.no rfl ?_)
            | (refine OpsJ.put (d := 37) rfl ?_; first | refine OpJ.pure (OpP.eql rfl rfl) ?_ | refine OpJ.pure (OpP.eql_string rfl rfl) ?_ | refine OpJ.pure (OpP.eql_bool rfl rfl) ?_ | refine OpJ.pure (OpP.eql_nil rfl rfl) ?_ | refine OpJ.pure (OpP.eql_nil_slice rfl rfl) ?_)
            | (refine OpsJ.put (d := 38) rfl ?_; first | refine OpJ.pure (OpP.pick_t rfl (by with_reducible assumption) rfl) ?_ | refine OpJ.pure (OpP.pick_f rfl (by with_reducible assumption) rfl) ?_ | refine OpJ.pure (OpP.pick_dt rfl (by omega) rfl) ?_ | refine OpJ.pure (OpP.pick_df rfl (by omega) rfl) ?_ | refine OpJ.pure (OpP.pick_t rfl rfl rfl) ?_ | refine OpJ.pure (OpP.pick_f rfl rfl rfl) ?_ | refine OpJ.pure (OpP.pick rfl rfl rfl) ?_)
            | (refine OpsJ.put (d := 39) rfl ?_; first | refine OpJ.pure (OpP.move rfl) ?_)
            | (refine OpsJ.gsel (d := 40) (j := 13) (want := true) rfl rfl rfl rfl ?_; first | refine GuardJ.yes (by with_reducible assumption) ?_ | refine GuardJ.no (by with_reducible assumption) ?_ | refine GuardJ.dt rfl (by omega) ?_ | refine GuardJ.nf rfl (by omega) ?_ | refine GuardJ.yes rfl ?_ | refine GuardJ.no rfl ?_)
            | (refine OpsJ.put (d := 40) rfl ?_; first | refine OpJ.pure (OpP.move rfl) ?_)
            | (refine OpsJ.gsel (d := 41) (j := 13) (want := true) rfl rfl rfl rfl ?_; first | refine GuardJ.yes (by with_reducible assumption) ?_ | refine GuardJ.no (by with_reducible assumption) ?_ | refine GuardJ.dt rfl (by omega) ?_ | refine GuardJ.nf rfl (by omega) ?_ | refine GuardJ.yes rfl ?_ | refine GuardJ.no rfl ?_)
            | (refine OpsJ.put (d := 41) rfl ?_; first | refine OpJ.pure (OpP.eql rfl rfl) ?_ | refine OpJ.pure (OpP.eql_string rfl rfl) ?_ | refine OpJ.pure (OpP.eql_bool rfl rfl) ?_ | refine OpJ.pure (OpP.eql_nil rfl rfl) ?_ | refine OpJ.pure (OpP.eql_nil_slice rfl rfl) ?_)
            | (refine OpsJ.gsel (d := 42) (j := 13) (want := true) rfl rfl rfl rfl ?_; first | refine GuardJ.yes (by with_reducible assumption) ?_ | refine GuardJ.no (by with_reducible assumption) ?_ | refine GuardJ.dt rfl (by omega) ?_ | refine GuardJ.nf rfl (by omega) ?_ | refine GuardJ.yes rfl ?_ | refine GuardJ.no rfl ?_)
            | (refine OpsJ.put (d := 42) rfl ?_; first | refine OpJ.pure (OpP.move rfl) ?_)
            | (refine OpsJ.gsel (d := 43) (j := 16) (want := false) rfl rfl rfl rfl ?_; first | refine GuardJ.yes (by with_reducible assumption) ?_ | refine GuardJ.no (by with_reducible assumption) ?_ | refine GuardJ.df rfl (by omega) ?_ | refine GuardJ.nt rfl (by omega) ?_ | refine GuardJ.yes rfl ?_ | refine GuardJ.no rfl ?_)
            | (refine OpsJ.put (d := 43) rfl ?_; first | refine OpJ.pure (OpP.move rfl) ?_)
            | (refine OpsJ.gsel (d := 44) (j := 16) (want := false) rfl rfl rfl rfl ?_; first | refine GuardJ.yes (by with_reducible assumption) ?_ | refine GuardJ.no (by with_reducible assumption) ?_ | refine GuardJ.df rfl (by omega) ?_ | refine GuardJ.nt rfl (by omega) ?_ | refine GuardJ.yes rfl ?_ | refine GuardJ.no rfl ?_)
            | (refine OpsJ.put (d := 44) rfl ?_; first | refine OpJ.pure (OpP.move rfl) ?_)
            | (refine OpsJ.gsel (d := 45) (j := 16) (want := false) rfl rfl rfl rfl ?_; first | refine GuardJ.yes (by with_reducible assumption) ?_ | refine GuardJ.no (by with_reducible assumption) ?_ | refine GuardJ.df rfl (by omega) ?_ | refine GuardJ.nt rfl (by omega) ?_ | refine GuardJ.yes rfl ?_ | refine GuardJ.no rfl ?_)
            | (refine OpsJ.put (d := 45) rfl ?_; first | refine OpJ.pure (OpP.sub_in rfl rfl (by omega) (by omega)) ?_ | refine OpJ.pure (OpP.sub rfl rfl) ?_)
            | (refine OpsJ.gsel (d := 46) (j := 16) (want := false) rfl rfl rfl rfl ?_; first | refine GuardJ.yes (by with_reducible assumption) ?_ | refine GuardJ.no (by with_reducible assumption) ?_ | refine GuardJ.df rfl (by omega) ?_ | refine GuardJ.nt rfl (by omega) ?_ | refine GuardJ.yes rfl ?_ | refine GuardJ.no rfl ?_)
            | (refine OpsJ.put (d := 46) rfl ?_; first | refine OpJ.pure (OpP.idx1 rfl rfl (by omega) (by omega) (Src.ofR (by with_reducible assumption)) (ne_get (by assumption))) ?_ | refine OpJ.pure (OpP.idx1 rfl rfl (by omega) (by omega) (Src.ofRow (by repeat (first | exact List.Mem.head _ | apply List.Mem.tail))) (ne_get (by assumption))) ?_)
            | (refine OpsJ.gsel (d := 47) (j := 16) (want := false) rfl rfl rfl rfl ?_; first | refine GuardJ.yes (by with_reducible assumption) ?_ | refine GuardJ.no (by with_reducible assumption) ?_ | refine GuardJ.df rfl (by omega) ?_ | refine GuardJ.nt rfl (by omega) ?_ | refine GuardJ.yes rfl ?_ | refine GuardJ.no rfl ?_)
            | (refine OpsJ.put (d := 47) rfl ?_; first | refine OpJ.pure (OpP.load_blk (by exact rfl) rfl (by repeat (first | exact List.Mem.head _ | apply List.Mem.tail)) rfl) ?_ | refine OpJ.pure (OpP.loadN_blk (by exact rfl) rfl (by repeat (first | exact List.Mem.head _ | apply List.Mem.tail)) (by exact rfl)) ?_ | refine OpJ.pure (OpP.load1 (by exact rfl) rfl (Src.ofR (by with_reducible assumption)) rfl (by assumption)) ?_ | refine OpJ.pure (OpP.load1 (by exact rfl) rfl (Src.ofRow (by repeat (first | exact List.Mem.head _ | apply List.Mem.tail))) rfl (by assumption)) ?_)
            | (refine OpsJ.gsel (d := 48) (j := 16) (want := false) rfl rfl rfl rfl ?_; first | refine GuardJ.yes (by with_reducible assumption) ?_ | refine GuardJ.no (by with_reducible assumption) ?_ | refine GuardJ.df rfl (by omega) ?_ | refine GuardJ.nt rfl (by omega) ?_ | refine GuardJ.yes rfl ?_ | refine GuardJ.no rfl ?_)
            | (refine OpsJ.put (d := 48) rfl ?_; first | refine OpJ.pure (OpP.neq rfl rfl) ?_ | refine OpJ.pure (OpP.neq_string rfl rfl) ?_ | refine OpJ.pure (OpP.neq_bool rfl rfl) ?_ | refine OpJ.pure (OpP.neq_nil rfl rfl) ?_ | refine OpJ.pure (OpP.neq_nil_slice rfl rfl) ?_)
            | (refine OpsJ.gsel (d := 49) (j := 13) (want := true) rfl rfl rfl rfl ?_; first | refine GuardJ.yes (by with_reducible assumption) ?_ | refine GuardJ.no (by with_reducible assumption) ?_ | refine GuardJ.dt rfl (by omega) ?_ | refine GuardJ.nf rfl (by omega) ?_ | refine GuardJ.yes rfl ?_ | refine GuardJ.no rfl ?_)
            | (refine OpsJ.put (d := 49) rfl ?_; first | refine OpJ.pure (OpP.pick_t rfl (by with_reducible assumption) rfl) ?_ | refine OpJ.pure (OpP.pick_f rfl (by with_reducible assumption) rfl) ?_ | refine OpJ.pure (OpP.pick_dt rfl (by omega) rfl) ?_ | refine OpJ.pure (OpP.pick_df rfl (by omega) rfl) ?_ | refine OpJ.pure (OpP.pick_t rfl rfl rfl) ?_ | refine OpJ.pure (OpP.pick_f rfl rfl rfl) ?_ | refine OpJ.pure (OpP.pick rfl rfl rfl) ?_)
            | (refine OpsJ.put (d := 50) rfl ?_; first | refine OpJ.pure (OpP.pick_t rfl (by with_reducible assumption) rfl) ?_ | refine OpJ.pure (OpP.pick_f rfl (by with_reducible assumption) rfl) ?_ | refine OpJ.pure (OpP.pick_dt rfl (by omega) rfl) ?_ | refine OpJ.pure (OpP.pick_df rfl (by omega) rfl) ?_ | refine OpJ.pure (OpP.pick_t rfl rfl rfl) ?_ | refine OpJ.pure (OpP.pick_f rfl rfl rfl) ?_ | refine OpJ.pure (OpP.pick rfl rfl rfl) ?_)
            | (refine OpsJ.put (d := 51) rfl ?_; first | refine OpJ.pure (OpP.move rfl) ?_)
            | (refine OpsJ.gsel (d := 52) (j := 25) (want := true) rfl rfl rfl rfl ?_; first | refine GuardJ.yes (by with_reducible assumption) ?_ | refine GuardJ.no (by with_reducible assumption) ?_ | refine GuardJ.dt rfl (by omega) ?_ | refine GuardJ.nf rfl (by omega) ?_ | refine GuardJ.yes rfl ?_ | refine GuardJ.no rfl ?_)
            | (refine OpsJ.put (d := 53) rfl ?_; first | refine OpJ.pure (OpP.pick_t rfl (by with_reducible assumption) rfl) ?_ | refine OpJ.pure (OpP.pick_f rfl (by with_reducible assumption) rfl) ?_ | refine OpJ.pure (OpP.pick_dt rfl (by omega) rfl) ?_ | refine OpJ.pure (OpP.pick_df rfl (by omega) rfl) ?_ | refine OpJ.pure (OpP.pick_t rfl rfl rfl) ?_ | refine OpJ.pure (OpP.pick_f rfl rfl rfl) ?_ | refine OpJ.pure (OpP.pick rfl rfl rfl) ?_)
            | refine OpsJ.nil ?_
            | refine CodeJ.cond_t rfl (by with_reducible assumption) ?_
            | refine CodeJ.cond_f rfl (by with_reducible assumption) ?_
            | refine CodeJ.cond_dt rfl (by omega) ?_
            | refine CodeJ.cond_df rfl (by omega) ?_
            | refine CodeJ.cond_t rfl rfl ?_
            | refine CodeJ.cond_f rfl rfl ?_)
          refine OpsJ.put (d := 52) rfl (OpJ.call (pass := []) rfl (by repeat (first | exact Split.nil | apply Split.p0 | apply Split.p1 | apply Split.p2 | apply Split.p3 | apply Split.p4 | apply Split.p5 | apply Split.p6 | apply Split.p7 | apply Split.p8)) (fun R' hle hin => known_calls R') ?_)
          rintro u D4 hs4 hd4 ⟨rfl, rfl⟩
          repeat (first
            | refine CodeJ.seq' ?_
            | refine CodeJ.region ?_
            | refine CodeJ.block ?_
            | refine CodeJ.skip ?_
            | refine CodeJ.exit rfl ?_
            | refine CodeJ.ret' ?_
            | (refine OpsJ.put (d := 2) rfl ?_; first | refine OpJ.pure (OpP.assign rfl) ?_)
            | (refine OpsJ.put (d := 7) rfl ?_; first | refine OpJ.pure (OpP.move rfl) ?_)
            | (refine OpsJ.put (d := 8) rfl ?_; first | refine OpJ.pure (OpP.lss rfl rfl) ?_)
            | (refine OpsJ.put (d := 9) rfl ?_; first | refine OpJ.pure (OpP.move rfl) ?_)
            | (refine OpsJ.gsel (d := 10) (j := 2) (want := false) rfl rfl rfl rfl ?_; first | refine GuardJ.yes (by with_reducible assumption) ?_ | refine GuardJ.no (by with_reducible assumption) ?_ | refine GuardJ.df rfl (by omega) ?_ | refine GuardJ.nt rfl (by omega) ?_ | refine GuardJ.yes rfl ?_ | refine GuardJ.no rfl ?_)
            | (refine OpsJ.put (d := 10) rfl ?_; first | refine OpJ.pure (OpP.move rfl) ?_)
            | (refine OpsJ.gsel (d := 11) (j := 2) (want := false) rfl rfl rfl rfl ?_; first | refine GuardJ.yes (by with_reducible assumption) ?_ | refine GuardJ.no (by with_reducible assumption) ?_ | refine GuardJ.df rfl (by omega) ?_ | refine GuardJ.nt rfl (by omega) ?_ | refine GuardJ.yes rfl ?_ | refine GuardJ.no rfl ?_)
            | (refine OpsJ.put (d := 11) rfl ?_; first | refine OpJ.pure (OpP.gtr rfl rfl) ?_)
            | (refine OpsJ.put (d := 12) rfl ?_; first | refine OpJ.pure (OpP.pick_t rfl (by with_reducible assumption) rfl) ?_ | refine OpJ.pure (OpP.pick_f rfl (by with_reducible assumption) rfl) ?_ | refine OpJ.pure (OpP.pick_dt rfl (by omega) rfl) ?_ | refine OpJ.pure (OpP.pick_df rfl (by omega) rfl) ?_ | refine OpJ.pure (OpP.pick_t rfl rfl rfl) ?_ | refine OpJ.pure (OpP.pick_f rfl rfl rfl) ?_ | refine OpJ.pure (OpP.pick rfl rfl rfl) ?_)
            | (refine OpsJ.put (d := 3) rfl ?_; first | refine OpJ.alloc (fun _ => ?_))
            | (refine OpsJ.put (d := 14) rfl ?_; first | refine OpJ.pure (OpP.move rfl) ?_)
            | (refine OpsJ.put (d := 15) rfl ?_; first | (refine OpJ.buildSlice rfl rfl (by exact rfl) (by exact rfl) rfl (fun _ => ?_); dsimp only [lsplice, take1, take2, take3, take4, drop1, drop2, drop3, drop4, List.take_zero, List.drop_zero, List.cons_append, List.nil_append, List.length_cons, List.length_nil, Nat.reduceAdd, fillL, sliceL, Value.cells, List.toList_toArray, List.append_nil]))
            | (refine OpsJ.put (d := 4) rfl ?_; first | refine OpJ.pure (OpP.assign rfl) ?_)
            | (refine OpsJ.put (d := 5) rfl ?_; first | refine OpJ.pure (OpP.assign rfl) ?_)
            | (refine OpsJ.put (d := 18) rfl ?_; first | refine OpJ.pure (OpP.move rfl) ?_)
            | (refine OpsJ.put (d := 19) rfl ?_; first | refine OpJ.pure (OpP.shr_nat rfl rfl rfl) ?_ | refine OpJ.pure (OpP.shr rfl rfl (by omega)) ?_)
            | (refine OpsJ.put (d := 6) rfl ?_; first | refine OpJ.pure (OpP.assign rfl) ?_)
            | (refine OpsJ.put (d := 20) rfl ?_; first | refine OpJ.pure (OpP.move rfl) ?_)
            | (refine OpsJ.put (d := 21) rfl ?_; first | refine OpJ.pure (OpP.gtr rfl rfl) ?_)
            | (refine OpsJ.put (d := 24) rfl ?_; first | refine OpJ.pure (OpP.move rfl) ?_)
            | (refine OpsJ.put (d := 25) rfl ?_; first | refine OpJ.pure (OpP.add_in rfl rfl (by omega) (by omega)) ?_ | refine OpJ.pure (OpP.cat rfl rfl (by omega)) ?_ | refine OpJ.pure (OpP.add rfl rfl) ?_)
            | (refine OpsJ.put (d := 22) rfl ?_; first | refine OpJ.pure (OpP.move rfl) ?_)
            | (refine OpsJ.put (d := 23) rfl ?_; first | refine OpJ.pure (OpP.shr_nat rfl rfl rfl) ?_ | refine OpJ.pure (OpP.shr rfl rfl (by omega)) ?_)
            | (refine OpsJ.put (d := 26) rfl ?_; first | refine OpJ.pure (OpP.move rfl) ?_)
            | (refine OpsJ.put (d := 27) rfl ?_; first | refine OpJ.pure (OpP.len rfl) ?_ | refine OpJ.pure (OpP.len_string rfl) ?_)
            | (refine OpsJ.put (d := 28) rfl ?_; first | refine OpJ.pure (OpP.move rfl) ?_)
            | (refine OpsJ.put (d := 29) rfl ?_; first | refine OpJ.pure (OpP.eql rfl rfl) ?_ | refine OpJ.pure (OpP.eql_string rfl rfl) ?_ | refine OpJ.pure (OpP.eql_bool rfl rfl) ?_ | refine OpJ.pure (OpP.eql_nil rfl rfl) ?_ | refine OpJ.pure (OpP.eql_nil_slice rfl rfl) ?_)
            | (refine OpsJ.put (d := 30) rfl ?_; first | refine OpJ.pure (OpP.move rfl) ?_)
            | (refine OpsJ.gsel (d := 31) (j := 4) (want := true) rfl rfl rfl rfl ?_; first | refine GuardJ.yes (by with_reducible assumption) ?_ | refine GuardJ.no (by with_reducible assumption) ?_ | refine GuardJ.dt rfl (by omega) ?_ | refine GuardJ.nf rfl (by omega) ?_ | refine GuardJ.yes rfl ?_ | refine GuardJ.no rfl ?_)
            | (refine OpsJ.put (d := 31) rfl ?_; first | refine OpJ.pure (OpP.move rfl) ?_)
            | (refine OpsJ.gsel (d := 32) (j := 4) (want := true) rfl rfl rfl rfl ?_; first | refine GuardJ.yes (by with_reducible assumption) ?_ | refine GuardJ.no (by with_reducible assumption) ?_ | refine GuardJ.dt rfl (by omega) ?_ | refine GuardJ.nf rfl (by omega) ?_ | refine GuardJ.yes rfl ?_ | refine GuardJ.no rfl ?_)
            | (refine OpsJ.put (d := 32) rfl ?_; first | refine OpJ.pure (OpP.idx1 rfl rfl (by omega) (by omega) (Src.ofR (by with_reducible assumption)) (ne_get (by assumption))) ?_ | refine OpJ.pure (OpP.idx1 rfl rfl (by omega) (by omega) (Src.ofRow (by repeat (first | exact List.Mem.head _ | apply List.Mem.tail))) (ne_get (by assumption))) ?_)
            | (refine OpsJ.gsel (d := 33) (j := 4) (want := true) rfl rfl rfl rfl ?_; first | refine GuardJ.yes (by with_reducible assumption) ?_ | refine GuardJ.no (by with_reducible assumption) ?_ | refine GuardJ.dt rfl (by omega) ?_ | refine GuardJ.nf rfl (by omega) ?_ | refine GuardJ.yes rfl ?_ | refine GuardJ.no rfl ?_)
            | (refine OpsJ.put (d := 33) rfl ?_; first | refine OpJ.pure (OpP.load_blk (by exact rfl) rfl (by repeat (first | exact List.Mem.head _ | apply List.Mem.tail)) rfl) ?_ | refine OpJ.pure (OpP.loadN_blk (by exact rfl) rfl (by repeat (first | exact List.Mem.head _ | apply List.Mem.tail)) (by exact rfl)) ?_ | refine OpJ.pure (OpP.load1 (by exact rfl) rfl (Src.ofR (by with_reducible assumption)) rfl (by assumption)) ?_ | refine OpJ.pure (OpP.load1 (by exact rfl) rfl (Src.ofRow (by repeat (first | exact List.Mem.head _ | apply List.Mem.tail))) rfl (by assumption)) ?_)
            | (refine OpsJ.gsel (d := 34) (j := 4) (want := true) rfl rfl rfl rfl ?_; first | refine GuardJ.yes (by with_reducible assumption) ?_ | refine GuardJ.no (by with_reducible assumption) ?_ | refine GuardJ.dt rfl (by omega) ?_ | refine GuardJ.nf rfl (by omega) ?_ | refine GuardJ.yes rfl ?_ | refine GuardJ.no rfl ?_)
            | (refine OpsJ.put (d := 34) rfl ?_; first | refine OpJ.pure (OpP.lss rfl rfl) ?_)
            | (refine OpsJ.gsel (d := 35) (j := 4) (want := true) rfl rfl rfl rfl ?_; first | refine GuardJ.yes (by with_reducible assumption) ?_ | refine GuardJ.no (by with_reducible assumption) ?_ | refine GuardJ.dt rfl (by omega) ?_ | refine GuardJ.nf rfl (by omega) ?_ | refine GuardJ.yes rfl ?_ | refine GuardJ.no rfl ?_)
            | (refine OpsJ.put (d := 35) rfl ?_; first | refine OpJ.pure (OpP.move rfl) ?_)
            | (refine OpsJ.gsel (d := 36) (j := 4) (want := true) rfl rfl rfl rfl ?_; first | refine GuardJ.yes (by with_reducible assumption) ?_ | refine GuardJ.no (by with_reducible assumption) ?_ | refine GuardJ.dt rfl (by omega) ?_ | refine GuardJ.nf rfl (by omega) ?_ | refine GuardJ.yes rfl ?_ | refine GuardJ.no rfl ?_)
            | (refine OpsJ.put (d := 36) rfl ?_; first | refine OpJ.pure (OpP.lss rfl rfl) ?_)
            | (refine OpsJ.gsel (d := 37) (j := 4) (want := true) rfl rfl rfl rfl ?_; first | refine GuardJ.yes (by with_reducible assumption) ?_ | refine GuardJ.no (by with_reducible assumption) ?_ | refine GuardJ.dt rfl (by omega) ?_ | refine GuardJ.nf rfl (by omega) ?_ | refine GuardJ.yes rfl ?_ | refine GuardJ.no rfl ?_)
            | (refine OpsJ.put (d := 37) rfl ?_; first | refine OpJ.pure (OpP.eql rfl rfl) ?_ | refine OpJ.pure (OpP.eql_string rfl rfl) ?_ | refine OpJ.pure (OpP.eql_bool rfl rfl) ?_ | refine OpJ.pure (OpP.eql_nil rfl rfl) ?_ | refine OpJ.pure (OpP.eql_nil_slice rfl rfl) ?_)
            | (refine OpsJ.put (d := 38) rfl ?_; first | refine OpJ.pure (OpP.pick_t rfl (by with_reducible assumption) rfl) ?_ | refine OpJ.pure (OpP.pick_f rfl (by with_reducible assumption) rfl) ?_ | refine OpJ.pure (OpP.pick_dt rfl (by omega) rfl) ?_ | refine OpJ.pure (OpP.pick_df rfl (by omega) rfl) ?_ | refine OpJ.pure (OpP.pick_t rfl rfl rfl) ?_ | refine OpJ.pure (OpP.pick_f rfl rfl rfl) ?_ | refine OpJ.pure (OpP.pick rfl rfl rfl) ?_)
            | (refine OpsJ.put (d := 39) rfl ?_; first | refine OpJ.pure (OpP.move rfl) ?_)
            | (refine OpsJ.gsel (d := 40) (j := 13) (want := true) rfl rfl rfl rfl ?_; first | refine GuardJ.yes (by with_reducible assumption) ?_ | refine GuardJ.no (by with_reducible assumption) ?_ | refine GuardJ.dt rfl (by omega) ?_ | refine GuardJ.nf rfl (by omega) ?_ | refine GuardJ.yes rfl ?_ | refine GuardJ.no rfl ?_)
            | (refine OpsJ.put (d := 40) rfl ?_; first | refine OpJ.pure (OpP.move rfl) ?_)
            | (refine OpsJ.gsel (d := 41) (j := 13) (want := true) rfl rfl rfl rfl ?_; first | refine GuardJ.yes (by with_reducible assumption) ?_ | refine GuardJ.no (by with_reducible assumption) ?_ | refine GuardJ.dt rfl (by omega) ?_ | refine GuardJ.nf rfl (by omega) ?_ | refine GuardJ.yes rfl ?_ | refine GuardJ.no rfl ?_)
            | (refine OpsJ.put (d := 41) rfl ?_; first | refine OpJ.pure (OpP.eql rfl rfl) ?_ | refine OpJ.pure (OpP.eql_string rfl rfl) ?_ | refine OpJ.pure (OpP.eql_bool rfl rfl) ?_ | refine OpJ.pure (OpP.eql_nil rfl rfl) ?_ | refine OpJ.pure (OpP.eql_nil_slice rfl rfl) ?_)
            | (refine OpsJ.gsel (d := 42) (j := 13) (want := true) rfl rfl rfl rfl ?_; first | refine GuardJ.yes (by with_reducible assumption) ?_ | refine GuardJ.no (by with_reducible assumption) ?_ | refine GuardJ.dt rfl (by omega) ?_ | refine GuardJ.nf rfl (by omega) ?_ | refine GuardJ.yes rfl ?_ | refine GuardJ.no rfl ?_)
            | (refine OpsJ.put (d := 42) rfl ?_; first | refine OpJ.pure (OpP.move rfl) ?_)
            | (refine OpsJ.gsel (d := 43) (j := 16) (want := false) rfl rfl rfl rfl ?_; first | refine GuardJ.yes (by with_reducible assumption) ?_ | refine GuardJ.no (by with_reducible assumption) ?_ | refine GuardJ.df rfl (by omega) ?_ | refine GuardJ.nt rfl (by omega) ?_ | refine GuardJ.yes rfl ?_ | refine GuardJ.no rfl ?_)
            | (refine OpsJ.put (d := 43) rfl ?_; first | refine OpJ.pure (OpP.move rfl) ?_)
            | (refine OpsJ.gsel (d := 44) (j := 16) (want := false) rfl rfl rfl rfl ?_; first | refine GuardJ.yes (by with_reducible assumption) ?_ | refine GuardJ.no (by with_reducible assumption) ?_ | refine GuardJ.df rfl (by omega) ?_ | refine GuardJ.nt rfl (by omega) ?_ | refine GuardJ.yes rfl ?_ | refine GuardJ.no rfl ?_)
            | (refine OpsJ.put (d := 44) rfl ?_; first | refine OpJ.pure (OpP.move rfl) ?_)
            | (refine OpsJ.gsel (d := 45) (j := 16) (want := false) rfl rfl rfl rfl ?_; first | refine GuardJ.yes (by with_reducible assumption) ?_ | refine GuardJ.no (by with_reducible assumption) ?_ | refine GuardJ.df rfl (by omega) ?_ | refine GuardJ.nt rfl (by omega) ?_ | refine GuardJ.yes rfl ?_ | refine GuardJ.no rfl ?_)
            | (refine OpsJ.put (d := 45) rfl ?_; first | refine OpJ.pure (OpP.sub_in rfl rfl (by omega) (by omega)) ?_ | refine OpJ.pure (OpP.sub rfl rfl) ?_)
            | (refine OpsJ.gsel (d := 46) (j := 16) (want := false) rfl rfl rfl rfl ?_; first | refine GuardJ.yes (by with_reducible assumption) ?_ | refine GuardJ.no (by with_reducible assumption) ?_ | refine GuardJ.df rfl (by omega) ?_ | refine GuardJ.nt rfl (by omega) ?_ | refine GuardJ.yes rfl ?_ | refine GuardJ.no rfl ?_)
            | (refine OpsJ.put (d := 46) rfl ?_; first | refine OpJ.pure (OpP.idx1 rfl rfl (by omega) (by omega) (Src.ofR (by with_reducible assumption)) (ne_get (by assumption))) ?_ | refine OpJ.pure (OpP.idx1 rfl rfl (by omega) (by omega) (Src.ofRow (by repeat (first | exact List.Mem.head _ | apply List.Mem.tail))) (ne_get (by assumption))) ?_)
            | (refine OpsJ.gsel (d := 47) (j := 16) (want := false) rfl rfl rfl rfl ?_; first | refine GuardJ.yes (by with_reducible assumption) ?_ | refine GuardJ.no (by with_reducible assumption) ?_ | refine GuardJ.df rfl (by omega) ?_ | refine GuardJ.nt rfl (by omega) ?_ | refine GuardJ.yes rfl ?_ | refine GuardJ.no rfl ?_)
            | (refine OpsJ.put (d := 47) rfl ?_; first | refine OpJ.pure (OpP.load_blk (by exact rfl) rfl (by repeat (first | exact List.Mem.head _ | apply List.Mem.tail)) rfl) ?_ | refine OpJ.pure (OpP.loadN_blk (by exact rfl) rfl (by repeat (first | exact List.Mem.head _ | apply List.Mem.tail)) (by exact rfl)) ?_ | refine OpJ.pure (OpP.load1 (by exact rfl) rfl (Src.ofR (by with_reducible assumption)) rfl (by assumption)) ?_ | refine OpJ.pure (OpP.load1 (by exact rfl) rfl (Src.ofRow (by repeat (first | exact List.Mem.head _ | apply List.Mem.tail))) rfl (by assumption)) ?_)
            | (refine OpsJ.gsel (d := 48) (j := 16) (want := false) rfl rfl rfl rfl ?_; first | refine GuardJ.yes (by with_reducible assumption) ?_ | refine GuardJ.no (by with_reducible assumption) ?_ | refine GuardJ.df rfl (by omega) ?_ | refine GuardJ.nt rfl (by omega) ?_ | refine GuardJ.yes rfl ?_ | refine GuardJ.no rfl ?_)
            | (refine OpsJ.put (d := 48) rfl ?_; first | refine OpJ.pure (OpP.neq rfl rfl) ?_ | refine OpJ.pure (OpP.neq_string rfl rfl) ?_ | refine OpJ.pure (OpP.neq_bool rfl rfl) ?_ | refine OpJ.pure (OpP.neq_nil rfl rfl) ?_ | refine OpJ.pure (OpP.neq_nil_slice rfl rfl) ?_)
            | (refine OpsJ.gsel (d := 49) (j := 13) (want := true) rfl rfl rfl rfl ?_; first | refine GuardJ.yes (by with_reducible assumption) ?_ | refine GuardJ.no (by with_reducible assumption) ?_ | refine GuardJ.dt rfl (by omega) ?_ | refine GuardJ.nf rfl (by omega) ?_ | refine GuardJ.yes rfl ?_ | refine GuardJ.no rfl ?_)
            | (refine OpsJ.put (d := 49) rfl ?_; first | refine OpJ.pure (OpP.pick_t rfl (by with_reducible assumption) rfl) ?_ | refine OpJ.pure (OpP.pick_f rfl (by with_reducible assumption) rfl) ?_ | refine OpJ.pure (OpP.pick_dt rfl (by omega) rfl) ?_ | refine OpJ.pure (OpP.pick_df rfl (by omega) rfl) ?_ | refine OpJ.pure (OpP.pick_t rfl rfl rfl) ?_ | refine OpJ.pure (OpP.pick_f rfl rfl rfl) ?_ | refine OpJ.pure (OpP.pick rfl rfl rfl) ?_)
            | (refine OpsJ.put (d := 50) rfl ?_; first | refine OpJ.pure (OpP.pick_t rfl (by with_reducible assumption) rfl) ?_ | refine OpJ.pure (OpP.pick_f rfl (by with_reducible assumption) rfl) ?_ | refine OpJ.pure (OpP.pick_dt rfl (by omega) rfl) ?_ | refine OpJ.pure (OpP.pick_df rfl (by omega) rfl) ?_ | refine OpJ.pure (OpP.pick_t rfl rfl rfl) ?_ | refine OpJ.pure (OpP.pick_f rfl rfl rfl) ?_ | refine OpJ.pure (OpP.pick rfl rfl rfl) ?_)
            | (refine OpsJ.put (d := 51) rfl ?_; first | refine OpJ.pure (OpP.move rfl) ?_)
            | (refine OpsJ.gsel (d := 52) (j := 25) (want := true) rfl rfl rfl rfl ?_; first | refine GuardJ.yes (by with_reducible assumption) ?_ | refine GuardJ.no (by with_reducible assumption) ?_ | refine GuardJ.dt rfl (by omega) ?_ | refine GuardJ.nf rfl (by omega) ?_ | refine GuardJ.yes rfl ?_ | refine GuardJ.no rfl ?_)
            | (refine OpsJ.put (d := 53) rfl ?_; first | refine OpJ.pure (OpP.pick_t rfl (by with_reducible assumption) rfl) ?_ | refine OpJ.pure (OpP.pick_f rfl (by with_reducible assumption) rfl) ?_ | refine OpJ.pure (OpP.pick_dt rfl (by omega) rfl) ?_ | refine OpJ.pure (OpP.pick_df rfl (by omega) rfl) ?_ | refine OpJ.pure (OpP.pick_t rfl rfl rfl) ?_ | refine OpJ.pure (OpP.pick_f rfl rfl rfl) ?_ | refine OpJ.pure (OpP.pick rfl rfl rfl) ?_)
            | refine OpsJ.nil ?_
            | refine CodeJ.cond_t rfl (by with_reducible assumption) ?_
            | refine CodeJ.cond_f rfl (by with_reducible assumption) ?_
            | refine CodeJ.cond_dt rfl (by omega) ?_
            | refine CodeJ.cond_df rfl (by omega) ?_
            | refine CodeJ.cond_t rfl rfl ?_
            | refine CodeJ.cond_f rfl rfl ?_)
          exact Ret.mk0 rfl (ResJ.one Try.results3 rfl) (by repeat (first | exact IM.le_refl _ | assumption | refine IM.le_trans ?_ (IM.le_or _ _))) (by repeat (first | exact SubL.nil _ | refine SubL.p0 ?_ | refine SubL.p1 ?_ | refine SubL.p2 ?_ | refine SubL.p3 ?_ | refine SubL.p4 ?_ | refine SubL.p5 ?_ | refine SubL.p6 ?_ | refine SubL.p7 ?_))
        · have hf := enc_first_big hw
          have hb : (decide ((((enc w).getD 0 0).toNat : Int) < 128) == decide ((w : Int) < 128)) = true := by
            rw [decide_eq_false (by omega), decide_eq_false (by omega)]; rfl
          have hq2 : 1 < q := by rw [enc_big hw, List.length_cons] at hq; have := enc_pos (w / 128); omega
          have hl := enc_last w (by omega)
          have hc1 : cs'[((q : Int) - 1).toNat]? = some (.int .u8 (((enc w).getD ((enc w).length - 1) 0).toNat : Int)) := by
            rw [hcs', show ((q : Int) - 1).toNat = (enc w).length - 1 from by omega]; exact bcells_get (by omega)
          repeat (first
            | refine CodeJ.seq' ?_
            | refine CodeJ.region ?_
            | refine CodeJ.block ?_
            | refine CodeJ.skip ?_
            | refine CodeJ.exit rfl ?_
            | refine CodeJ.ret' ?_
            | (refine OpsJ.put (d := 2) rfl ?_; first | refine OpJ.pure (OpP.assign rfl) ?_)
            | (refine OpsJ.put (d := 7) rfl ?_; first | refine OpJ.pure (OpP.move rfl) ?_)
            | (refine OpsJ.put (d := 8) rfl ?_; first | refine OpJ.pure (OpP.lss rfl rfl) ?_)
            | (refine OpsJ.put (d := 9) rfl ?_; first | refine OpJ.pure (OpP.move rfl) ?_)
            | (refine OpsJ.gsel (d := 10) (j := 2) (want := false) rfl rfl rfl rfl ?_; first | refine GuardJ.yes (by with_reducible assumption) ?_ | refine GuardJ.no (by with_reducible assumption) ?_ | refine GuardJ.df rfl (by omega) ?_ | refine GuardJ.nt rfl (by omega) ?_ | refine GuardJ.yes rfl ?_ | refine GuardJ.no rfl ?_)
            | (refine OpsJ.put (d := 10) rfl ?_; first | refine OpJ.pure (OpP.move rfl) ?_)
            | (refine OpsJ.gsel (d := 11) (j := 2) (want := false) rfl rfl rfl rfl ?_; first | refine GuardJ.yes (by with_reducible assumption) ?_ | refine GuardJ.no (by with_reducible assumption) ?_ | refine GuardJ.df rfl (by omega) ?_ | refine GuardJ.nt rfl (by omega) ?_ | refine GuardJ.yes rfl ?_ | refine GuardJ.no rfl ?_)
            | (refine OpsJ.put (d := 11) rfl ?_; first | refine OpJ.pure (OpP.gtr rfl rfl) ?_)
            | (refine OpsJ.put (d := 12) rfl ?_; first | refine OpJ.pure (OpP.pick_t rfl (by with_reducible assumption) rfl) ?_ | refine OpJ.pure (OpP.pick_f rfl (by with_reducible assumption) rfl) ?_ | refine OpJ.pure (OpP.pick_dt rfl (by omega) rfl) ?_ | refine OpJ.pure (OpP.pick_df rfl (by omega) rfl) ?_ | refine OpJ.pure (OpP.pick_t rfl rfl rfl) ?_ | refine OpJ.pure (OpP.pick_f rfl rfl rfl) ?_ | refine OpJ.pure (OpP.pick rfl rfl rfl) ?_)
            | (refine OpsJ.put (d := 3) rfl ?_; first | refine OpJ.alloc (fun _ => ?_))
            | (refine OpsJ.put (d := 14) rfl ?_; first | refine OpJ.pure (OpP.move rfl) ?_)
            | (refine OpsJ.put (d := 15) rfl ?_; first | (refine OpJ.buildSlice rfl rfl (by exact rfl) (by exact rfl) rfl (fun _ => ?_); dsimp only [lsplice, take1, take2, take3, take4, drop1, drop2, drop3, drop4, List.take_zero, List.drop_zero, List.cons_append, List.nil_append, List.length_cons, List.length_nil, Nat.reduceAdd, fillL, sliceL, Value.cells, List.toList_toArray, List.append_nil]))
            | (refine OpsJ.put (d := 4) rfl ?_; first | refine OpJ.pure (OpP.assign rfl) ?_)
            | (refine OpsJ.put (d := 5) rfl ?_; first | refine OpJ.pure (OpP.assign rfl) ?_)
            | (refine OpsJ.put (d := 18) rfl ?_; first | refine OpJ.pure (OpP.move rfl) ?_)
            | (refine OpsJ.put (d := 19) rfl ?_; first | refine OpJ.pure (OpP.shr_nat rfl rfl rfl) ?_ | refine OpJ.pure (OpP.shr rfl rfl (by omega)) ?_)
            | (refine OpsJ.put (d := 6) rfl ?_; first | refine OpJ.pure (OpP.assign rfl) ?_)
            | (refine OpsJ.put (d := 20) rfl ?_; first | refine OpJ.pure (OpP.move rfl) ?_)
            | (refine OpsJ.put (d := 21) rfl ?_; first | refine OpJ.pure (OpP.gtr rfl rfl) ?_)
            | (refine OpsJ.put (d := 24) rfl ?_; first | refine OpJ.pure (OpP.move rfl) ?_)
            | (refine OpsJ.put (d := 25) rfl ?_; first | refine OpJ.pure (OpP.add_in rfl rfl (by omega) (by omega)) ?_ | refine OpJ.pure (OpP.cat rfl rfl (by omega)) ?_ | refine OpJ.pure (OpP.add rfl rfl) ?_)
            | (refine OpsJ.put (d := 22) rfl ?_; first | refine OpJ.pure (OpP.move rfl) ?_)
            | (refine OpsJ.put (d := 23) rfl ?_; first | refine OpJ.pure (OpP.shr_nat rfl rfl rfl) ?_ | refine OpJ.pure (OpP.shr rfl rfl (by omega)) ?_)
            | (refine OpsJ.put (d := 26) rfl ?_; first | refine OpJ.pure (OpP.move rfl) ?_)
            | (refine OpsJ.put (d := 27) rfl ?_; first | refine OpJ.pure (OpP.len rfl) ?_ | refine OpJ.pure (OpP.len_string rfl) ?_)
            | (refine OpsJ.put (d := 28) rfl ?_; first | refine OpJ.pure (OpP.move rfl) ?_)
            | (refine OpsJ.put (d := 29) rfl ?_; first | refine OpJ.pure (OpP.eql rfl rfl) ?_ | refine OpJ.pure (OpP.eql_string rfl rfl) ?_ | refine OpJ.pure (OpP.eql_bool rfl rfl) ?_ | refine OpJ.pure (OpP.eql_nil rfl rfl) ?_ | refine OpJ.pure (OpP.eql_nil_slice rfl rfl) ?_)
            | (refine OpsJ.put (d := 30) rfl ?_; first | refine OpJ.pure (OpP.move rfl) ?_)
            | (refine OpsJ.gsel (d := 31) (j := 4) (want := true) rfl rfl rfl rfl ?_; first | refine GuardJ.yes (by with_reducible assumption) ?_ | refine GuardJ.no (by with_reducible assumption) ?_ | refine GuardJ.dt rfl (by omega) ?_ | refine GuardJ.nf rfl (by omega) ?_ | refine GuardJ.yes rfl ?_ | refine GuardJ.no rfl ?_)
            | (refine OpsJ.put (d := 31) rfl ?_; first | refine OpJ.pure (OpP.move rfl) ?_)
            | (refine OpsJ.gsel (d := 32) (j := 4) (want := true) rfl rfl rfl rfl ?_; first | refine GuardJ.yes (by with_reducible assumption) ?_ | refine GuardJ.no (by with_reducible assumption) ?_ | refine GuardJ.dt rfl (by omega) ?_ | refine GuardJ.nf rfl (by omega) ?_ | refine GuardJ.yes rfl ?_ | refine GuardJ.no rfl ?_)
            | (refine OpsJ.put (d := 32) rfl ?_; first | refine OpJ.pure (OpP.idx1 rfl rfl (by omega) (by omega) (Src.ofR (by with_reducible assumption)) (ne_get (by assumption))) ?_ | refine OpJ.pure (OpP.idx1 rfl rfl (by omega) (by omega) (Src.ofRow (by repeat (first | exact List.Mem.head _ | apply List.Mem.tail))) (ne_get (by assumption))) ?_)
            | (refine OpsJ.gsel (d := 33) (j := 4) (want := true) rfl rfl rfl rfl ?_; first | refine GuardJ.yes (by with_reducible assumption) ?_ | refine GuardJ.no (by with_reducible assumption) ?_ | refine GuardJ.dt rfl (by omega) ?_ | refine GuardJ.nf rfl (by omega) ?_ | refine GuardJ.yes rfl ?_ | refine GuardJ.no rfl ?_)
            | (refine OpsJ.put (d := 33) rfl ?_; first | refine OpJ.pure (OpP.load_blk (by exact rfl) rfl (by repeat (first | exact List.Mem.head _ | apply List.Mem.tail)) rfl) ?_ | refine OpJ.pure (OpP.loadN_blk (by exact rfl) rfl (by repeat (first | exact List.Mem.head _ | apply List.Mem.tail)) (by exact rfl)) ?_ | refine OpJ.pure (OpP.load1 (by exact rfl) rfl (Src.ofR (by with_reducible assumption)) rfl (by assumption)) ?_ | refine OpJ.pure (OpP.load1 (by exact rfl) rfl (Src.ofRow (by repeat (first | exact List.Mem.head _ | apply List.Mem.tail))) rfl (by assumption)) ?_)
            | (refine OpsJ.gsel (d := 34) (j := 4) (want := true) rfl rfl rfl rfl ?_; first | refine GuardJ.yes (by with_reducible assumption) ?_ | refine GuardJ.no (by with_reducible assumption) ?_ | refine GuardJ.dt rfl (by omega) ?_ | refine GuardJ.nf rfl (by omega) ?_ | refine GuardJ.yes rfl ?_ | refine GuardJ.no rfl ?_)
            | (refine OpsJ.put (d := 34) rfl ?_; first | refine OpJ.pure (OpP.lss rfl rfl) ?_)
            | (refine OpsJ.gsel (d := 35) (j := 4) (want := true) rfl rfl rfl rfl ?_; first | refine GuardJ.yes (by with_reducible assumption) ?_ | refine GuardJ.no (by with_reducible assumption) ?_ | refine GuardJ.dt rfl (by omega) ?_ | refine GuardJ.nf rfl (by omega) ?_ | refine GuardJ.yes rfl ?_ | refine GuardJ.no rfl ?_)
            | (refine OpsJ.put (d := 35) rfl ?_; first | refine OpJ.pure (OpP.move rfl) ?_)
            | (refine OpsJ.gsel (d := 36) (j := 4) (want := true) rfl rfl rfl rfl ?_; first | refine GuardJ.yes (by with_reducible assumption) ?_ | refine GuardJ.no (by with_reducible assumption) ?_ | refine GuardJ.dt rfl (by omega) ?_ | refine GuardJ.nf rfl (by omega) ?_ | refine GuardJ.yes rfl ?_ | refine GuardJ.no rfl ?_)
            | (refine OpsJ.put (d := 36) rfl ?_; first | refine OpJ.pure (OpP.lss rfl rfl) ?_)
            | (refine OpsJ.gsel (d := 37) (j := 4) (want := true) rfl rfl rfl rfl ?_; first | refine GuardJ.yes (by with_reducible assumption) ?_ | refine GuardJ.no (by with_reducible assumption) ?_ | refine GuardJ.dt rfl (by omega) ?_ | refine GuardJ.nf rfl (by omega) ?_ | refine GuardJ.yes rfl ?_ | refine GuardJ.no rfl ?_)
            | (refine OpsJ.put (d := 37) rfl ?_; first | refine OpJ.pure (OpP.eql rfl rfl) ?_ | refine OpJ.pure (OpP.eql_string rfl rfl) ?_ | refine OpJ.pure (OpP.eql_bool rfl rfl) ?_ | refine OpJ.pure (OpP.eql_nil rfl rfl) ?_ | refine OpJ.pure (OpP.eql_nil_slice rfl rfl) ?_)
            | (refine OpsJ.put (d := 38) rfl ?_; first | refine OpJ.pure (OpP.pick_t rfl (by with_reducible assumption) rfl) ?_ | refine OpJ.pure (OpP.pick_f rfl (by with_reducible assumption) rfl) ?_ | refine OpJ.pure (OpP.pick_dt rfl (by omega) rfl) ?_ | refine OpJ.pure (OpP.pick_df rfl (by omega) rfl) ?_ | refine OpJ.pure (OpP.pick_t rfl rfl rfl) ?_ | refine OpJ.pure (OpP.pick_f rfl rfl rfl) ?_ | refine OpJ.pure (OpP.pick rfl rfl rfl) ?_)
            | (refine OpsJ.put (d := 39) rfl ?_; first | refine OpJ.pure (OpP.move rfl) ?_)
            | (refine OpsJ.gsel (d := 40) (j := 13) (want := true) rfl rfl rfl rfl ?_; first | refine GuardJ.yes (by with_reducible assumption) ?_ | refine GuardJ.no (by with_reducible assumption) ?_ | refine GuardJ.dt rfl (by omega) ?_ | refine GuardJ.nf rfl (by omega) ?_ | refine GuardJ.yes rfl ?_ | refine GuardJ.no rfl ?_)
            | (refine OpsJ.put (d := 40) rfl ?_; first | refine OpJ.pure (OpP.move rfl) ?_)
            | (refine OpsJ.gsel (d := 41) (j := 13) (want := true) rfl rfl rfl rfl ?_; first | refine GuardJ.yes (by with_reducible assumption) ?_ | refine GuardJ.no (by with_reducible assumption) ?_ | refine GuardJ.dt rfl (by omega) ?_ | refine GuardJ.nf rfl (by omega) ?_ | refine GuardJ.yes rfl ?_ | refine GuardJ.no rfl ?_)
            | (refine OpsJ.put (d := 41) rfl ?_; first | refine OpJ.pure (OpP.eql rfl rfl) ?_ | refine OpJ.pure (OpP.eql_string rfl rfl) ?_ | refine OpJ.pure (OpP.eql_bool rfl rfl) ?_ | refine OpJ.pure (OpP.eql_nil rfl rfl) ?_ | refine OpJ.pure (OpP.eql_nil_slice rfl rfl) ?_)
            | (refine OpsJ.gsel (d := 42) (j := 13) (want := true) rfl rfl rfl rfl ?_; first | refine GuardJ.yes (by with_reducible assumption) ?_ | refine GuardJ.no (by with_reducible assumption) ?_ | refine GuardJ.dt rfl (by omega) ?_ | refine GuardJ.nf rfl (by omega) ?_ | refine GuardJ.yes rfl ?_ | refine GuardJ.no rfl ?_)
            | (refine OpsJ.put (d := 42) rfl ?_; first | refine OpJ.pure (OpP.move rfl) ?_)
            | (refine OpsJ.gsel (d := 43) (j := 16) (want := false) rfl rfl rfl rfl ?_; first | refine GuardJ.yes (by with_reducible assumption) ?_ | refine GuardJ.no (by with_reducible assumption) ?_ | refine GuardJ.df rfl (by omega) ?_ | refine GuardJ.nt rfl (by omega) ?_ | refine GuardJ.yes rfl ?_ | refine GuardJ.no rfl ?_)
            | (refine OpsJ.put (d := 43) rfl ?_; first | refine OpJ.pure (OpP.move rfl) ?_)
            | (refine OpsJ.gsel (d := 44) (j := 16) (want := false) rfl rfl rfl rfl ?_; first | refine GuardJ.yes (by with_reducible assumption) ?_ | refine GuardJ.no (by with_reducible assumption) ?_ | refine GuardJ.df rfl (by omega) ?_ | refine GuardJ.nt rfl (by omega) ?_ | refine GuardJ.yes rfl ?_ | refine GuardJ.no rfl ?_)
            | (refine OpsJ.put (d := 44) rfl ?_; first | refine OpJ.pure (OpP.move rfl) ?_)
            | (refine OpsJ.gsel (d := 45) (j := 16) (want := false) rfl rfl rfl rfl ?_; first | refine GuardJ.yes (by with_reducible assumption) ?_ | refine GuardJ.no (by with_reducible assumption) ?_ | refine GuardJ.df rfl (by omega) ?_ | refine GuardJ.nt rfl (by omega) ?_ | refine GuardJ.yes rfl ?_ | refine GuardJ.no rfl ?_)
            | (refine OpsJ.put (d := 45) rfl ?_; first | refine OpJ.pure (OpP.sub_in rfl rfl (by omega) (by omega)) ?_ | refine OpJ.pure (OpP.sub rfl rfl) ?_)
            | (refine OpsJ.gsel (d := 46) (j := 16) (want := false) rfl rfl rfl rfl ?_; first | refine GuardJ.yes (by with_reducible assumption) ?_ | refine GuardJ.no (by with_reducible assumption) ?_ | refine GuardJ.df rfl (by omega) ?_ | refine GuardJ.nt rfl (by omega) ?_ | refine GuardJ.yes rfl ?_ | refine GuardJ.no rfl ?_)
            | (refine OpsJ.put (d := 46) rfl ?_; first | refine OpJ.pure (OpP.idx1 rfl rfl (by omega) (by omega) (Src.ofR (by with_reducible assumption)) (ne_get (by assumption))) ?_ | refine OpJ.pure (OpP.idx1 rfl rfl (by omega) (by omega) (Src.ofRow (by repeat (first | exact List.Mem.head _ | apply List.Mem.tail))) (ne_get (by assumption))) ?_)
            | (refine OpsJ.gsel (d := 47) (j := 16) (want := false) rfl rfl rfl rfl ?_; first | refine GuardJ.yes (by with_reducible assumption) ?_ | refine GuardJ.no (by with_reducible assumption) ?_ | refine GuardJ.df rfl (by omega) ?_ | refine GuardJ.nt rfl (by omega) ?_ | refine GuardJ.yes rfl ?_ | refine GuardJ.no rfl ?_)
            | (refine OpsJ.put (d := 47) rfl ?_; first | refine OpJ.pure (OpP.load_blk (by exact rfl) rfl (by repeat (first | exact List.Mem.head _ | apply List.Mem.tail)) rfl) ?_ | refine OpJ.pure (OpP.loadN_blk (by exact rfl) rfl (by repeat (first | exact List.Mem.head _ | apply List.Mem.tail)) (by exact rfl)) ?_ | refine OpJ.pure (OpP.load1 (by exact rfl) rfl (Src.ofR (by with_reducible assumption)) rfl (by assumption)) ?_ | refine OpJ.pure (OpP.load1 (by exact rfl) rfl (Src.ofRow (by repeat (first | exact List.Mem.head _ | apply List.Mem.tail))) rfl (by assumption)) ?_)
            | (refine OpsJ.gsel (d := 48) (j := 16) (want := false) rfl rfl rfl rfl ?_; first | refine GuardJ.yes (by with_reducible assumption) ?_ | refine GuardJ.no (by with_reducible assumption) ?_ | refine GuardJ.df rfl (by omega) ?_ | refine GuardJ.nt rfl (by omega) ?_ | refine GuardJ.yes rfl ?_ | refine GuardJ.no rfl ?_)
            | (refine OpsJ.put (d := 48) rfl ?_; first | refine OpJ.pure (OpP.neq rfl rfl) ?_ | refine OpJ.pure (OpP.neq_string rfl rfl) ?_ | refine OpJ.pure (OpP.neq_bool rfl rfl) ?_ | refine OpJ.pure (OpP.neq_nil rfl rfl) ?_ | refine OpJ.pure (OpP.neq_nil_slice rfl rfl) ?_)
            | (refine OpsJ.gsel (d := 49) (j := 13) (want := true) rfl rfl rfl rfl ?_; first | refine GuardJ.yes (by with_reducible assumption) ?_ | refine GuardJ.no (by with_reducible assumption) ?_ | refine GuardJ.dt rfl (by omega) ?_ | refine GuardJ.nf rfl (by omega) ?_ | refine GuardJ.yes rfl ?_ | refine GuardJ.no rfl ?_)
            | (refine OpsJ.put (d := 49) rfl ?_; first | refine OpJ.pure (OpP.pick_t rfl (by with_reducible assumption) rfl) ?_ | refine OpJ.pure (OpP.pick_f rfl (by with_reducible assumption) rfl) ?_ | refine OpJ.pure (OpP.pick_dt rfl (by omega) rfl) ?_ | refine OpJ.pure (OpP.pick_df rfl (by omega) rfl) ?_ | refine OpJ.pure (OpP.pick_t rfl rfl rfl) ?_ | refine OpJ.pure (OpP.pick_f rfl rfl rfl) ?_ | refine OpJ.pure (OpP.pick rfl rfl rfl) ?_)
            | (refine OpsJ.put (d := 50) rfl ?_; first | refine OpJ.pure (OpP.pick_t rfl (by with_reducible assumption) rfl) ?_ | refine OpJ.pure (OpP.pick_f rfl (by with_reducible assumption) rfl) ?_ | refine OpJ.pure (OpP.pick_dt rfl (by omega) rfl) ?_ | refine OpJ.pure (OpP.pick_df rfl (by omega) rfl) ?_ | refine OpJ.pure (OpP.pick_t rfl rfl rfl) ?_ | refine OpJ.pure (OpP.pick_f rfl rfl rfl) ?_ | refine OpJ.pure (OpP.pick rfl rfl rfl) ?_)
            | (refine OpsJ.put (d := 51) rfl ?_; first | refine OpJ.pure (OpP.move rfl) ?_)
            | (refine OpsJ.gsel (d := 52) (j := 25) (want := true) rfl rfl rfl rfl ?_; first | refine GuardJ.yes (by with_reducible assumption) ?_ | refine GuardJ.no (by with_reducible assumption) ?_ | refine GuardJ.dt rfl (by omega) ?_ | refine GuardJ.nf rfl (by omega) ?_ | refine GuardJ.yes rfl ?_ | refine GuardJ.no rfl ?_)
            | (refine OpsJ.put (d := 53) rfl ?_; first | refine OpJ.pure (OpP.pick_t rfl (by with_reducible assumption) rfl) ?_ | refine OpJ.pure (OpP.pick_f rfl (by with_reducible assumption) rfl) ?_ | refine OpJ.pure (OpP.pick_dt rfl (by omega) rfl) ?_ | refine OpJ.pure (OpP.pick_df rfl (by omega) rfl) ?_ | refine OpJ.pure (OpP.pick_t rfl rfl rfl) ?_ | refine OpJ.pure (OpP.pick_f rfl rfl rfl) ?_ | refine OpJ.pure (OpP.pick rfl rfl rfl) ?_)
            | refine OpsJ.nil ?_
            | refine CodeJ.cond_t rfl (by with_reducible assumption) ?_
            | refine CodeJ.cond_f rfl (by with_reducible assumption) ?_
            | refine CodeJ.cond_dt rfl (by omega) ?_
            | refine CodeJ.cond_df rfl (by omega) ?_
            | refine CodeJ.cond_t rfl rfl ?_
            | refine CodeJ.cond_f rfl rfl ?_)
          refine OpsJ.put (d := 52) rfl (OpJ.call (pass := []) rfl (by repeat (first | exact Split.nil | apply Split.p0 | apply Split.p1 | apply Split.p2 | apply Split.p3 | apply Split.p4 | apply Split.p5 | apply Split.p6 | apply Split.p7 | apply Split.p8)) (fun R' hle hin => known_calls R') ?_)
          rintro u D4 hs4 hd4 ⟨rfl, rfl⟩
          repeat (first
            | refine CodeJ.seq' ?_
            | refine CodeJ.region ?_
            | refine CodeJ.block ?_
            | refine CodeJ.skip ?_
            | refine CodeJ.exit rfl ?_
            | refine CodeJ.ret' ?_
            | (refine OpsJ.put (d := 2) rfl ?_; first | refine OpJ.pure (OpP.assign rfl) ?_)
            | (refine OpsJ.put (d := 7) rfl ?_; first | refine OpJ.pure (OpP.move rfl) ?_)
            | (refine OpsJ.put (d := 8) rfl ?_; first | refine OpJ.pure (OpP.lss rfl rfl) ?_)
            | (refine OpsJ.put (d := 9) rfl ?_; first | refine OpJ.pure (OpP.move rfl) ?_)
            | (refine OpsJ.gsel (d := 10) (j := 2) (want := false) rfl rfl rfl rfl ?_; first | refine GuardJ.yes (by with_reducible assumption) ?_ | refine GuardJ.no (by with_reducible assumption) ?_ | refine GuardJ.df rfl (by omega) ?_ | refine GuardJ.nt rfl (by omega) ?_ | refine GuardJ.yes rfl ?_ | refine GuardJ.no rfl ?_)
            | (refine OpsJ.put (d := 10) rfl ?_; first | refine OpJ.pure (OpP.move rfl) ?_)
            | (refine OpsJ.gsel (d := 11) (j := 2) (want := false) rfl rfl rfl rfl ?_; first | refine GuardJ.yes (by with_reducible assumption) ?_ | refine GuardJ.no (by with_reducible assumption) ?_ | refine GuardJ.df rfl (by omega) ?_ | refine GuardJ.nt rfl (by omega) ?_ | refine GuardJ.yes rfl ?_ | refine GuardJ.no rfl ?_)
            | (refine OpsJ.put (d := 11) rfl ?_; first | refine OpJ.pure (OpP.gtr rfl rfl) ?_)
            | (refine OpsJ.put (d := 12) rfl ?_; first | refine OpJ.pure (OpP.pick_t rfl (by with_reducible assumption) rfl) ?_ | refine OpJ.pure (OpP.pick_f rfl (by with_reducible assumption) rfl) ?_ | refine OpJ.pure (OpP.pick_dt rfl (by omega) rfl) ?_ | refine OpJ.pure (OpP.pick_df rfl (by omega) rfl) ?_ | refine OpJ.pure (OpP.pick_t rfl rfl rfl) ?_ | refine OpJ.pure (OpP.pick_f rfl rfl rfl) ?_ | refine OpJ.pure (OpP.pick rfl rfl rfl) ?_)
            | (refine OpsJ.put (d := 3) rfl ?_; first | refine OpJ.alloc (fun _ => ?_))
            | (refine OpsJ.put (d := 14) rfl ?_; first | refine OpJ.pure (OpP.move rfl) ?_)
            | (refine OpsJ.put (d := 15) rfl ?_; first | (refine OpJ.buildSlice rfl rfl (by exact rfl) (by exact rfl) rfl (fun _ => ?_); dsimp only [lsplice, take1, take2, take3, take4, drop1, drop2, drop3, drop4, List.take_zero, List.drop_zero, List.cons_append, List.nil_append, List.length_cons, List.length_nil, Nat.reduceAdd, fillL, sliceL, Value.cells, List.toList_toArray, List.append_nil]))
            | (refine OpsJ.put (d := 4) rfl ?_; first | refine OpJ.pure (OpP.assign rfl) ?_)
            | (refine OpsJ.put (d := 5) rfl ?_; first | refine OpJ.pure (OpP.assign rfl) ?_)
            | (refine OpsJ.put (d := 18) rfl ?_; first | refine OpJ.pure (OpP.move rfl) ?_)
            | (refine OpsJ.put (d := 19) rfl ?_; first | refine OpJ.pure (OpP.shr_nat rfl rfl rfl) ?_ | refine OpJ.pure (OpP.shr rfl rfl (by omega)) ?_)
            | (refine OpsJ.put (d := 6) rfl ?_; first | refine OpJ.pure (OpP.assign rfl) ?_)
            | (refine OpsJ.put (d := 20) rfl ?_; first | refine OpJ.pure (OpP.move rfl) ?_)
            | (refine OpsJ.put (d := 21) rfl ?_; first | refine OpJ.pure (OpP.gtr rfl rfl) ?_)
            | (refine OpsJ.put (d := 24) rfl ?_; first | refine OpJ.pure (OpP.move rfl) ?_)
            | (refine OpsJ.put (d := 25) rfl ?_; first | refine OpJ.pure (OpP.add_in rfl rfl (by omega) (by omega)) ?_ | refine OpJ.pure (OpP.cat rfl rfl (by omega)) ?_ | refine OpJ.pure (OpP.add rfl rfl) ?_)
            | (refine OpsJ.put (d := 22) rfl ?_; first | refine OpJ.pure (OpP.move rfl) ?_)
            | (refine OpsJ.put (d := 23) rfl ?_; first | refine OpJ.pure (OpP.shr_nat rfl rfl rfl) ?_ | refine OpJ.pure (OpP.shr rfl rfl (by omega)) ?_)
            | (refine OpsJ.put (d := 26) rfl ?_; first | refine OpJ.pure (OpP.move rfl) ?_)
            | (refine OpsJ.put (d := 27) rfl ?_; first | refine OpJ.pure (OpP.len rfl) ?_ | refine OpJ.pure (OpP.len_string rfl) ?_)
            | (refine OpsJ.put (d := 28) rfl ?_; first | refine OpJ.pure (OpP.move rfl) ?_)
            | (refine OpsJ.put (d := 29) rfl ?_; first | refine OpJ.pure (OpP.eql rfl rfl) ?_ | refine OpJ.pure (OpP.eql_string rfl rfl) ?_ | refine OpJ.pure (OpP.eql_bool rfl rfl) ?_ | refine OpJ.pure (OpP.eql_nil rfl rfl) ?_ | refine OpJ.pure (OpP.eql_nil_slice rfl rfl) ?_)
            | (refine OpsJ.put (d := 30) rfl ?_; first | refine OpJ.pure (OpP.move rfl) ?_)
            | (refine OpsJ.gsel (d := 31) (j := 4) (want := true) rfl rfl rfl rfl ?_; first | refine GuardJ.yes (by with_reducible assumption) ?_ | refine GuardJ.no (by with_reducible assumption) ?_ | refine GuardJ.dt rfl (by omega) ?_ | refine GuardJ.nf rfl (by omega) ?_ | refine GuardJ.yes rfl ?_ | refine GuardJ.no rfl ?_)
            | (refine OpsJ.put (d := 31) rfl ?_; first | refine OpJ.pure (OpP.move rfl) ?_)
            | (refine OpsJ.gsel (d := 32) (j := 4) (want := true) rfl rfl rfl rfl ?_; first | refine GuardJ.yes (by with_reducible assumption) ?_ | refine GuardJ.no (by with_reducible assumption) ?_ | refine GuardJ.dt rfl (by omega) ?_ | refine GuardJ.nf rfl (by omega) ?_ | refine GuardJ.yes rfl ?_ | refine GuardJ.no rfl ?_)
            | (refine OpsJ.put (d := 32) rfl ?_; first | refine OpJ.pure (OpP.idx1 rfl rfl (by omega) (by omega) (Src.ofR (by with_reducible assumption)) (ne_get (by assumption))) ?_ | refine OpJ.pure (OpP.idx1 rfl rfl (by omega) (by omega) (Src.ofRow (by repeat (first | exact List.Mem.head _ | apply List.Mem.tail))) (ne_get (by assumption))) ?_)
            | (refine OpsJ.gsel (d := 33) (j := 4) (want := true) rfl rfl rfl rfl ?_; first | refine GuardJ.yes (by with_reducible assumption) ?_ | refine GuardJ.no (by with_reducible assumption) ?_ | refine GuardJ.dt rfl (by omega) ?_ | refine GuardJ.nf rfl (by omega) ?_ | refine GuardJ.yes rfl ?_ | refine GuardJ.no rfl ?_)
            | (refine OpsJ.put (d := 33) rfl ?_; first | refine OpJ.pure (OpP.load_blk (by exact rfl) rfl (by repeat (first | exact List.Mem.head _ | apply List.Mem.tail)) rfl) ?_ | refine OpJ.pure (OpP.loadN_blk (by exact rfl) rfl (by repeat (first | exact List.Mem.head _ | apply List.Mem.tail)) (by exact rfl)) ?_ | refine OpJ.pure (OpP.load1 (by exact rfl) rfl (Src.ofR (by with_reducible assumption)) rfl (by assumption)) ?_ | refine OpJ.pure (OpP.load1 (by exact rfl) rfl (Src.ofRow (by repeat (first | exact List.Mem.head _ | apply List.Mem.tail))) rfl (by assumption)) ?_)
            | (refine OpsJ.gsel (d := 34) (j := 4) (want := true) rfl rfl rfl rfl ?_; first | refine GuardJ.yes (by with_reducible assumption) ?_ | refine GuardJ.no (by with_reducible assumption) ?_ | refine GuardJ.dt rfl (by omega) ?_ | refine GuardJ.nf rfl (by omega) ?_ | refine GuardJ.yes rfl ?_ | refine GuardJ.no rfl ?_)
            | (refine OpsJ.put (d := 34) rfl ?_; first | refine OpJ.pure (OpP.lss rfl rfl) ?_)
            | (refine OpsJ.gsel (d := 35) (j := 4) (want := true) rfl rfl rfl rfl ?_; first | refine GuardJ.yes (by with_reducible assumption) ?_ | refine GuardJ.no (by with_reducible assumption) ?_ | refine GuardJ.dt rfl (by omega) ?_ | refine GuardJ.nf rfl (by omega) ?_ | refine GuardJ.yes rfl ?_ | refine GuardJ.no rfl ?_)
            | (refine OpsJ.put (d := 35) rfl ?_; first | refine OpJ.pure (OpP.move rfl) ?_)
            | (refine OpsJ.gsel (d := 36) (j := 4) (want := true) rfl rfl rfl rfl ?_; first | refine GuardJ.yes (by with_reducible assumption) ?_ | refine GuardJ.no (by with_reducible assumption) ?_ | refine GuardJ.dt rfl (by omega) ?_ | refine GuardJ.nf rfl (by omega) ?_ | refine GuardJ.yes rfl ?_ | refine GuardJ.no rfl ?_)
            | (refine OpsJ.put (d := 36) rfl ?_; first | refine OpJ.pure (OpP.lss rfl rfl) ?_)
            | (refine OpsJ.gsel (d := 37) (j := 4) (want := true) rfl rfl rfl rfl ?_; first | refine GuardJ.yes (by with_reducible assumption) ?_ | refine GuardJ.no (by with_reducible assumption) ?_ | refine GuardJ.dt rfl (by omega) ?_ | refine GuardJ.nf rfl (by omega) ?_ | refine GuardJ.yes rfl ?_ | refine GuardJ.no rfl ?_)
            | (refine OpsJ.put (d := 37) rfl ?_; first | refine OpJ.pure (OpP.eql rfl rfl) ?_ | refine OpJ.pure (OpP.eql_string rfl rfl) ?_ | refine OpJ.pure (OpP.eql_bool rfl rfl) ?_ | refine OpJ.pure (OpP.eql_nil rfl rfl) ?_ | refine OpJ.pure (OpP.eql_nil_slice rfl rfl) ?_)
            | (refine OpsJ.put (d := 38) rfl ?_; first | refine OpJ.pure (OpP.pick_t rfl (by with_reducible assumption) rfl) ?_ | refine OpJ.pure (OpP.pick_f rfl (by with_reducible assumption) rfl) ?_ | refine OpJ.pure (OpP.pick_dt rfl (by omega) rfl) ?_ | refine OpJ.pure (OpP.pick_df rfl (by omega) rfl) ?_ | refine OpJ.pure (OpP.pick_t rfl rfl rfl) ?_ | refine OpJ.pure (OpP.pick_f rfl rfl rfl) ?_ | refine OpJ.pure (OpP.pick rfl rfl rfl) ?_)
            | (refine OpsJ.put (d := 39) rfl ?_; first | refine OpJ.pure (OpP.move rfl) ?_)
            | (refine OpsJ.gsel (d := 40) (j := 13) (want := true) rfl rfl rfl rfl ?_; first | refine GuardJ.yes (by with_reducible assumption) ?_ | refine GuardJ.no (by with_reducible assumption) ?_ | refine GuardJ.dt rfl (by omega) ?_ | refine GuardJ.nf rfl (by omega) ?_ | refine GuardJ.yes rfl ?_ | refine GuardJ.no rfl ?_)
            | (refine OpsJ.put (d := 40) rfl ?_; first | refine OpJ.pure (OpP.move rfl) ?_)
            | (refine OpsJ.gsel (d := 41) (j := 13) (want := true) rfl rfl rfl rfl ?_; first | refine GuardJ.yes (by with_reducible assumption) ?_ | refine GuardJ.no (by with_reducible assumption) ?_ | refine GuardJ.dt rfl (by omega) ?_ | refine GuardJ.nf rfl (by omega) ?_ | refine GuardJ.yes rfl ?_ | refine GuardJ.no rfl ?_)
            | (refine OpsJ.put (d := 41) rfl ?_; first | refine OpJ.pure (OpP.eql rfl rfl) ?_ | refine OpJ.pure (OpP.eql_string rfl rfl) ?_ | refine OpJ.pure (OpP.eql_bool rfl rfl) ?_ | refine OpJ.pure (OpP.eql_nil rfl rfl) ?_ | refine OpJ.pure (OpP.eql_nil_slice rfl rfl) ?_)
            | (refine OpsJ.gsel (d := 42) (j := 13) (want := true) rfl rfl rfl rfl ?_; first | refine GuardJ.yes (by with_reducible assumption) ?_ | refine GuardJ.no (by with_reducible assumption) ?_ | refine GuardJ.dt rfl (by omega) ?_ | refine GuardJ.nf rfl (by omega) ?_ | refine GuardJ.yes rfl ?_ | refine GuardJ.no rfl ?_)
            | (refine OpsJ.put (d := 42) rfl ?_; first | refine OpJ.pure (OpP.move rfl) ?_)
            | (refine OpsJ.gsel (d := 43) (j := 16) (want := false) rfl rfl rfl rfl ?_; first | refine GuardJ.yes (by with_reducible assumption) ?_ | refine GuardJ.no (by with_reducible assumption) ?_ | refine GuardJ.df rfl (by omega) ?_ | refine GuardJ.nt rfl (by omega) ?_ | refine GuardJ.yes rfl ?_ | refine GuardJ.no rfl ?_)
            | (refine OpsJ.put (d := 43) rfl ?_; first | refine OpJ.pure (OpP.move rfl) ?_)
            | (refine OpsJ.gsel (d := 44) (j := 16) (want := false) rfl rfl rfl rfl ?_; first | refine GuardJ.yes (by with_reducible assumption) ?_ | refine GuardJ.no (by with_reducible assumption) ?_ | refine GuardJ.df rfl (by omega) ?_ | refine GuardJ.nt rfl (by omega) ?_ | refine GuardJ.yes rfl ?_ | refine GuardJ.no rfl ?_)
            | (refine OpsJ.put (d := 44) rfl ?_; first | refine OpJ.pure (OpP.move rfl) ?_)
            | (refine OpsJ.gsel (d := 45) (j := 16) (want := false) rfl rfl rfl rfl ?_; first | refine GuardJ.yes (by with_reducible assumption) ?_ | refine GuardJ.no (by with_reducible assumption) ?_ | refine GuardJ.df rfl (by omega) ?_ | refine GuardJ.nt rfl (by omega) ?_ | refine GuardJ.yes rfl ?_ | refine GuardJ.no rfl ?_)
            | (refine OpsJ.put (d := 45) rfl ?_; first | refine OpJ.pure (OpP.sub_in rfl rfl (by omega) (by omega)) ?_ | refine OpJ.pure (OpP.sub rfl rfl) ?_)
            | (refine OpsJ.gsel (d := 46) (j := 16) (want := false) rfl rfl rfl rfl ?_; first | refine GuardJ.yes (by with_reducible assumption) ?_ | refine GuardJ.no (by with_reducible assumption) ?_ | refine GuardJ.df rfl (by omega) ?_ | refine GuardJ.nt rfl (by omega) ?_ | refine GuardJ.yes rfl ?_ | refine GuardJ.no rfl ?_)
            | (refine OpsJ.put (d := 46) rfl ?_; first | refine OpJ.pure (OpP.idx1 rfl rfl (by omega) (by omega) (Src.ofR (by with_reducible assumption)) (ne_get (by assumption))) ?_ | refine OpJ.pure (OpP.idx1 rfl rfl (by omega) (by omega) (Src.ofRow (by repeat (first | exact List.Mem.head _ | apply List.Mem.tail))) (ne_get (by assumption))) ?_)
            | (refine OpsJ.gsel (d := 47) (j := 16) (want := false) rfl rfl rfl rfl ?_; first | refine GuardJ.yes (by with_reducible assumption) ?_ | refine GuardJ.no (by with_reducible assumption) ?_ | refine GuardJ.df rfl (by omega) ?_ | refine GuardJ.nt rfl (by omega) ?_ | refine GuardJ.yes rfl ?_ | refine GuardJ.no rfl ?_)
            | (refine OpsJ.put (d := 47) rfl ?_; first | refine OpJ.pure (OpP.load_blk (by exact rfl) rfl (by repeat (first | exact List.Mem.head _ | apply List.Mem.tail)) rfl) ?_ | refine OpJ.pure (OpP.loadN_blk (by exact rfl) rfl (by repeat (first | exact List.Mem.head _ | apply List.Mem.tail)) (by exact rfl)) ?_ | refine OpJ.pure (OpP.load1 (by exact rfl) rfl (Src.ofR (by with_reducible assumption)) rfl (by assumption)) ?_ | refine OpJ.pure (OpP.load1 (by exact rfl) rfl (Src.ofRow (by repeat (first | exact List.Mem.head _ | apply List.Mem.tail))) rfl (by assumption)) ?_)
            | (refine OpsJ.gsel (d := 48) (j := 16) (want := false) rfl rfl rfl rfl ?_; first | refine GuardJ.yes (by with_reducible assumption) ?_ | refine GuardJ.no (by with_reducible assumption) ?_ | refine GuardJ.df rfl (by omega) ?_ | refine GuardJ.nt rfl (by omega) ?_ | refine GuardJ.yes rfl ?_ | refine GuardJ.no rfl ?_)
            | (refine OpsJ.put (d := 48) rfl ?_; first | refine OpJ.pure (OpP.neq rfl rfl) ?_ | refine OpJ.pure (OpP.neq_string rfl rfl) ?_ | refine OpJ.pure (OpP.neq_bool rfl rfl) ?_ | refine OpJ.pure (OpP.neq_nil rfl rfl) ?_ | refine OpJ.pure (OpP.neq_nil_slice rfl rfl) ?_)
            | (refine OpsJ.gsel (d := 49) (j := 13) (want := true) rfl rfl rfl rfl ?_; first | refine GuardJ.yes (by with_reducible assumption) ?_ | refine GuardJ.no (by with_reducible assumption) ?_ | refine GuardJ.dt rfl (by omega) ?_ | refine GuardJ.nf rfl (by omega) ?_ | refine GuardJ.yes rfl ?_ | refine GuardJ.no rfl ?_)
            | (refine OpsJ.put (d := 49) rfl ?_; first | refine OpJ.pure (OpP.pick_t rfl (by with_reducible assumption) rfl) ?_ | refine OpJ.pure (OpP.pick_f rfl (by with_reducible assumption) rfl) ?_ | refine OpJ.pure (OpP.pick_dt rfl (by omega) rfl) ?_ | refine OpJ.pure (OpP.pick_df rfl (by omega) rfl) ?_ | refine OpJ.pure (OpP.pick_t rfl rfl rfl) ?_ | refine OpJ.pure (OpP.pick_f rfl rfl rfl) ?_ | refine OpJ.pure (OpP.pick rfl rfl rfl) ?_)
            | (refine OpsJ.put (d := 50) rfl ?_; first | refine OpJ.pure (OpP.pick_t rfl (by with_reducible assumption) rfl) ?_ | refine OpJ.pure (OpP.pick_f rfl (by with_reducible assumption) rfl) ?_ | refine OpJ.pure (OpP.pick_dt rfl (by omega) rfl) ?_ | refine OpJ.pure (OpP.pick_df rfl (by omega) rfl) ?_ | refine OpJ.pure (OpP.pick_t rfl rfl rfl) ?_ | refine OpJ.pure (OpP.pick_f rfl rfl rfl) ?_ | refine OpJ.pure (OpP.pick rfl rfl rfl) ?_)
            | (refine OpsJ.put (d := 51) rfl ?_; first | refine OpJ.pure (OpP.move rfl) ?_)
            | (refine OpsJ.gsel (d := 52) (j := 25) (want := true) rfl rfl rfl rfl ?_; first | refine GuardJ.yes (by with_reducible assumption) ?_ | refine GuardJ.no (by with_reducible assumption) ?_ | refine GuardJ.dt rfl (by omega) ?_ | refine GuardJ.nf rfl (by omega) ?_ | refine GuardJ.yes rfl ?_ | refine GuardJ.no rfl ?_)
            | (refine OpsJ.put (d := 53) rfl ?_; first | refine OpJ.pure (OpP.pick_t rfl (by with_reducible assumption) rfl) ?_ | refine OpJ.pure (OpP.pick_f rfl (by with_reducible assumption) rfl) ?_ | refine OpJ.pure (OpP.pick_dt rfl (by omega) rfl) ?_ | refine OpJ.pure (OpP.pick_df rfl (by omega) rfl) ?_ | refine OpJ.pure (OpP.pick_t rfl rfl rfl) ?_ | refine OpJ.pure (OpP.pick_f rfl rfl rfl) ?_ | refine OpJ.pure (OpP.pick rfl rfl rfl) ?_)
            | refine OpsJ.nil ?_
            | refine CodeJ.cond_t rfl (by with_reducible assumption) ?_
            | refine CodeJ.cond_f rfl (by with_reducible assumption) ?_
            | refine CodeJ.cond_dt rfl (by omega) ?_
            | refine CodeJ.cond_df rfl (by omega) ?_
            | refine CodeJ.cond_t rfl rfl ?_
            | refine CodeJ.cond_f rfl rfl ?_)
          exact Ret.mk0 rfl (ResJ.one Try.results3 rfl) (by repeat (first | exact IM.le_refl _ | assumption | refine IM.le_trans ?_ (IM.le_or _ _))) (by repeat (first | exact SubL.nil _ | refine SubL.p0 ?_ | refine SubL.p1 ?_ | refine SubL.p2 ?_ | refine SubL.p3 ?_ | refine SubL.p4 ?_ | refine SubL.p5 ?_ | refine SubL.p6 ?_ | refine SubL.p7 ?_))
end Go.Proofs.Ytdicpnnmhjgnbaa.FW
