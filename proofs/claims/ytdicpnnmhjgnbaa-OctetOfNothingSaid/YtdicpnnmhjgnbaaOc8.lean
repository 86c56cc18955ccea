/- winnowerlaw1.OctetNums: the walk. -/
import Derived.Test.YtdicpnnmhjgnbaaOc7
import Derived.Test.YtdicpnnmhjgnbaaF8
namespace Go.Proofs.Ytdicpnnmhjgnbaa.FW
open Go Go.RowKit Go.Proofs
set_option linter.unusedVariables false
set_option linter.unusedSimpArgs false
set_option maxRecDepth 100000
set_option maxHeartbeats 4000000
attribute [local irreducible] OpsJ CodeJ OpJ OpQ OpP QuietJ CallJ HoldJ Src RC
theorem decGo_enc (u : Nat) : ∀ (i a : Nat) (r : List UInt8), (i > 0 → u > 0) → a + u * 128 ^ i ≤ 4611686018427387904 → (i > 0 ∨ i < 9) → decGo i a (enc u ++ r) = some (a + u * 128 ^ i, r) := by
  induction u using Nat.strongRecOn with
  | _ u ih =>
    intro i a r h0 hb _
    have h9 : ¬ i ≥ 9 := fun h => by
      have h1 : 128 ^ 9 ≤ 128 ^ i := Nat.pow_le_pow_right (by decide) h
      have h2 : 1 * 128 ^ i ≤ u * 128 ^ i := Nat.mul_le_mul_right _ (h0 (by omega))
      have h99 : (128 : Nat) ^ 9 = 9223372036854775808 := by decide
      omega
    by_cases h : u < 128
    · have hc : (UInt8.ofNat u).toNat = u := by simp only [UInt8.toNat_ofNat']; omega
      rw [enc_small h]
      simp only [List.cons_append, List.nil_append, decGo]
      rw [hc, if_neg, if_pos h, if_neg (by omega)]
      rintro (h1 | ⟨h1, h2⟩)
      · exact h9 h1
      · rw [h2] at hc; have := h0 h1; simp at hc; omega
    · have hc : (UInt8.ofNat (u % 128 + 128)).toNat = u % 128 + 128 := by simp only [UInt8.toNat_ofNat']; omega
      have hs : u % 128 * 128 ^ i + u / 128 * 128 ^ (i + 1) = u * 128 ^ i := by
        rw [Nat.pow_succ, Nat.mul_comm (128 ^ i) 128, ← Nat.mul_assoc, ← Nat.add_mul]
        congr 1
        omega
      rw [enc_big h]
      simp only [List.cons_append, decGo]
      rw [hc, if_neg, if_neg (by omega), Nat.add_sub_cancel, ih (u / 128) (by omega) (i + 1) _ r (fun _ => by omega) (by rw [Nat.add_assoc, hs]; exact hb) (Or.inl (by omega)), Nat.add_assoc, hs]
      rintro (h1 | ⟨h1, h2⟩)
      · exact h9 h1
      · rw [h2] at hc; simp at hc
theorem dec_enc (u : Nat) (r : List UInt8) (hu : u ≤ 4611686018427387904) : dec (enc u ++ r) = some (u, r) := by
  have := decGo_enc u 0 0 r (fun h => absurd h (by decide)) (by simpa using hu) (Or.inr (by decide))
  simpa [dec] using this
theorem encs_drop {xs : List Int} {i : Nat} (h : i < xs.length) : encs (xs.drop i) = enc (clamp (xs.getD i 0)) ++ encs (xs.drop (i + 1)) := by
  have : xs.drop i = xs.getD i 0 :: xs.drop (i + 1) := by
    rw [List.drop_eq_getElem_cons h]; simp [List.getD_eq_getElem?_getD, h]
  rw [this]; simp [encs]
theorem nums_small (V : Option Addr) (cap : Nat) (R : IM) (len : Nat) (xs : List Int) (hV : RC R V (icells xs)) (hl : len = xs.length) (hx : ∀ i, i < xs.length → -9223372036854775808 ≤ xs.getD i 0 ∧ xs.getD i 0 ≤ 9223372036854775807) :
    CallJ Try.prog 4 #[.slice V len cap] ⟨R, []⟩ (fun u D hs' => u = .bool true) := by
  refine CallJ.of1 Try.func4 rfl Try.ntmps4 rfl (fun W0 => ?_)
  by_cases h5 : len > 500
  · repeat (first
      | refine CodeJ.seq' ?_
      | refine CodeJ.region ?_
      | refine CodeJ.block ?_
      | refine CodeJ.skip ?_
      | refine CodeJ.exit rfl ?_
      | refine CodeJ.ret' ?_
      | (refine OpsJ.gsel rfl rfl rfl rfl ?_; first | refine GuardJ.yes (by with_reducible assumption) ?_ | refine GuardJ.no (by with_reducible assumption) ?_ | refine GuardJ.dt rfl (by omega) ?_ | refine GuardJ.nf rfl (by omega) ?_ | refine GuardJ.df rfl (by omega) ?_ | refine GuardJ.nt rfl (by omega) ?_ | refine GuardJ.yes rfl ?_ | refine GuardJ.no rfl ?_)
      | (refine OpsJ.gund rfl rfl rfl rfl ?_)
      | (refine OpsJ.put rfl ?_; first
        | refine OpJ.pure (OpP.assign rfl) ?_
        | refine OpJ.pure (OpP.move rfl) ?_
        | refine OpJ.pure (OpP.len rfl) ?_
        | refine OpJ.pure (OpP.len_string rfl) ?_
        | refine OpJ.pure (OpP.gtr rfl rfl) ?_
        | refine OpJ.alloc (fun _ => ?_)
        | refine OpJ.pure (OpP.not rfl) ?_
        | refine OpJ.pure (OpP.eql rfl rfl) ?_
        | refine OpJ.pure (OpP.eql_string rfl rfl) ?_
        | refine OpJ.pure (OpP.eql_bool rfl rfl) ?_
        | refine OpJ.pure (OpP.eql_nil rfl rfl) ?_
        | refine OpJ.pure (OpP.eql_nil_slice rfl rfl) ?_
        | refine OpJ.pure (OpP.lss rfl rfl) ?_
        | refine OpJ.pure (OpP.add_in rfl rfl (by omega) (by omega)) ?_
        | refine OpJ.pure (OpP.cat rfl rfl (by omega)) ?_
        | refine OpJ.pure (OpP.add rfl rfl) ?_
        | refine OpJ.pure (OpP.pick_t rfl (by with_reducible assumption) rfl) ?_
        | refine OpJ.pure (OpP.pick_f rfl (by with_reducible assumption) rfl) ?_
        | refine OpJ.pure (OpP.pick_dt rfl (by omega) rfl) ?_
        | refine OpJ.pure (OpP.pick_df rfl (by omega) rfl) ?_
        | refine OpJ.pure (OpP.pick_t rfl rfl rfl) ?_
        | refine OpJ.pure (OpP.pick_f rfl rfl rfl) ?_
        | refine OpJ.pure (OpP.pick rfl rfl rfl) ?_)
      | (refine QuietJ.put rfl ?_; first
        | refine OpQ.pure (OpP.move rfl) ?_
        | refine OpQ.pure (OpP.idx1 rfl rfl (by omega) (by omega) (Src.ofR (by with_reducible assumption)) (ne_get (by assumption))) ?_
        | refine OpQ.pure (OpP.idx1 rfl rfl (by omega) (by omega) (Src.ofRow (by repeat (first | exact List.Mem.head _ | apply List.Mem.tail))) (ne_get (by assumption))) ?_
        | refine OpQ.pure (OpP.load_blk (by exact rfl) rfl (by repeat (first | exact List.Mem.head _ | apply List.Mem.tail)) rfl) ?_
        | refine OpQ.pure (OpP.loadN_blk (by exact rfl) rfl (by repeat (first | exact List.Mem.head _ | apply List.Mem.tail)) (by exact rfl)) ?_
        | refine OpQ.pure (OpP.load1 (by exact rfl) rfl (Src.ofR (by with_reducible assumption)) rfl (by assumption)) ?_
        | refine OpQ.pure (OpP.load1 (by exact rfl) rfl (Src.ofRow (by repeat (first | exact List.Mem.head _ | apply List.Mem.tail))) rfl (by assumption)) ?_
        | refine OpQ.pure (OpP.min rfl rfl) ?_
        | refine OpQ.pure (OpP.max rfl rfl) ?_
        | refine OpQ.pure (OpP.neq rfl rfl) ?_
        | refine OpQ.pure (OpP.neq_string rfl rfl) ?_
        | refine OpQ.pure (OpP.neq_bool rfl rfl) ?_
        | refine OpQ.pure (OpP.neq_nil rfl rfl) ?_
        | refine OpQ.pure (OpP.neq_nil_slice rfl rfl) ?_)
      | refine OpsJ.nil ?_
      | refine QuietJ.nil ?_
      | refine CodeJ.cond_t rfl (by with_reducible assumption) ?_
      | refine CodeJ.cond_f rfl (by with_reducible assumption) ?_
      | refine CodeJ.cond_dt rfl (by omega) ?_
      | refine CodeJ.cond_df rfl (by omega) ?_
      | refine CodeJ.cond_t rfl rfl ?_
      | refine CodeJ.cond_f rfl rfl ?_)
    exact Ret.mk0 rfl (ResJ.one Try.results4 rfl) (by repeat (first | exact IM.le_refl _ | assumption | refine IM.le_trans ?_ (IM.le_or _ _))) (by repeat (first | exact SubL.nil _ | refine SubL.p0 ?_ | refine SubL.p1 ?_ | refine SubL.p2 ?_ | refine SubL.p3 ?_ | refine SubL.p4 ?_ | refine SubL.p5 ?_ | refine SubL.p6 ?_ | refine SubL.p7 ?_))
  refine CodeJ.nilrow 5 1 ?_
  repeat (first
    | refine CodeJ.seq' ?_
    | refine CodeJ.region ?_
    | refine CodeJ.block ?_
    | refine CodeJ.skip ?_
    | refine CodeJ.exit rfl ?_
    | refine CodeJ.ret' ?_
    | (refine OpsJ.gsel rfl rfl rfl rfl ?_; first | refine GuardJ.yes (by with_reducible assumption) ?_ | refine GuardJ.no (by with_reducible assumption) ?_ | refine GuardJ.dt rfl (by omega) ?_ | refine GuardJ.nf rfl (by omega) ?_ | refine GuardJ.df rfl (by omega) ?_ | refine GuardJ.nt rfl (by omega) ?_ | refine GuardJ.yes rfl ?_ | refine GuardJ.no rfl ?_)
    | (refine OpsJ.gund rfl rfl rfl rfl ?_)
    | (refine OpsJ.put rfl ?_; first
      | refine OpJ.pure (OpP.assign rfl) ?_
      | refine OpJ.pure (OpP.move rfl) ?_
      | refine OpJ.pure (OpP.len rfl) ?_
      | refine OpJ.pure (OpP.len_string rfl) ?_
      | refine OpJ.pure (OpP.gtr rfl rfl) ?_
      | refine OpJ.alloc (fun _ => ?_)
      | refine OpJ.pure (OpP.not rfl) ?_
      | refine OpJ.pure (OpP.eql rfl rfl) ?_
      | refine OpJ.pure (OpP.eql_string rfl rfl) ?_
      | refine OpJ.pure (OpP.eql_bool rfl rfl) ?_
      | refine OpJ.pure (OpP.eql_nil rfl rfl) ?_
      | refine OpJ.pure (OpP.eql_nil_slice rfl rfl) ?_
      | refine OpJ.pure (OpP.lss rfl rfl) ?_
      | refine OpJ.pure (OpP.add_in rfl rfl (by omega) (by omega)) ?_
      | refine OpJ.pure (OpP.cat rfl rfl (by omega)) ?_
      | refine OpJ.pure (OpP.add rfl rfl) ?_
      | refine OpJ.pure (OpP.pick_t rfl (by with_reducible assumption) rfl) ?_
      | refine OpJ.pure (OpP.pick_f rfl (by with_reducible assumption) rfl) ?_
      | refine OpJ.pure (OpP.pick_dt rfl (by omega) rfl) ?_
      | refine OpJ.pure (OpP.pick_df rfl (by omega) rfl) ?_
      | refine OpJ.pure (OpP.pick_t rfl rfl rfl) ?_
      | refine OpJ.pure (OpP.pick_f rfl rfl rfl) ?_
      | refine OpJ.pure (OpP.pick rfl rfl rfl) ?_)
    | (refine QuietJ.put rfl ?_; first
      | refine OpQ.pure (OpP.move rfl) ?_
      | refine OpQ.pure (OpP.idx1 rfl rfl (by omega) (by omega) (Src.ofR (by with_reducible assumption)) (ne_get (by assumption))) ?_
      | refine OpQ.pure (OpP.idx1 rfl rfl (by omega) (by omega) (Src.ofRow (by repeat (first | exact List.Mem.head _ | apply List.Mem.tail))) (ne_get (by assumption))) ?_
      | refine OpQ.pure (OpP.load_blk (by exact rfl) rfl (by repeat (first | exact List.Mem.head _ | apply List.Mem.tail)) rfl) ?_
      | refine OpQ.pure (OpP.loadN_blk (by exact rfl) rfl (by repeat (first | exact List.Mem.head _ | apply List.Mem.tail)) (by exact rfl)) ?_
      | refine OpQ.pure (OpP.load1 (by exact rfl) rfl (Src.ofR (by with_reducible assumption)) rfl (by assumption)) ?_
      | refine OpQ.pure (OpP.load1 (by exact rfl) rfl (Src.ofRow (by repeat (first | exact List.Mem.head _ | apply List.Mem.tail))) rfl (by assumption)) ?_
      | refine OpQ.pure (OpP.min rfl rfl) ?_
      | refine OpQ.pure (OpP.max rfl rfl) ?_
      | refine OpQ.pure (OpP.neq rfl rfl) ?_
      | refine OpQ.pure (OpP.neq_string rfl rfl) ?_
      | refine OpQ.pure (OpP.neq_bool rfl rfl) ?_
      | refine OpQ.pure (OpP.neq_nil rfl rfl) ?_
      | refine OpQ.pure (OpP.neq_nil_slice rfl rfl) ?_)
    | refine OpsJ.nil ?_
    | refine QuietJ.nil ?_
    | refine CodeJ.cond_t rfl (by with_reducible assumption) ?_
    | refine CodeJ.cond_f rfl (by with_reducible assumption) ?_
    | refine CodeJ.cond_dt rfl (by omega) ?_
    | refine CodeJ.cond_df rfl (by omega) ?_
    | refine CodeJ.cond_t rfl rfl ?_
    | refine CodeJ.cond_f rfl rfl ?_)
  have hel := encs_length xs
  refine OpsJ.put (d := 11) rfl (OpJ.call rfl (by repeat (first | exact Split.nil | apply Split.p0 | apply Split.p1 | apply Split.p2 | apply Split.p3 | apply Split.p4 | apply Split.p5 | apply Split.p6 | apply Split.p7 | apply Split.p8)) (fun R' hle hin => nums_calls R' _ _ _ _ [] xs _ (hV.mono hle) hl ⟨_, _, _, _, rfl, rfl, rfl⟩ (by simp; omega)) ?_)
  rintro u D hs1 hd ⟨rfl, A, c, m, cs, hm, hcs, rfl⟩
  rw [List.nil_append] at hm hcs
  repeat (first
    | refine CodeJ.seq' ?_
    | refine CodeJ.region ?_
    | refine CodeJ.block ?_
    | refine CodeJ.skip ?_
    | refine CodeJ.exit rfl ?_
    | refine CodeJ.ret' ?_
    | (refine OpsJ.gsel rfl rfl rfl rfl ?_; first | refine GuardJ.yes (by with_reducible assumption) ?_ | refine GuardJ.no (by with_reducible assumption) ?_ | refine GuardJ.dt rfl (by omega) ?_ | refine GuardJ.nf rfl (by omega) ?_ | refine GuardJ.df rfl (by omega) ?_ | refine GuardJ.nt rfl (by omega) ?_ | refine GuardJ.yes rfl ?_ | refine GuardJ.no rfl ?_)
    | (refine OpsJ.gund rfl rfl rfl rfl ?_)
    | (refine OpsJ.put rfl ?_; first
      | refine OpJ.pure (OpP.assign rfl) ?_
      | refine OpJ.pure (OpP.move rfl) ?_
      | refine OpJ.pure (OpP.len rfl) ?_
      | refine OpJ.pure (OpP.len_string rfl) ?_
      | refine OpJ.pure (OpP.gtr rfl rfl) ?_
      | refine OpJ.alloc (fun _ => ?_)
      | refine OpJ.pure (OpP.not rfl) ?_
      | refine OpJ.pure (OpP.eql rfl rfl) ?_
      | refine OpJ.pure (OpP.eql_string rfl rfl) ?_
      | refine OpJ.pure (OpP.eql_bool rfl rfl) ?_
      | refine OpJ.pure (OpP.eql_nil rfl rfl) ?_
      | refine OpJ.pure (OpP.eql_nil_slice rfl rfl) ?_
      | refine OpJ.pure (OpP.lss rfl rfl) ?_
      | refine OpJ.pure (OpP.add_in rfl rfl (by omega) (by omega)) ?_
      | refine OpJ.pure (OpP.cat rfl rfl (by omega)) ?_
      | refine OpJ.pure (OpP.add rfl rfl) ?_
      | refine OpJ.pure (OpP.pick_t rfl (by with_reducible assumption) rfl) ?_
      | refine OpJ.pure (OpP.pick_f rfl (by with_reducible assumption) rfl) ?_
      | refine OpJ.pure (OpP.pick_dt rfl (by omega) rfl) ?_
      | refine OpJ.pure (OpP.pick_df rfl (by omega) rfl) ?_
      | refine OpJ.pure (OpP.pick_t rfl rfl rfl) ?_
      | refine OpJ.pure (OpP.pick_f rfl rfl rfl) ?_
      | refine OpJ.pure (OpP.pick rfl rfl rfl) ?_)
    | (refine QuietJ.put rfl ?_; first
      | refine OpQ.pure (OpP.move rfl) ?_
      | refine OpQ.pure (OpP.idx1 rfl rfl (by omega) (by omega) (Src.ofR (by with_reducible assumption)) (ne_get (by assumption))) ?_
      | refine OpQ.pure (OpP.idx1 rfl rfl (by omega) (by omega) (Src.ofRow (by repeat (first | exact List.Mem.head _ | apply List.Mem.tail))) (ne_get (by assumption))) ?_
      | refine OpQ.pure (OpP.load_blk (by exact rfl) rfl (by repeat (first | exact List.Mem.head _ | apply List.Mem.tail)) rfl) ?_
      | refine OpQ.pure (OpP.loadN_blk (by exact rfl) rfl (by repeat (first | exact List.Mem.head _ | apply List.Mem.tail)) (by exact rfl)) ?_
      | refine OpQ.pure (OpP.load1 (by exact rfl) rfl (Src.ofR (by with_reducible assumption)) rfl (by assumption)) ?_
      | refine OpQ.pure (OpP.load1 (by exact rfl) rfl (Src.ofRow (by repeat (first | exact List.Mem.head _ | apply List.Mem.tail))) rfl (by assumption)) ?_
      | refine OpQ.pure (OpP.min rfl rfl) ?_
      | refine OpQ.pure (OpP.max rfl rfl) ?_
      | refine OpQ.pure (OpP.neq rfl rfl) ?_
      | refine OpQ.pure (OpP.neq_string rfl rfl) ?_
      | refine OpQ.pure (OpP.neq_bool rfl rfl) ?_
      | refine OpQ.pure (OpP.neq_nil rfl rfl) ?_
      | refine OpQ.pure (OpP.neq_nil_slice rfl rfl) ?_)
    | refine OpsJ.nil ?_
    | refine QuietJ.nil ?_
    | refine CodeJ.cond_t rfl (by with_reducible assumption) ?_
    | refine CodeJ.cond_f rfl (by with_reducible assumption) ?_
    | refine CodeJ.cond_dt rfl (by omega) ?_
    | refine CodeJ.cond_df rfl (by omega) ?_
    | refine CodeJ.cond_t rfl rfl ?_
    | refine CodeJ.cond_f rfl rfl ?_)
  refine OpsJ.put (d := 12) rfl (OpJ.call rfl (by repeat (first | exact Split.nil | apply Split.p0 | apply Split.p1 | apply Split.p2 | apply Split.p3 | apply Split.p4 | apply Split.p5 | apply Split.p6 | apply Split.p7 | apply Split.p8)) (fun R' hle hin => out_calls R' _ (encs xs) _ ⟨_, _, _, _, hm, hcs, rfl⟩ (by omega)) ?_)
  rintro u D2 hs2 hd2 ⟨A', m', c', cs', hw, rfl, hm', hcs', ⟨A2, c2, m2, cs2, hm2, hcs2, rfl⟩, rfl⟩
  subst hcs'
  repeat (first
    | refine CodeJ.seq' ?_
    | refine CodeJ.region ?_
    | refine CodeJ.block ?_
    | refine CodeJ.skip ?_
    | refine CodeJ.exit rfl ?_
    | refine CodeJ.ret' ?_
    | (refine OpsJ.gsel rfl rfl rfl rfl ?_; first | refine GuardJ.yes (by with_reducible assumption) ?_ | refine GuardJ.no (by with_reducible assumption) ?_ | refine GuardJ.dt rfl (by omega) ?_ | refine GuardJ.nf rfl (by omega) ?_ | refine GuardJ.df rfl (by omega) ?_ | refine GuardJ.nt rfl (by omega) ?_ | refine GuardJ.yes rfl ?_ | refine GuardJ.no rfl ?_)
    | (refine OpsJ.gund rfl rfl rfl rfl ?_)
    | (refine OpsJ.put rfl ?_; first
      | refine OpJ.pure (OpP.assign rfl) ?_
      | refine OpJ.pure (OpP.move rfl) ?_
      | refine OpJ.pure (OpP.len rfl) ?_
      | refine OpJ.pure (OpP.len_string rfl) ?_
      | refine OpJ.pure (OpP.gtr rfl rfl) ?_
      | refine OpJ.alloc (fun _ => ?_)
      | refine OpJ.pure (OpP.not rfl) ?_
      | refine OpJ.pure (OpP.eql rfl rfl) ?_
      | refine OpJ.pure (OpP.eql_string rfl rfl) ?_
      | refine OpJ.pure (OpP.eql_bool rfl rfl) ?_
      | refine OpJ.pure (OpP.eql_nil rfl rfl) ?_
      | refine OpJ.pure (OpP.eql_nil_slice rfl rfl) ?_
      | refine OpJ.pure (OpP.lss rfl rfl) ?_
      | refine OpJ.pure (OpP.add_in rfl rfl (by omega) (by omega)) ?_
      | refine OpJ.pure (OpP.cat rfl rfl (by omega)) ?_
      | refine OpJ.pure (OpP.add rfl rfl) ?_
      | refine OpJ.pure (OpP.pick_t rfl (by with_reducible assumption) rfl) ?_
      | refine OpJ.pure (OpP.pick_f rfl (by with_reducible assumption) rfl) ?_
      | refine OpJ.pure (OpP.pick_dt rfl (by omega) rfl) ?_
      | refine OpJ.pure (OpP.pick_df rfl (by omega) rfl) ?_
      | refine OpJ.pure (OpP.pick_t rfl rfl rfl) ?_
      | refine OpJ.pure (OpP.pick_f rfl rfl rfl) ?_
      | refine OpJ.pure (OpP.pick rfl rfl rfl) ?_)
    | (refine QuietJ.put rfl ?_; first
      | refine OpQ.pure (OpP.move rfl) ?_
      | refine OpQ.pure (OpP.idx1 rfl rfl (by omega) (by omega) (Src.ofR (by with_reducible assumption)) (ne_get (by assumption))) ?_
      | refine OpQ.pure (OpP.idx1 rfl rfl (by omega) (by omega) (Src.ofRow (by repeat (first | exact List.Mem.head _ | apply List.Mem.tail))) (ne_get (by assumption))) ?_
      | refine OpQ.pure (OpP.load_blk (by exact rfl) rfl (by repeat (first | exact List.Mem.head _ | apply List.Mem.tail)) rfl) ?_
      | refine OpQ.pure (OpP.loadN_blk (by exact rfl) rfl (by repeat (first | exact List.Mem.head _ | apply List.Mem.tail)) (by exact rfl)) ?_
      | refine OpQ.pure (OpP.load1 (by exact rfl) rfl (Src.ofR (by with_reducible assumption)) rfl (by assumption)) ?_
      | refine OpQ.pure (OpP.load1 (by exact rfl) rfl (Src.ofRow (by repeat (first | exact List.Mem.head _ | apply List.Mem.tail))) rfl (by assumption)) ?_
      | refine OpQ.pure (OpP.min rfl rfl) ?_
      | refine OpQ.pure (OpP.max rfl rfl) ?_
      | refine OpQ.pure (OpP.neq rfl rfl) ?_
      | refine OpQ.pure (OpP.neq_string rfl rfl) ?_
      | refine OpQ.pure (OpP.neq_bool rfl rfl) ?_
      | refine OpQ.pure (OpP.neq_nil rfl rfl) ?_
      | refine OpQ.pure (OpP.neq_nil_slice rfl rfl) ?_)
    | refine OpsJ.nil ?_
    | refine QuietJ.nil ?_
    | refine CodeJ.cond_t rfl (by with_reducible assumption) ?_
    | refine CodeJ.cond_f rfl (by with_reducible assumption) ?_
    | refine CodeJ.cond_dt rfl (by omega) ?_
    | refine CodeJ.cond_df rfl (by omega) ?_
    | refine CodeJ.cond_t rfl rfl ?_
    | refine CodeJ.cond_f rfl rfl ?_)
  refine OpsJ.put (d := 15) rfl (OpJ.call (pass := []) rfl (by repeat (first | exact Split.nil | apply Split.p0 | apply Split.p1 | apply Split.p2 | apply Split.p3 | apply Split.p4 | apply Split.p5 | apply Split.p6 | apply Split.p7 | apply Split.p8)) (fun R' hle hin => refnums_calls R' _ _ _ xs (hV.mono (IM.le_trans (by repeat (first | exact IM.le_refl _ | assumption | refine IM.le_trans ?_ (IM.le_or _ _))) hle)) hl (by omega) hx) ?_)
  rintro u D3 hs3 hd3 ⟨A3, m3, c3, cs3, rfl, hm3, hcs3, rfl⟩
  subst hcs3
  repeat (first
    | refine CodeJ.seq' ?_
    | refine CodeJ.region ?_
    | refine CodeJ.block ?_
    | refine CodeJ.skip ?_
    | refine CodeJ.exit rfl ?_
    | refine CodeJ.ret' ?_
    | (refine OpsJ.gsel rfl rfl rfl rfl ?_; first | refine GuardJ.yes (by with_reducible assumption) ?_ | refine GuardJ.no (by with_reducible assumption) ?_ | refine GuardJ.dt rfl (by omega) ?_ | refine GuardJ.nf rfl (by omega) ?_ | refine GuardJ.df rfl (by omega) ?_ | refine GuardJ.nt rfl (by omega) ?_ | refine GuardJ.yes rfl ?_ | refine GuardJ.no rfl ?_)
    | (refine OpsJ.gund rfl rfl rfl rfl ?_)
    | (refine OpsJ.put rfl ?_; first
      | refine OpJ.pure (OpP.assign rfl) ?_
      | refine OpJ.pure (OpP.move rfl) ?_
      | refine OpJ.pure (OpP.len rfl) ?_
      | refine OpJ.pure (OpP.len_string rfl) ?_
      | refine OpJ.pure (OpP.gtr rfl rfl) ?_
      | refine OpJ.alloc (fun _ => ?_)
      | refine OpJ.pure (OpP.not rfl) ?_
      | refine OpJ.pure (OpP.eql rfl rfl) ?_
      | refine OpJ.pure (OpP.eql_string rfl rfl) ?_
      | refine OpJ.pure (OpP.eql_bool rfl rfl) ?_
      | refine OpJ.pure (OpP.eql_nil rfl rfl) ?_
      | refine OpJ.pure (OpP.eql_nil_slice rfl rfl) ?_
      | refine OpJ.pure (OpP.lss rfl rfl) ?_
      | refine OpJ.pure (OpP.add_in rfl rfl (by omega) (by omega)) ?_
      | refine OpJ.pure (OpP.cat rfl rfl (by omega)) ?_
      | refine OpJ.pure (OpP.add rfl rfl) ?_
      | refine OpJ.pure (OpP.pick_t rfl (by with_reducible assumption) rfl) ?_
      | refine OpJ.pure (OpP.pick_f rfl (by with_reducible assumption) rfl) ?_
      | refine OpJ.pure (OpP.pick_dt rfl (by omega) rfl) ?_
      | refine OpJ.pure (OpP.pick_df rfl (by omega) rfl) ?_
      | refine OpJ.pure (OpP.pick_t rfl rfl rfl) ?_
      | refine OpJ.pure (OpP.pick_f rfl rfl rfl) ?_
      | refine OpJ.pure (OpP.pick rfl rfl rfl) ?_)
    | (refine QuietJ.put rfl ?_; first
      | refine OpQ.pure (OpP.move rfl) ?_
      | refine OpQ.pure (OpP.idx1 rfl rfl (by omega) (by omega) (Src.ofR (by with_reducible assumption)) (ne_get (by assumption))) ?_
      | refine OpQ.pure (OpP.idx1 rfl rfl (by omega) (by omega) (Src.ofRow (by repeat (first | exact List.Mem.head _ | apply List.Mem.tail))) (ne_get (by assumption))) ?_
      | refine OpQ.pure (OpP.load_blk (by exact rfl) rfl (by repeat (first | exact List.Mem.head _ | apply List.Mem.tail)) rfl) ?_
      | refine OpQ.pure (OpP.loadN_blk (by exact rfl) rfl (by repeat (first | exact List.Mem.head _ | apply List.Mem.tail)) (by exact rfl)) ?_
      | refine OpQ.pure (OpP.load1 (by exact rfl) rfl (Src.ofR (by with_reducible assumption)) rfl (by assumption)) ?_
      | refine OpQ.pure (OpP.load1 (by exact rfl) rfl (Src.ofRow (by repeat (first | exact List.Mem.head _ | apply List.Mem.tail))) rfl (by assumption)) ?_
      | refine OpQ.pure (OpP.min rfl rfl) ?_
      | refine OpQ.pure (OpP.max rfl rfl) ?_
      | refine OpQ.pure (OpP.neq rfl rfl) ?_
      | refine OpQ.pure (OpP.neq_string rfl rfl) ?_
      | refine OpQ.pure (OpP.neq_bool rfl rfl) ?_
      | refine OpQ.pure (OpP.neq_nil rfl rfl) ?_
      | refine OpQ.pure (OpP.neq_nil_slice rfl rfl) ?_)
    | refine OpsJ.nil ?_
    | refine QuietJ.nil ?_
    | refine CodeJ.cond_t rfl (by with_reducible assumption) ?_
    | refine CodeJ.cond_f rfl (by with_reducible assumption) ?_
    | refine CodeJ.cond_dt rfl (by omega) ?_
    | refine CodeJ.cond_df rfl (by omega) ?_
    | refine CodeJ.cond_t rfl rfl ?_
    | refine CodeJ.cond_f rfl rfl ?_)
  refine OpsJ.put (d := 16) rfl (OpJ.call (pass := []) rfl (by repeat (first | exact Split.nil | apply Split.p0 | apply Split.p1 | apply Split.p2 | apply Split.p3 | apply Split.p4 | apply Split.p5 | apply Split.p6 | apply Split.p7 | apply Split.p8)) (fun R' hle hin => same_calls R' _ _ _ _ _ _ (encs xs) (encs xs) (inRow hin (by repeat (first | exact List.Mem.head _ | apply List.Mem.tail))) (inRow hin (by repeat (first | exact List.Mem.head _ | apply List.Mem.tail))) hm' hm3 (by omega) (by omega)) ?_)
  rintro v D4 hs4 hd4 ⟨rfl, rfl⟩
  rw [decide_eq_true rfl]
  repeat (first
    | refine CodeJ.seq' ?_
    | refine CodeJ.region ?_
    | refine CodeJ.block ?_
    | refine CodeJ.skip ?_
    | refine CodeJ.exit rfl ?_
    | refine CodeJ.ret' ?_
    | (refine OpsJ.gsel rfl rfl rfl rfl ?_; first | refine GuardJ.yes (by with_reducible assumption) ?_ | refine GuardJ.no (by with_reducible assumption) ?_ | refine GuardJ.dt rfl (by omega) ?_ | refine GuardJ.nf rfl (by omega) ?_ | refine GuardJ.df rfl (by omega) ?_ | refine GuardJ.nt rfl (by omega) ?_ | refine GuardJ.yes rfl ?_ | refine GuardJ.no rfl ?_)
    | (refine OpsJ.gund rfl rfl rfl rfl ?_)
    | (refine OpsJ.put rfl ?_; first
      | refine OpJ.pure (OpP.assign rfl) ?_
      | refine OpJ.pure (OpP.move rfl) ?_
      | refine OpJ.pure (OpP.len rfl) ?_
      | refine OpJ.pure (OpP.len_string rfl) ?_
      | refine OpJ.pure (OpP.gtr rfl rfl) ?_
      | refine OpJ.alloc (fun _ => ?_)
      | refine OpJ.pure (OpP.not rfl) ?_
      | refine OpJ.pure (OpP.eql rfl rfl) ?_
      | refine OpJ.pure (OpP.eql_string rfl rfl) ?_
      | refine OpJ.pure (OpP.eql_bool rfl rfl) ?_
      | refine OpJ.pure (OpP.eql_nil rfl rfl) ?_
      | refine OpJ.pure (OpP.eql_nil_slice rfl rfl) ?_
      | refine OpJ.pure (OpP.lss rfl rfl) ?_
      | refine OpJ.pure (OpP.add_in rfl rfl (by omega) (by omega)) ?_
      | refine OpJ.pure (OpP.cat rfl rfl (by omega)) ?_
      | refine OpJ.pure (OpP.add rfl rfl) ?_
      | refine OpJ.pure (OpP.pick_t rfl (by with_reducible assumption) rfl) ?_
      | refine OpJ.pure (OpP.pick_f rfl (by with_reducible assumption) rfl) ?_
      | refine OpJ.pure (OpP.pick_dt rfl (by omega) rfl) ?_
      | refine OpJ.pure (OpP.pick_df rfl (by omega) rfl) ?_
      | refine OpJ.pure (OpP.pick_t rfl rfl rfl) ?_
      | refine OpJ.pure (OpP.pick_f rfl rfl rfl) ?_
      | refine OpJ.pure (OpP.pick rfl rfl rfl) ?_)
    | (refine QuietJ.put rfl ?_; first
      | refine OpQ.pure (OpP.move rfl) ?_
      | refine OpQ.pure (OpP.idx1 rfl rfl (by omega) (by omega) (Src.ofR (by with_reducible assumption)) (ne_get (by assumption))) ?_
      | refine OpQ.pure (OpP.idx1 rfl rfl (by omega) (by omega) (Src.ofRow (by repeat (first | exact List.Mem.head _ | apply List.Mem.tail))) (ne_get (by assumption))) ?_
      | refine OpQ.pure (OpP.load_blk (by exact rfl) rfl (by repeat (first | exact List.Mem.head _ | apply List.Mem.tail)) rfl) ?_
      | refine OpQ.pure (OpP.loadN_blk (by exact rfl) rfl (by repeat (first | exact List.Mem.head _ | apply List.Mem.tail)) (by exact rfl)) ?_
      | refine OpQ.pure (OpP.load1 (by exact rfl) rfl (Src.ofR (by with_reducible assumption)) rfl (by assumption)) ?_
      | refine OpQ.pure (OpP.load1 (by exact rfl) rfl (Src.ofRow (by repeat (first | exact List.Mem.head _ | apply List.Mem.tail))) rfl (by assumption)) ?_
      | refine OpQ.pure (OpP.min rfl rfl) ?_
      | refine OpQ.pure (OpP.max rfl rfl) ?_
      | refine OpQ.pure (OpP.neq rfl rfl) ?_
      | refine OpQ.pure (OpP.neq_string rfl rfl) ?_
      | refine OpQ.pure (OpP.neq_bool rfl rfl) ?_
      | refine OpQ.pure (OpP.neq_nil rfl rfl) ?_
      | refine OpQ.pure (OpP.neq_nil_slice rfl rfl) ?_)
    | refine OpsJ.nil ?_
    | refine QuietJ.nil ?_
    | refine CodeJ.cond_t rfl (by with_reducible assumption) ?_
    | refine CodeJ.cond_f rfl (by with_reducible assumption) ?_
    | refine CodeJ.cond_dt rfl (by omega) ?_
    | refine CodeJ.cond_df rfl (by omega) ?_
    | refine CodeJ.cond_t rfl rfl ?_
    | refine CodeJ.cond_f rfl rfl ?_)
  refine OpsJ.put (d := 19) rfl (OpJ.call (pass := []) rfl (by repeat (first | exact Split.nil | apply Split.p0 | apply Split.p1 | apply Split.p2 | apply Split.p3 | apply Split.p4 | apply Split.p5 | apply Split.p6 | apply Split.p7 | apply Split.p8)) (fun R' hle hin => newreader_calls R' _ _ _ (encs xs) (inRow hin (by repeat (first | exact List.Mem.head _ | apply List.Mem.tail))) hm' (by omega)) ?_)
  rintro v D5 hs5 hd5 ⟨g5, rfl, A5, m5, c5, hm5, hc5, hA5, rfl⟩
  repeat (first
    | refine CodeJ.seq' ?_
    | refine CodeJ.region ?_
    | refine CodeJ.block ?_
    | refine CodeJ.skip ?_
    | refine CodeJ.exit rfl ?_
    | refine CodeJ.ret' ?_
    | (refine OpsJ.gsel rfl rfl rfl rfl ?_; first | refine GuardJ.yes (by with_reducible assumption) ?_ | refine GuardJ.no (by with_reducible assumption) ?_ | refine GuardJ.dt rfl (by omega) ?_ | refine GuardJ.nf rfl (by omega) ?_ | refine GuardJ.df rfl (by omega) ?_ | refine GuardJ.nt rfl (by omega) ?_ | refine GuardJ.yes rfl ?_ | refine GuardJ.no rfl ?_)
    | (refine OpsJ.gund rfl rfl rfl rfl ?_)
    | (refine OpsJ.put rfl ?_; first
      | refine OpJ.pure (OpP.assign rfl) ?_
      | refine OpJ.pure (OpP.move rfl) ?_
      | refine OpJ.pure (OpP.len rfl) ?_
      | refine OpJ.pure (OpP.len_string rfl) ?_
      | refine OpJ.pure (OpP.gtr rfl rfl) ?_
      | refine OpJ.alloc (fun _ => ?_)
      | refine OpJ.pure (OpP.not rfl) ?_
      | refine OpJ.pure (OpP.eql rfl rfl) ?_
      | refine OpJ.pure (OpP.eql_string rfl rfl) ?_
      | refine OpJ.pure (OpP.eql_bool rfl rfl) ?_
      | refine OpJ.pure (OpP.eql_nil rfl rfl) ?_
      | refine OpJ.pure (OpP.eql_nil_slice rfl rfl) ?_
      | refine OpJ.pure (OpP.lss rfl rfl) ?_
      | refine OpJ.pure (OpP.add_in rfl rfl (by omega) (by omega)) ?_
      | refine OpJ.pure (OpP.cat rfl rfl (by omega)) ?_
      | refine OpJ.pure (OpP.add rfl rfl) ?_
      | refine OpJ.pure (OpP.pick_t rfl (by with_reducible assumption) rfl) ?_
      | refine OpJ.pure (OpP.pick_f rfl (by with_reducible assumption) rfl) ?_
      | refine OpJ.pure (OpP.pick_dt rfl (by omega) rfl) ?_
      | refine OpJ.pure (OpP.pick_df rfl (by omega) rfl) ?_
      | refine OpJ.pure (OpP.pick_t rfl rfl rfl) ?_
      | refine OpJ.pure (OpP.pick_f rfl rfl rfl) ?_
      | refine OpJ.pure (OpP.pick rfl rfl rfl) ?_)
    | (refine QuietJ.put rfl ?_; first
      | refine OpQ.pure (OpP.move rfl) ?_
      | refine OpQ.pure (OpP.idx1 rfl rfl (by omega) (by omega) (Src.ofR (by with_reducible assumption)) (ne_get (by assumption))) ?_
      | refine OpQ.pure (OpP.idx1 rfl rfl (by omega) (by omega) (Src.ofRow (by repeat (first | exact List.Mem.head _ | apply List.Mem.tail))) (ne_get (by assumption))) ?_
      | refine OpQ.pure (OpP.load_blk (by exact rfl) rfl (by repeat (first | exact List.Mem.head _ | apply List.Mem.tail)) rfl) ?_
      | refine OpQ.pure (OpP.loadN_blk (by exact rfl) rfl (by repeat (first | exact List.Mem.head _ | apply List.Mem.tail)) (by exact rfl)) ?_
      | refine OpQ.pure (OpP.load1 (by exact rfl) rfl (Src.ofR (by with_reducible assumption)) rfl (by assumption)) ?_
      | refine OpQ.pure (OpP.load1 (by exact rfl) rfl (Src.ofRow (by repeat (first | exact List.Mem.head _ | apply List.Mem.tail))) rfl (by assumption)) ?_
      | refine OpQ.pure (OpP.min rfl rfl) ?_
      | refine OpQ.pure (OpP.max rfl rfl) ?_
      | refine OpQ.pure (OpP.neq rfl rfl) ?_
      | refine OpQ.pure (OpP.neq_string rfl rfl) ?_
      | refine OpQ.pure (OpP.neq_bool rfl rfl) ?_
      | refine OpQ.pure (OpP.neq_nil rfl rfl) ?_
      | refine OpQ.pure (OpP.neq_nil_slice rfl rfl) ?_)
    | refine OpsJ.nil ?_
    | refine QuietJ.nil ?_
    | refine CodeJ.cond_t rfl (by with_reducible assumption) ?_
    | refine CodeJ.cond_f rfl (by with_reducible assumption) ?_
    | refine CodeJ.cond_dt rfl (by omega) ?_
    | refine CodeJ.cond_df rfl (by omega) ?_
    | refine CodeJ.cond_t rfl rfl ?_
    | refine CodeJ.cond_f rfl rfl ?_)
  refine OpsJ.put (d := 23) rfl (OpJ.call rfl (pass := [.row 5 1 A' m' c' (bcells (encs xs))]) (by repeat (first | exact Split.nil | apply Split.p0 | apply Split.p1 | apply Split.p2 | apply Split.p3 | apply Split.p4 | apply Split.p5 | apply Split.p6 | apply Split.p7 | apply Split.p8)) (fun R' hle hin => spoil_calls R' A' m' c' _ (by omega) (by rw [bcells_length, hm'])) ?_)
  rintro v D6 hs6 hd6 ⟨rfl, rfl⟩
  repeat (first
    | refine CodeJ.seq' ?_
    | refine CodeJ.region ?_
    | refine CodeJ.block ?_
    | refine CodeJ.skip ?_
    | refine CodeJ.exit rfl ?_
    | refine CodeJ.ret' ?_
    | (refine OpsJ.gsel rfl rfl rfl rfl ?_; first | refine GuardJ.yes (by with_reducible assumption) ?_ | refine GuardJ.no (by with_reducible assumption) ?_ | refine GuardJ.dt rfl (by omega) ?_ | refine GuardJ.nf rfl (by omega) ?_ | refine GuardJ.df rfl (by omega) ?_ | refine GuardJ.nt rfl (by omega) ?_ | refine GuardJ.yes rfl ?_ | refine GuardJ.no rfl ?_)
    | (refine OpsJ.gund rfl rfl rfl rfl ?_)
    | (refine OpsJ.put rfl ?_; first
      | refine OpJ.pure (OpP.assign rfl) ?_
      | refine OpJ.pure (OpP.move rfl) ?_
      | refine OpJ.pure (OpP.len rfl) ?_
      | refine OpJ.pure (OpP.len_string rfl) ?_
      | refine OpJ.pure (OpP.gtr rfl rfl) ?_
      | refine OpJ.alloc (fun _ => ?_)
      | refine OpJ.pure (OpP.not rfl) ?_
      | refine OpJ.pure (OpP.eql rfl rfl) ?_
      | refine OpJ.pure (OpP.eql_string rfl rfl) ?_
      | refine OpJ.pure (OpP.eql_bool rfl rfl) ?_
      | refine OpJ.pure (OpP.eql_nil rfl rfl) ?_
      | refine OpJ.pure (OpP.eql_nil_slice rfl rfl) ?_
      | refine OpJ.pure (OpP.lss rfl rfl) ?_
      | refine OpJ.pure (OpP.add_in rfl rfl (by omega) (by omega)) ?_
      | refine OpJ.pure (OpP.cat rfl rfl (by omega)) ?_
      | refine OpJ.pure (OpP.add rfl rfl) ?_
      | refine OpJ.pure (OpP.pick_t rfl (by with_reducible assumption) rfl) ?_
      | refine OpJ.pure (OpP.pick_f rfl (by with_reducible assumption) rfl) ?_
      | refine OpJ.pure (OpP.pick_dt rfl (by omega) rfl) ?_
      | refine OpJ.pure (OpP.pick_df rfl (by omega) rfl) ?_
      | refine OpJ.pure (OpP.pick_t rfl rfl rfl) ?_
      | refine OpJ.pure (OpP.pick_f rfl rfl rfl) ?_
      | refine OpJ.pure (OpP.pick rfl rfl rfl) ?_)
    | (refine QuietJ.put rfl ?_; first
      | refine OpQ.pure (OpP.move rfl) ?_
      | refine OpQ.pure (OpP.idx1 rfl rfl (by omega) (by omega) (Src.ofR (by with_reducible assumption)) (ne_get (by assumption))) ?_
      | refine OpQ.pure (OpP.idx1 rfl rfl (by omega) (by omega) (Src.ofRow (by repeat (first | exact List.Mem.head _ | apply List.Mem.tail))) (ne_get (by assumption))) ?_
      | refine OpQ.pure (OpP.load_blk (by exact rfl) rfl (by repeat (first | exact List.Mem.head _ | apply List.Mem.tail)) rfl) ?_
      | refine OpQ.pure (OpP.loadN_blk (by exact rfl) rfl (by repeat (first | exact List.Mem.head _ | apply List.Mem.tail)) (by exact rfl)) ?_
      | refine OpQ.pure (OpP.load1 (by exact rfl) rfl (Src.ofR (by with_reducible assumption)) rfl (by assumption)) ?_
      | refine OpQ.pure (OpP.load1 (by exact rfl) rfl (Src.ofRow (by repeat (first | exact List.Mem.head _ | apply List.Mem.tail))) rfl (by assumption)) ?_
      | refine OpQ.pure (OpP.min rfl rfl) ?_
      | refine OpQ.pure (OpP.max rfl rfl) ?_
      | refine OpQ.pure (OpP.neq rfl rfl) ?_
      | refine OpQ.pure (OpP.neq_string rfl rfl) ?_
      | refine OpQ.pure (OpP.neq_bool rfl rfl) ?_
      | refine OpQ.pure (OpP.neq_nil rfl rfl) ?_
      | refine OpQ.pure (OpP.neq_nil_slice rfl rfl) ?_)
    | refine OpsJ.nil ?_
    | refine QuietJ.nil ?_
    | refine CodeJ.cond_t rfl (by with_reducible assumption) ?_
    | refine CodeJ.cond_f rfl (by with_reducible assumption) ?_
    | refine CodeJ.cond_dt rfl (by omega) ?_
    | refine CodeJ.cond_df rfl (by omega) ?_
    | refine CodeJ.cond_t rfl rfl ?_
    | refine CodeJ.cond_f rfl rfl ?_)
  refine OpsJ.put (d := 24) rfl (OpJ.call rfl (by repeat (first | exact Split.nil | apply Split.p0 | apply Split.p1 | apply Split.p2 | apply Split.p3 | apply Split.p4 | apply Split.p5 | apply Split.p6 | apply Split.p7 | apply Split.p8)) (fun R' hle hin => out_calls R' _ (encs xs) _ ⟨_, _, _, _, hm2, hcs2, rfl⟩ (by omega)) ?_)
  rintro u D7 hs7 hd7 ⟨A7, m7, c7, cs7, hw7, rfl, hm7, hcs7, ⟨A8, c8, m8, cs8, hm8, hcs8, rfl⟩, rfl⟩
  subst hcs7
  repeat (first
    | refine CodeJ.seq' ?_
    | refine CodeJ.region ?_
    | refine CodeJ.block ?_
    | refine CodeJ.skip ?_
    | refine CodeJ.exit rfl ?_
    | refine CodeJ.ret' ?_
    | (refine OpsJ.gsel rfl rfl rfl rfl ?_; first | refine GuardJ.yes (by with_reducible assumption) ?_ | refine GuardJ.no (by with_reducible assumption) ?_ | refine GuardJ.dt rfl (by omega) ?_ | refine GuardJ.nf rfl (by omega) ?_ | refine GuardJ.df rfl (by omega) ?_ | refine GuardJ.nt rfl (by omega) ?_ | refine GuardJ.yes rfl ?_ | refine GuardJ.no rfl ?_)
    | (refine OpsJ.gund rfl rfl rfl rfl ?_)
    | (refine OpsJ.put rfl ?_; first
      | refine OpJ.pure (OpP.assign rfl) ?_
      | refine OpJ.pure (OpP.move rfl) ?_
      | refine OpJ.pure (OpP.len rfl) ?_
      | refine OpJ.pure (OpP.len_string rfl) ?_
      | refine OpJ.pure (OpP.gtr rfl rfl) ?_
      | refine OpJ.alloc (fun _ => ?_)
      | refine OpJ.pure (OpP.not rfl) ?_
      | refine OpJ.pure (OpP.eql rfl rfl) ?_
      | refine OpJ.pure (OpP.eql_string rfl rfl) ?_
      | refine OpJ.pure (OpP.eql_bool rfl rfl) ?_
      | refine OpJ.pure (OpP.eql_nil rfl rfl) ?_
      | refine OpJ.pure (OpP.eql_nil_slice rfl rfl) ?_
      | refine OpJ.pure (OpP.lss rfl rfl) ?_
      | refine OpJ.pure (OpP.add_in rfl rfl (by omega) (by omega)) ?_
      | refine OpJ.pure (OpP.cat rfl rfl (by omega)) ?_
      | refine OpJ.pure (OpP.add rfl rfl) ?_
      | refine OpJ.pure (OpP.pick_t rfl (by with_reducible assumption) rfl) ?_
      | refine OpJ.pure (OpP.pick_f rfl (by with_reducible assumption) rfl) ?_
      | refine OpJ.pure (OpP.pick_dt rfl (by omega) rfl) ?_
      | refine OpJ.pure (OpP.pick_df rfl (by omega) rfl) ?_
      | refine OpJ.pure (OpP.pick_t rfl rfl rfl) ?_
      | refine OpJ.pure (OpP.pick_f rfl rfl rfl) ?_
      | refine OpJ.pure (OpP.pick rfl rfl rfl) ?_)
    | (refine QuietJ.put rfl ?_; first
      | refine OpQ.pure (OpP.move rfl) ?_
      | refine OpQ.pure (OpP.idx1 rfl rfl (by omega) (by omega) (Src.ofR (by with_reducible assumption)) (ne_get (by assumption))) ?_
      | refine OpQ.pure (OpP.idx1 rfl rfl (by omega) (by omega) (Src.ofRow (by repeat (first | exact List.Mem.head _ | apply List.Mem.tail))) (ne_get (by assumption))) ?_
      | refine OpQ.pure (OpP.load_blk (by exact rfl) rfl (by repeat (first | exact List.Mem.head _ | apply List.Mem.tail)) rfl) ?_
      | refine OpQ.pure (OpP.loadN_blk (by exact rfl) rfl (by repeat (first | exact List.Mem.head _ | apply List.Mem.tail)) (by exact rfl)) ?_
      | refine OpQ.pure (OpP.load1 (by exact rfl) rfl (Src.ofR (by with_reducible assumption)) rfl (by assumption)) ?_
      | refine OpQ.pure (OpP.load1 (by exact rfl) rfl (Src.ofRow (by repeat (first | exact List.Mem.head _ | apply List.Mem.tail))) rfl (by assumption)) ?_
      | refine OpQ.pure (OpP.min rfl rfl) ?_
      | refine OpQ.pure (OpP.max rfl rfl) ?_
      | refine OpQ.pure (OpP.neq rfl rfl) ?_
      | refine OpQ.pure (OpP.neq_string rfl rfl) ?_
      | refine OpQ.pure (OpP.neq_bool rfl rfl) ?_
      | refine OpQ.pure (OpP.neq_nil rfl rfl) ?_
      | refine OpQ.pure (OpP.neq_nil_slice rfl rfl) ?_)
    | refine OpsJ.nil ?_
    | refine QuietJ.nil ?_
    | refine CodeJ.cond_t rfl (by with_reducible assumption) ?_
    | refine CodeJ.cond_f rfl (by with_reducible assumption) ?_
    | refine CodeJ.cond_dt rfl (by omega) ?_
    | refine CodeJ.cond_df rfl (by omega) ?_
    | refine CodeJ.cond_t rfl rfl ?_
    | refine CodeJ.cond_f rfl rfl ?_)
  refine OpsJ.put (d := 25) rfl (OpJ.call (pass := []) rfl (by repeat (first | exact Split.nil | apply Split.p0 | apply Split.p1 | apply Split.p2 | apply Split.p3 | apply Split.p4 | apply Split.p5 | apply Split.p6 | apply Split.p7 | apply Split.p8)) (fun R' hle hin => newreader_calls R' _ _ _ (encs xs) (inRow hin (by repeat (first | exact List.Mem.head _ | apply List.Mem.tail))) hm7 (by omega)) ?_)
  rintro v D9 hs9 hd9 ⟨g9, rfl, hRd⟩
  repeat (first
    | refine CodeJ.seq' ?_
    | refine CodeJ.region ?_
    | refine CodeJ.block ?_
    | refine CodeJ.skip ?_
    | refine CodeJ.exit rfl ?_
    | refine CodeJ.ret' ?_
    | (refine OpsJ.gsel rfl rfl rfl rfl ?_; first | refine GuardJ.yes (by with_reducible assumption) ?_ | refine GuardJ.no (by with_reducible assumption) ?_ | refine GuardJ.dt rfl (by omega) ?_ | refine GuardJ.nf rfl (by omega) ?_ | refine GuardJ.df rfl (by omega) ?_ | refine GuardJ.nt rfl (by omega) ?_ | refine GuardJ.yes rfl ?_ | refine GuardJ.no rfl ?_)
    | (refine OpsJ.gund rfl rfl rfl rfl ?_)
    | (refine OpsJ.put rfl ?_; first
      | refine OpJ.pure (OpP.assign rfl) ?_
      | refine OpJ.pure (OpP.move rfl) ?_
      | refine OpJ.pure (OpP.len rfl) ?_
      | refine OpJ.pure (OpP.len_string rfl) ?_
      | refine OpJ.pure (OpP.gtr rfl rfl) ?_
      | refine OpJ.alloc (fun _ => ?_)
      | refine OpJ.pure (OpP.not rfl) ?_
      | refine OpJ.pure (OpP.eql rfl rfl) ?_
      | refine OpJ.pure (OpP.eql_string rfl rfl) ?_
      | refine OpJ.pure (OpP.eql_bool rfl rfl) ?_
      | refine OpJ.pure (OpP.eql_nil rfl rfl) ?_
      | refine OpJ.pure (OpP.eql_nil_slice rfl rfl) ?_
      | refine OpJ.pure (OpP.lss rfl rfl) ?_
      | refine OpJ.pure (OpP.add_in rfl rfl (by omega) (by omega)) ?_
      | refine OpJ.pure (OpP.cat rfl rfl (by omega)) ?_
      | refine OpJ.pure (OpP.add rfl rfl) ?_
      | refine OpJ.pure (OpP.pick_t rfl (by with_reducible assumption) rfl) ?_
      | refine OpJ.pure (OpP.pick_f rfl (by with_reducible assumption) rfl) ?_
      | refine OpJ.pure (OpP.pick_dt rfl (by omega) rfl) ?_
      | refine OpJ.pure (OpP.pick_df rfl (by omega) rfl) ?_
      | refine OpJ.pure (OpP.pick_t rfl rfl rfl) ?_
      | refine OpJ.pure (OpP.pick_f rfl rfl rfl) ?_
      | refine OpJ.pure (OpP.pick rfl rfl rfl) ?_)
    | (refine QuietJ.put rfl ?_; first
      | refine OpQ.pure (OpP.move rfl) ?_
      | refine OpQ.pure (OpP.idx1 rfl rfl (by omega) (by omega) (Src.ofR (by with_reducible assumption)) (ne_get (by assumption))) ?_
      | refine OpQ.pure (OpP.idx1 rfl rfl (by omega) (by omega) (Src.ofRow (by repeat (first | exact List.Mem.head _ | apply List.Mem.tail))) (ne_get (by assumption))) ?_
      | refine OpQ.pure (OpP.load_blk (by exact rfl) rfl (by repeat (first | exact List.Mem.head _ | apply List.Mem.tail)) rfl) ?_
      | refine OpQ.pure (OpP.loadN_blk (by exact rfl) rfl (by repeat (first | exact List.Mem.head _ | apply List.Mem.tail)) (by exact rfl)) ?_
      | refine OpQ.pure (OpP.load1 (by exact rfl) rfl (Src.ofR (by with_reducible assumption)) rfl (by assumption)) ?_
      | refine OpQ.pure (OpP.load1 (by exact rfl) rfl (Src.ofRow (by repeat (first | exact List.Mem.head _ | apply List.Mem.tail))) rfl (by assumption)) ?_
      | refine OpQ.pure (OpP.min rfl rfl) ?_
      | refine OpQ.pure (OpP.max rfl rfl) ?_
      | refine OpQ.pure (OpP.neq rfl rfl) ?_
      | refine OpQ.pure (OpP.neq_string rfl rfl) ?_
      | refine OpQ.pure (OpP.neq_bool rfl rfl) ?_
      | refine OpQ.pure (OpP.neq_nil rfl rfl) ?_
      | refine OpQ.pure (OpP.neq_nil_slice rfl rfl) ?_)
    | refine OpsJ.nil ?_
    | refine QuietJ.nil ?_
    | refine CodeJ.cond_t rfl (by with_reducible assumption) ?_
    | refine CodeJ.cond_f rfl (by with_reducible assumption) ?_
    | refine CodeJ.cond_dt rfl (by omega) ?_
    | refine CodeJ.cond_df rfl (by omega) ?_
    | refine CodeJ.cond_t rfl rfl ?_
    | refine CodeJ.cond_f rfl rfl ?_)
  refine CodeJ.loop (fun k e s => ∃ (i : Nat) (R1 : IM) (h1 : List Chunk), i ≤ xs.length ∧ k = xs.length - i ∧ ReaderC R1 g9 (encs (xs.drop i)) false h1 ∧ IM.le R R1 ∧
      e = [(0, .slice V len cap), (5, .pointer (some ⟨g9, 0, none⟩)), (6, .int .i64 i)] ∧ s = ⟨R1, h1⟩) xs.length
    ⟨0, _, hs9, Nat.zero_le _, rfl, hRd.mono (IM.le_or_right hd9), (by repeat (first | exact IM.le_refl _ | assumption | refine IM.le_trans ?_ (IM.le_or _ _))), rfl, rfl⟩ (by repeat (first | exact SubE.nil _ | refine SubE.cons rfl ?_)) (SubL.app _ _) ?_
  rintro k e1 s1 ⟨i, R1, h1, hi, hk, hrd, hle1, rfl, rfl⟩
  have hV1 : RC R1 V (icells xs) := hV.mono hle1
  repeat (first
    | refine CodeJ.seq' ?_
    | refine CodeJ.region ?_
    | refine CodeJ.block ?_
    | refine CodeJ.skip ?_
    | refine CodeJ.exit rfl ?_
    | refine CodeJ.ret' ?_
    | (refine OpsJ.gsel rfl rfl rfl rfl ?_; first | refine GuardJ.yes (by with_reducible assumption) ?_ | refine GuardJ.no (by with_reducible assumption) ?_ | refine GuardJ.dt rfl (by omega) ?_ | refine GuardJ.nf rfl (by omega) ?_ | refine GuardJ.df rfl (by omega) ?_ | refine GuardJ.nt rfl (by omega) ?_ | refine GuardJ.yes rfl ?_ | refine GuardJ.no rfl ?_)
    | (refine OpsJ.gund rfl rfl rfl rfl ?_)
    | (refine OpsJ.put rfl ?_; first
      | refine OpJ.pure (OpP.assign rfl) ?_
      | refine OpJ.pure (OpP.move rfl) ?_
      | refine OpJ.pure (OpP.len rfl) ?_
      | refine OpJ.pure (OpP.len_string rfl) ?_
      | refine OpJ.pure (OpP.gtr rfl rfl) ?_
      | refine OpJ.alloc (fun _ => ?_)
      | refine OpJ.pure (OpP.not rfl) ?_
      | refine OpJ.pure (OpP.eql rfl rfl) ?_
      | refine OpJ.pure (OpP.eql_string rfl rfl) ?_
      | refine OpJ.pure (OpP.eql_bool rfl rfl) ?_
      | refine OpJ.pure (OpP.eql_nil rfl rfl) ?_
      | refine OpJ.pure (OpP.eql_nil_slice rfl rfl) ?_
      | refine OpJ.pure (OpP.lss rfl rfl) ?_
      | refine OpJ.pure (OpP.add_in rfl rfl (by omega) (by omega)) ?_
      | refine OpJ.pure (OpP.cat rfl rfl (by omega)) ?_
      | refine OpJ.pure (OpP.add rfl rfl) ?_
      | refine OpJ.pure (OpP.pick_t rfl (by with_reducible assumption) rfl) ?_
      | refine OpJ.pure (OpP.pick_f rfl (by with_reducible assumption) rfl) ?_
      | refine OpJ.pure (OpP.pick_dt rfl (by omega) rfl) ?_
      | refine OpJ.pure (OpP.pick_df rfl (by omega) rfl) ?_
      | refine OpJ.pure (OpP.pick_t rfl rfl rfl) ?_
      | refine OpJ.pure (OpP.pick_f rfl rfl rfl) ?_
      | refine OpJ.pure (OpP.pick rfl rfl rfl) ?_)
    | (refine QuietJ.put rfl ?_; first
      | refine OpQ.pure (OpP.move rfl) ?_
      | refine OpQ.pure (OpP.idx1 rfl rfl (by omega) (by omega) (Src.ofR (by with_reducible assumption)) (ne_get (by assumption))) ?_
      | refine OpQ.pure (OpP.idx1 rfl rfl (by omega) (by omega) (Src.ofRow (by repeat (first | exact List.Mem.head _ | apply List.Mem.tail))) (ne_get (by assumption))) ?_
      | refine OpQ.pure (OpP.load_blk (by exact rfl) rfl (by repeat (first | exact List.Mem.head _ | apply List.Mem.tail)) rfl) ?_
      | refine OpQ.pure (OpP.loadN_blk (by exact rfl) rfl (by repeat (first | exact List.Mem.head _ | apply List.Mem.tail)) (by exact rfl)) ?_
      | refine OpQ.pure (OpP.load1 (by exact rfl) rfl (Src.ofR (by with_reducible assumption)) rfl (by assumption)) ?_
      | refine OpQ.pure (OpP.load1 (by exact rfl) rfl (Src.ofRow (by repeat (first | exact List.Mem.head _ | apply List.Mem.tail))) rfl (by assumption)) ?_
      | refine OpQ.pure (OpP.min rfl rfl) ?_
      | refine OpQ.pure (OpP.max rfl rfl) ?_
      | refine OpQ.pure (OpP.neq rfl rfl) ?_
      | refine OpQ.pure (OpP.neq_string rfl rfl) ?_
      | refine OpQ.pure (OpP.neq_bool rfl rfl) ?_
      | refine OpQ.pure (OpP.neq_nil rfl rfl) ?_
      | refine OpQ.pure (OpP.neq_nil_slice rfl rfl) ?_)
    | refine OpsJ.nil ?_
    | refine QuietJ.nil ?_
    | refine CodeJ.cond_t rfl (by with_reducible assumption) ?_
    | refine CodeJ.cond_f rfl (by with_reducible assumption) ?_
    | refine CodeJ.cond_dt rfl (by omega) ?_
    | refine CodeJ.cond_df rfl (by omega) ?_
    | refine CodeJ.cond_t rfl rfl ?_
    | refine CodeJ.cond_f rfl rfl ?_)
  refine CodeJ.cond_d rfl (fun hc => ?_) (fun hc => ?_)
  · have hcell := icells_get (a := xs) (i := i) (by omega)
    have hxi := hx i (by omega)
    have hdl : (encs (xs.drop i)).length ≤ 1000000000 := by
      have := encs_length (xs.drop i); rw [List.length_drop] at this; omega
    have hcl := clamp_le (xs.getD i 0)
    have hdec := encs_drop (xs := xs) (i := i) (by omega)
    repeat (first
      | refine CodeJ.seq' ?_
      | refine CodeJ.region ?_
      | refine CodeJ.block ?_
      | refine CodeJ.skip ?_
      | refine CodeJ.exit rfl ?_
      | refine CodeJ.ret' ?_
      | (refine OpsJ.gsel rfl rfl rfl rfl ?_; first | refine GuardJ.yes (by with_reducible assumption) ?_ | refine GuardJ.no (by with_reducible assumption) ?_ | refine GuardJ.dt rfl (by omega) ?_ | refine GuardJ.nf rfl (by omega) ?_ | refine GuardJ.df rfl (by omega) ?_ | refine GuardJ.nt rfl (by omega) ?_ | refine GuardJ.yes rfl ?_ | refine GuardJ.no rfl ?_)
      | (refine OpsJ.gund rfl rfl rfl rfl ?_)
      | (refine OpsJ.put rfl ?_; first
        | refine OpJ.pure (OpP.assign rfl) ?_
        | refine OpJ.pure (OpP.move rfl) ?_
        | refine OpJ.pure (OpP.len rfl) ?_
        | refine OpJ.pure (OpP.len_string rfl) ?_
        | refine OpJ.pure (OpP.gtr rfl rfl) ?_
        | refine OpJ.alloc (fun _ => ?_)
        | refine OpJ.pure (OpP.not rfl) ?_
        | refine OpJ.pure (OpP.eql rfl rfl) ?_
        | refine OpJ.pure (OpP.eql_string rfl rfl) ?_
        | refine OpJ.pure (OpP.eql_bool rfl rfl) ?_
        | refine OpJ.pure (OpP.eql_nil rfl rfl) ?_
        | refine OpJ.pure (OpP.eql_nil_slice rfl rfl) ?_
        | refine OpJ.pure (OpP.lss rfl rfl) ?_
        | refine OpJ.pure (OpP.add_in rfl rfl (by omega) (by omega)) ?_
        | refine OpJ.pure (OpP.cat rfl rfl (by omega)) ?_
        | refine OpJ.pure (OpP.add rfl rfl) ?_
        | refine OpJ.pure (OpP.pick_t rfl (by with_reducible assumption) rfl) ?_
        | refine OpJ.pure (OpP.pick_f rfl (by with_reducible assumption) rfl) ?_
        | refine OpJ.pure (OpP.pick_dt rfl (by omega) rfl) ?_
        | refine OpJ.pure (OpP.pick_df rfl (by omega) rfl) ?_
        | refine OpJ.pure (OpP.pick_t rfl rfl rfl) ?_
        | refine OpJ.pure (OpP.pick_f rfl rfl rfl) ?_
        | refine OpJ.pure (OpP.pick rfl rfl rfl) ?_)
      | (refine QuietJ.put rfl ?_; first
        | refine OpQ.pure (OpP.move rfl) ?_
        | refine OpQ.pure (OpP.idx1 rfl rfl (by omega) (by omega) (Src.ofR (by with_reducible assumption)) (ne_get (by assumption))) ?_
        | refine OpQ.pure (OpP.idx1 rfl rfl (by omega) (by omega) (Src.ofRow (by repeat (first | exact List.Mem.head _ | apply List.Mem.tail))) (ne_get (by assumption))) ?_
        | refine OpQ.pure (OpP.load_blk (by exact rfl) rfl (by repeat (first | exact List.Mem.head _ | apply List.Mem.tail)) rfl) ?_
        | refine OpQ.pure (OpP.loadN_blk (by exact rfl) rfl (by repeat (first | exact List.Mem.head _ | apply List.Mem.tail)) (by exact rfl)) ?_
        | refine OpQ.pure (OpP.load1 (by exact rfl) rfl (Src.ofR (by with_reducible assumption)) rfl (by assumption)) ?_
        | refine OpQ.pure (OpP.load1 (by exact rfl) rfl (Src.ofRow (by repeat (first | exact List.Mem.head _ | apply List.Mem.tail))) rfl (by assumption)) ?_
        | refine OpQ.pure (OpP.min rfl rfl) ?_
        | refine OpQ.pure (OpP.max rfl rfl) ?_
        | refine OpQ.pure (OpP.neq rfl rfl) ?_
        | refine OpQ.pure (OpP.neq_string rfl rfl) ?_
        | refine OpQ.pure (OpP.neq_bool rfl rfl) ?_
        | refine OpQ.pure (OpP.neq_nil rfl rfl) ?_
        | refine OpQ.pure (OpP.neq_nil_slice rfl rfl) ?_)
      | refine OpsJ.nil ?_
      | refine QuietJ.nil ?_
      | refine CodeJ.cond_t rfl (by with_reducible assumption) ?_
      | refine CodeJ.cond_f rfl (by with_reducible assumption) ?_
      | refine CodeJ.cond_dt rfl (by omega) ?_
      | refine CodeJ.cond_df rfl (by omega) ?_
      | refine CodeJ.cond_t rfl rfl ?_
      | refine CodeJ.cond_f rfl rfl ?_)
    refine HoldJ.start [] (by kernel_rfl) ?_
    first
      | refine HoldJ.take 0 rfl (by kernel_rfl) rfl (OpP.move rfl) ⟨(by repeat (first | exact IM.le_refl _ | assumption | refine IM.le_trans ?_ (IM.le_or _ _))), (by repeat (first | exact SubL.nil _ | refine SubL.p0 ?_ | refine SubL.p1 ?_ | refine SubL.p2 ?_ | refine SubL.p3 ?_ | refine SubL.p4 ?_ | refine SubL.p5 ?_ | refine SubL.p6 ?_ | refine SubL.p7 ?_))⟩ ?_
    first
      | refine HoldJ.take 2 rfl (by kernel_rfl) rfl (OpP.move rfl) ⟨(by repeat (first | exact IM.le_refl _ | assumption | refine IM.le_trans ?_ (IM.le_or _ _))), (by repeat (first | exact SubL.nil _ | refine SubL.p0 ?_ | refine SubL.p1 ?_ | refine SubL.p2 ?_ | refine SubL.p3 ?_ | refine SubL.p4 ?_ | refine SubL.p5 ?_ | refine SubL.p6 ?_ | refine SubL.p7 ?_))⟩ ?_
    first
      | refine HoldJ.take 3 rfl (by kernel_rfl) rfl (OpP.move rfl) ⟨(by repeat (first | exact IM.le_refl _ | assumption | refine IM.le_trans ?_ (IM.le_or _ _))), (by repeat (first | exact SubL.nil _ | refine SubL.p0 ?_ | refine SubL.p1 ?_ | refine SubL.p2 ?_ | refine SubL.p3 ?_ | refine SubL.p4 ?_ | refine SubL.p5 ?_ | refine SubL.p6 ?_ | refine SubL.p7 ?_))⟩ ?_
    first
      | refine HoldJ.take 4 rfl (by kernel_rfl) rfl (OpP.idx1 rfl rfl (by omega) (by omega) (Src.ofR (by with_reducible assumption)) (ne_get (by assumption))) ⟨(by repeat (first | exact IM.le_refl _ | assumption | refine IM.le_trans ?_ (IM.le_or _ _))), (by repeat (first | exact SubL.nil _ | refine SubL.p0 ?_ | refine SubL.p1 ?_ | refine SubL.p2 ?_ | refine SubL.p3 ?_ | refine SubL.p4 ?_ | refine SubL.p5 ?_ | refine SubL.p6 ?_ | refine SubL.p7 ?_))⟩ ?_
      | refine HoldJ.take 4 rfl (by kernel_rfl) rfl (OpP.idx1 rfl rfl (by omega) (by omega) (Src.ofRow (by repeat (first | exact List.Mem.head _ | apply List.Mem.tail))) (ne_get (by assumption))) ⟨(by repeat (first | exact IM.le_refl _ | assumption | refine IM.le_trans ?_ (IM.le_or _ _))), (by repeat (first | exact SubL.nil _ | refine SubL.p0 ?_ | refine SubL.p1 ?_ | refine SubL.p2 ?_ | refine SubL.p3 ?_ | refine SubL.p4 ?_ | refine SubL.p5 ?_ | refine SubL.p6 ?_ | refine SubL.p7 ?_))⟩ ?_
    first
      | refine HoldJ.take 5 rfl (by kernel_rfl) rfl (OpP.load_blk (by exact rfl) rfl (by repeat (first | exact List.Mem.head _ | apply List.Mem.tail)) rfl) ⟨(by repeat (first | exact IM.le_refl _ | assumption | refine IM.le_trans ?_ (IM.le_or _ _))), (by repeat (first | exact SubL.nil _ | refine SubL.p0 ?_ | refine SubL.p1 ?_ | refine SubL.p2 ?_ | refine SubL.p3 ?_ | refine SubL.p4 ?_ | refine SubL.p5 ?_ | refine SubL.p6 ?_ | refine SubL.p7 ?_))⟩ ?_
      | refine HoldJ.take 5 rfl (by kernel_rfl) rfl (OpP.loadN_blk (by exact rfl) rfl (by repeat (first | exact List.Mem.head _ | apply List.Mem.tail)) (by exact rfl)) ⟨(by repeat (first | exact IM.le_refl _ | assumption | refine IM.le_trans ?_ (IM.le_or _ _))), (by repeat (first | exact SubL.nil _ | refine SubL.p0 ?_ | refine SubL.p1 ?_ | refine SubL.p2 ?_ | refine SubL.p3 ?_ | refine SubL.p4 ?_ | refine SubL.p5 ?_ | refine SubL.p6 ?_ | refine SubL.p7 ?_))⟩ ?_
      | refine HoldJ.take 5 rfl (by kernel_rfl) rfl (OpP.load1 (by exact rfl) rfl (Src.ofR (by with_reducible assumption)) rfl (by assumption)) ⟨(by repeat (first | exact IM.le_refl _ | assumption | refine IM.le_trans ?_ (IM.le_or _ _))), (by repeat (first | exact SubL.nil _ | refine SubL.p0 ?_ | refine SubL.p1 ?_ | refine SubL.p2 ?_ | refine SubL.p3 ?_ | refine SubL.p4 ?_ | refine SubL.p5 ?_ | refine SubL.p6 ?_ | refine SubL.p7 ?_))⟩ ?_
      | refine HoldJ.take 5 rfl (by kernel_rfl) rfl (OpP.load1 (by exact rfl) rfl (Src.ofRow (by repeat (first | exact List.Mem.head _ | apply List.Mem.tail))) rfl (by assumption)) ⟨(by repeat (first | exact IM.le_refl _ | assumption | refine IM.le_trans ?_ (IM.le_or _ _))), (by repeat (first | exact SubL.nil _ | refine SubL.p0 ?_ | refine SubL.p1 ?_ | refine SubL.p2 ?_ | refine SubL.p3 ?_ | refine SubL.p4 ?_ | refine SubL.p5 ?_ | refine SubL.p6 ?_ | refine SubL.p7 ?_))⟩ ?_
    first
      | refine HoldJ.take 6 rfl (by kernel_rfl) rfl (OpP.min rfl rfl) ⟨(by repeat (first | exact IM.le_refl _ | assumption | refine IM.le_trans ?_ (IM.le_or _ _))), (by repeat (first | exact SubL.nil _ | refine SubL.p0 ?_ | refine SubL.p1 ?_ | refine SubL.p2 ?_ | refine SubL.p3 ?_ | refine SubL.p4 ?_ | refine SubL.p5 ?_ | refine SubL.p6 ?_ | refine SubL.p7 ?_))⟩ ?_
    first
      | refine HoldJ.take 7 rfl (by kernel_rfl) rfl (OpP.max rfl rfl) ⟨(by repeat (first | exact IM.le_refl _ | assumption | refine IM.le_trans ?_ (IM.le_or _ _))), (by repeat (first | exact SubL.nil _ | refine SubL.p0 ?_ | refine SubL.p1 ?_ | refine SubL.p2 ?_ | refine SubL.p3 ?_ | refine SubL.p4 ?_ | refine SubL.p5 ?_ | refine SubL.p6 ?_ | refine SubL.p7 ?_))⟩ ?_
    refine HoldJ.step 1 rfl (by kernel_rfl) rfl ?_
    refine OpJ.call rfl (Split.whole h1) (fun R' hle hin => num_calls R1 R' hle g9 _ _ _ hrd hdl) ?_
    rw [hdec, dec_enc _ _ (by omega)]
    rintro v D1 hs1 hdd ⟨rfl, hR1⟩
    refine ⟨⟨(by repeat (first | exact IM.le_refl _ | assumption | refine IM.le_trans ?_ (IM.le_or _ _))), SubL.nil _⟩, ?_⟩
    first
      | refine HoldJ.take 8 rfl (by kernel_rfl) rfl (OpP.neq rfl rfl) ⟨(by repeat (first | exact IM.le_refl _ | assumption | refine IM.le_trans ?_ (IM.le_or _ _))), (by repeat (first | exact SubL.nil _ | refine SubL.p0 ?_ | refine SubL.p1 ?_ | refine SubL.p2 ?_ | refine SubL.p3 ?_ | refine SubL.p4 ?_ | refine SubL.p5 ?_ | refine SubL.p6 ?_ | refine SubL.p7 ?_))⟩ ?_
      | refine HoldJ.take 8 rfl (by kernel_rfl) rfl (OpP.neq_string rfl rfl) ⟨(by repeat (first | exact IM.le_refl _ | assumption | refine IM.le_trans ?_ (IM.le_or _ _))), (by repeat (first | exact SubL.nil _ | refine SubL.p0 ?_ | refine SubL.p1 ?_ | refine SubL.p2 ?_ | refine SubL.p3 ?_ | refine SubL.p4 ?_ | refine SubL.p5 ?_ | refine SubL.p6 ?_ | refine SubL.p7 ?_))⟩ ?_
      | refine HoldJ.take 8 rfl (by kernel_rfl) rfl (OpP.neq_bool rfl rfl) ⟨(by repeat (first | exact IM.le_refl _ | assumption | refine IM.le_trans ?_ (IM.le_or _ _))), (by repeat (first | exact SubL.nil _ | refine SubL.p0 ?_ | refine SubL.p1 ?_ | refine SubL.p2 ?_ | refine SubL.p3 ?_ | refine SubL.p4 ?_ | refine SubL.p5 ?_ | refine SubL.p6 ?_ | refine SubL.p7 ?_))⟩ ?_
      | refine HoldJ.take 8 rfl (by kernel_rfl) rfl (OpP.neq_nil rfl rfl) ⟨(by repeat (first | exact IM.le_refl _ | assumption | refine IM.le_trans ?_ (IM.le_or _ _))), (by repeat (first | exact SubL.nil _ | refine SubL.p0 ?_ | refine SubL.p1 ?_ | refine SubL.p2 ?_ | refine SubL.p3 ?_ | refine SubL.p4 ?_ | refine SubL.p5 ?_ | refine SubL.p6 ?_ | refine SubL.p7 ?_))⟩ ?_
      | refine HoldJ.take 8 rfl (by kernel_rfl) rfl (OpP.neq_nil_slice rfl rfl) ⟨(by repeat (first | exact IM.le_refl _ | assumption | refine IM.le_trans ?_ (IM.le_or _ _))), (by repeat (first | exact SubL.nil _ | refine SubL.p0 ?_ | refine SubL.p1 ?_ | refine SubL.p2 ?_ | refine SubL.p3 ?_ | refine SubL.p4 ?_ | refine SubL.p5 ?_ | refine SubL.p6 ?_ | refine SubL.p7 ?_))⟩ ?_
    refine HoldJ.fin (by kernel_rfl) ?_
    rw [clamp_eq]
    repeat (first
      | refine CodeJ.seq' ?_
      | refine CodeJ.region ?_
      | refine CodeJ.block ?_
      | refine CodeJ.skip ?_
      | refine CodeJ.exit rfl ?_
      | refine CodeJ.ret' ?_
      | (refine OpsJ.gsel rfl rfl rfl rfl ?_; first | refine GuardJ.yes (by with_reducible assumption) ?_ | refine GuardJ.no (by with_reducible assumption) ?_ | refine GuardJ.dt rfl (by omega) ?_ | refine GuardJ.nf rfl (by omega) ?_ | refine GuardJ.df rfl (by omega) ?_ | refine GuardJ.nt rfl (by omega) ?_ | refine GuardJ.yes rfl ?_ | refine GuardJ.no rfl ?_)
      | (refine OpsJ.gund rfl rfl rfl rfl ?_)
      | (refine OpsJ.put rfl ?_; first
        | refine OpJ.pure (OpP.assign rfl) ?_
        | refine OpJ.pure (OpP.move rfl) ?_
        | refine OpJ.pure (OpP.len rfl) ?_
        | refine OpJ.pure (OpP.len_string rfl) ?_
        | refine OpJ.pure (OpP.gtr rfl rfl) ?_
        | refine OpJ.alloc (fun _ => ?_)
        | refine OpJ.pure (OpP.not rfl) ?_
        | refine OpJ.pure (OpP.eql rfl rfl) ?_
        | refine OpJ.pure (OpP.eql_string rfl rfl) ?_
        | refine OpJ.pure (OpP.eql_bool rfl rfl) ?_
        | refine OpJ.pure (OpP.eql_nil rfl rfl) ?_
        | refine OpJ.pure (OpP.eql_nil_slice rfl rfl) ?_
        | refine OpJ.pure (OpP.lss rfl rfl) ?_
        | refine OpJ.pure (OpP.add_in rfl rfl (by omega) (by omega)) ?_
        | refine OpJ.pure (OpP.cat rfl rfl (by omega)) ?_
        | refine OpJ.pure (OpP.add rfl rfl) ?_
        | refine OpJ.pure (OpP.pick_t rfl (by with_reducible assumption) rfl) ?_
        | refine OpJ.pure (OpP.pick_f rfl (by with_reducible assumption) rfl) ?_
        | refine OpJ.pure (OpP.pick_dt rfl (by omega) rfl) ?_
        | refine OpJ.pure (OpP.pick_df rfl (by omega) rfl) ?_
        | refine OpJ.pure (OpP.pick_t rfl rfl rfl) ?_
        | refine OpJ.pure (OpP.pick_f rfl rfl rfl) ?_
        | refine OpJ.pure (OpP.pick rfl rfl rfl) ?_)
      | (refine QuietJ.put rfl ?_; first
        | refine OpQ.pure (OpP.move rfl) ?_
        | refine OpQ.pure (OpP.idx1 rfl rfl (by omega) (by omega) (Src.ofR (by with_reducible assumption)) (ne_get (by assumption))) ?_
        | refine OpQ.pure (OpP.idx1 rfl rfl (by omega) (by omega) (Src.ofRow (by repeat (first | exact List.Mem.head _ | apply List.Mem.tail))) (ne_get (by assumption))) ?_
        | refine OpQ.pure (OpP.load_blk (by exact rfl) rfl (by repeat (first | exact List.Mem.head _ | apply List.Mem.tail)) rfl) ?_
        | refine OpQ.pure (OpP.loadN_blk (by exact rfl) rfl (by repeat (first | exact List.Mem.head _ | apply List.Mem.tail)) (by exact rfl)) ?_
        | refine OpQ.pure (OpP.load1 (by exact rfl) rfl (Src.ofR (by with_reducible assumption)) rfl (by assumption)) ?_
        | refine OpQ.pure (OpP.load1 (by exact rfl) rfl (Src.ofRow (by repeat (first | exact List.Mem.head _ | apply List.Mem.tail))) rfl (by assumption)) ?_
        | refine OpQ.pure (OpP.min rfl rfl) ?_
        | refine OpQ.pure (OpP.max rfl rfl) ?_
        | refine OpQ.pure (OpP.neq rfl rfl) ?_
        | refine OpQ.pure (OpP.neq_string rfl rfl) ?_
        | refine OpQ.pure (OpP.neq_bool rfl rfl) ?_
        | refine OpQ.pure (OpP.neq_nil rfl rfl) ?_
        | refine OpQ.pure (OpP.neq_nil_slice rfl rfl) ?_)
      | refine OpsJ.nil ?_
      | refine QuietJ.nil ?_
      | refine CodeJ.cond_t rfl (by with_reducible assumption) ?_
      | refine CodeJ.cond_f rfl (by with_reducible assumption) ?_
      | refine CodeJ.cond_dt rfl (by omega) ?_
      | refine CodeJ.cond_df rfl (by omega) ?_
      | refine CodeJ.cond_t rfl rfl ?_
      | refine CodeJ.cond_f rfl rfl ?_)
    exact ⟨xs.length - (i + 1), _, _, _, by omega, ⟨i + 1, R1.or D1, hs1, by omega, rfl, hR1 _ (IM.le_or _ _), IM.le_trans hle1 (IM.le_or _ _), rfl, rfl⟩, (by repeat (first | exact IM.le_refl _ | assumption | refine IM.le_trans ?_ (IM.le_or _ _))), (by repeat (first | exact SubE.nil _ | refine SubE.cons rfl ?_)), SubL.app _ _⟩
  · repeat (first
      | refine CodeJ.seq' ?_
      | refine CodeJ.region ?_
      | refine CodeJ.block ?_
      | refine CodeJ.skip ?_
      | refine CodeJ.exit rfl ?_
      | refine CodeJ.ret' ?_
      | (refine OpsJ.gsel rfl rfl rfl rfl ?_; first | refine GuardJ.yes (by with_reducible assumption) ?_ | refine GuardJ.no (by with_reducible assumption) ?_ | refine GuardJ.dt rfl (by omega) ?_ | refine GuardJ.nf rfl (by omega) ?_ | refine GuardJ.df rfl (by omega) ?_ | refine GuardJ.nt rfl (by omega) ?_ | refine GuardJ.yes rfl ?_ | refine GuardJ.no rfl ?_)
      | (refine OpsJ.gund rfl rfl rfl rfl ?_)
      | (refine OpsJ.put rfl ?_; first
        | refine OpJ.pure (OpP.assign rfl) ?_
        | refine OpJ.pure (OpP.move rfl) ?_
        | refine OpJ.pure (OpP.len rfl) ?_
        | refine OpJ.pure (OpP.len_string rfl) ?_
        | refine OpJ.pure (OpP.gtr rfl rfl) ?_
        | refine OpJ.alloc (fun _ => ?_)
        | refine OpJ.pure (OpP.not rfl) ?_
        | refine OpJ.pure (OpP.eql rfl rfl) ?_
        | refine OpJ.pure (OpP.eql_string rfl rfl) ?_
        | refine OpJ.pure (OpP.eql_bool rfl rfl) ?_
        | refine OpJ.pure (OpP.eql_nil rfl rfl) ?_
        | refine OpJ.pure (OpP.eql_nil_slice rfl rfl) ?_
        | refine OpJ.pure (OpP.lss rfl rfl) ?_
        | refine OpJ.pure (OpP.add_in rfl rfl (by omega) (by omega)) ?_
        | refine OpJ.pure (OpP.cat rfl rfl (by omega)) ?_
        | refine OpJ.pure (OpP.add rfl rfl) ?_
        | refine OpJ.pure (OpP.pick_t rfl (by with_reducible assumption) rfl) ?_
        | refine OpJ.pure (OpP.pick_f rfl (by with_reducible assumption) rfl) ?_
        | refine OpJ.pure (OpP.pick_dt rfl (by omega) rfl) ?_
        | refine OpJ.pure (OpP.pick_df rfl (by omega) rfl) ?_
        | refine OpJ.pure (OpP.pick_t rfl rfl rfl) ?_
        | refine OpJ.pure (OpP.pick_f rfl rfl rfl) ?_
        | refine OpJ.pure (OpP.pick rfl rfl rfl) ?_)
      | (refine QuietJ.put rfl ?_; first
        | refine OpQ.pure (OpP.move rfl) ?_
        | refine OpQ.pure (OpP.idx1 rfl rfl (by omega) (by omega) (Src.ofR (by with_reducible assumption)) (ne_get (by assumption))) ?_
        | refine OpQ.pure (OpP.idx1 rfl rfl (by omega) (by omega) (Src.ofRow (by repeat (first | exact List.Mem.head _ | apply List.Mem.tail))) (ne_get (by assumption))) ?_
        | refine OpQ.pure (OpP.load_blk (by exact rfl) rfl (by repeat (first | exact List.Mem.head _ | apply List.Mem.tail)) rfl) ?_
        | refine OpQ.pure (OpP.loadN_blk (by exact rfl) rfl (by repeat (first | exact List.Mem.head _ | apply List.Mem.tail)) (by exact rfl)) ?_
        | refine OpQ.pure (OpP.load1 (by exact rfl) rfl (Src.ofR (by with_reducible assumption)) rfl (by assumption)) ?_
        | refine OpQ.pure (OpP.load1 (by exact rfl) rfl (Src.ofRow (by repeat (first | exact List.Mem.head _ | apply List.Mem.tail))) rfl (by assumption)) ?_
        | refine OpQ.pure (OpP.min rfl rfl) ?_
        | refine OpQ.pure (OpP.max rfl rfl) ?_
        | refine OpQ.pure (OpP.neq rfl rfl) ?_
        | refine OpQ.pure (OpP.neq_string rfl rfl) ?_
        | refine OpQ.pure (OpP.neq_bool rfl rfl) ?_
        | refine OpQ.pure (OpP.neq_nil rfl rfl) ?_
        | refine OpQ.pure (OpP.neq_nil_slice rfl rfl) ?_)
      | refine OpsJ.nil ?_
      | refine QuietJ.nil ?_
      | refine CodeJ.cond_t rfl (by with_reducible assumption) ?_
      | refine CodeJ.cond_f rfl (by with_reducible assumption) ?_
      | refine CodeJ.cond_dt rfl (by omega) ?_
      | refine CodeJ.cond_df rfl (by omega) ?_
      | refine CodeJ.cond_t rfl rfl ?_
      | refine CodeJ.cond_f rfl rfl ?_)
    refine OpsJ.put (d := 42) rfl (OpJ.call rfl (Split.whole h1) (fun R' hle hin => good_calls R' g9 _ _ _ (hrd.mono hle)) ?_)
    rintro v D1 hs1 hdd ⟨rfl, he⟩
    subst he
    repeat (first
      | refine CodeJ.seq' ?_
      | refine CodeJ.region ?_
      | refine CodeJ.block ?_
      | refine CodeJ.skip ?_
      | refine CodeJ.exit rfl ?_
      | refine CodeJ.ret' ?_
      | (refine OpsJ.gsel rfl rfl rfl rfl ?_; first | refine GuardJ.yes (by with_reducible assumption) ?_ | refine GuardJ.no (by with_reducible assumption) ?_ | refine GuardJ.dt rfl (by omega) ?_ | refine GuardJ.nf rfl (by omega) ?_ | refine GuardJ.df rfl (by omega) ?_ | refine GuardJ.nt rfl (by omega) ?_ | refine GuardJ.yes rfl ?_ | refine GuardJ.no rfl ?_)
      | (refine OpsJ.gund rfl rfl rfl rfl ?_)
      | (refine OpsJ.put rfl ?_; first
        | refine OpJ.pure (OpP.assign rfl) ?_
        | refine OpJ.pure (OpP.move rfl) ?_
        | refine OpJ.pure (OpP.len rfl) ?_
        | refine OpJ.pure (OpP.len_string rfl) ?_
        | refine OpJ.pure (OpP.gtr rfl rfl) ?_
        | refine OpJ.alloc (fun _ => ?_)
        | refine OpJ.pure (OpP.not rfl) ?_
        | refine OpJ.pure (OpP.eql rfl rfl) ?_
        | refine OpJ.pure (OpP.eql_string rfl rfl) ?_
        | refine OpJ.pure (OpP.eql_bool rfl rfl) ?_
        | refine OpJ.pure (OpP.eql_nil rfl rfl) ?_
        | refine OpJ.pure (OpP.eql_nil_slice rfl rfl) ?_
        | refine OpJ.pure (OpP.lss rfl rfl) ?_
        | refine OpJ.pure (OpP.add_in rfl rfl (by omega) (by omega)) ?_
        | refine OpJ.pure (OpP.cat rfl rfl (by omega)) ?_
        | refine OpJ.pure (OpP.add rfl rfl) ?_
        | refine OpJ.pure (OpP.pick_t rfl (by with_reducible assumption) rfl) ?_
        | refine OpJ.pure (OpP.pick_f rfl (by with_reducible assumption) rfl) ?_
        | refine OpJ.pure (OpP.pick_dt rfl (by omega) rfl) ?_
        | refine OpJ.pure (OpP.pick_df rfl (by omega) rfl) ?_
        | refine OpJ.pure (OpP.pick_t rfl rfl rfl) ?_
        | refine OpJ.pure (OpP.pick_f rfl rfl rfl) ?_
        | refine OpJ.pure (OpP.pick rfl rfl rfl) ?_)
      | (refine QuietJ.put rfl ?_; first
        | refine OpQ.pure (OpP.move rfl) ?_
        | refine OpQ.pure (OpP.idx1 rfl rfl (by omega) (by omega) (Src.ofR (by with_reducible assumption)) (ne_get (by assumption))) ?_
        | refine OpQ.pure (OpP.idx1 rfl rfl (by omega) (by omega) (Src.ofRow (by repeat (first | exact List.Mem.head _ | apply List.Mem.tail))) (ne_get (by assumption))) ?_
        | refine OpQ.pure (OpP.load_blk (by exact rfl) rfl (by repeat (first | exact List.Mem.head _ | apply List.Mem.tail)) rfl) ?_
        | refine OpQ.pure (OpP.loadN_blk (by exact rfl) rfl (by repeat (first | exact List.Mem.head _ | apply List.Mem.tail)) (by exact rfl)) ?_
        | refine OpQ.pure (OpP.load1 (by exact rfl) rfl (Src.ofR (by with_reducible assumption)) rfl (by assumption)) ?_
        | refine OpQ.pure (OpP.load1 (by exact rfl) rfl (Src.ofRow (by repeat (first | exact List.Mem.head _ | apply List.Mem.tail))) rfl (by assumption)) ?_
        | refine OpQ.pure (OpP.min rfl rfl) ?_
        | refine OpQ.pure (OpP.max rfl rfl) ?_
        | refine OpQ.pure (OpP.neq rfl rfl) ?_
        | refine OpQ.pure (OpP.neq_string rfl rfl) ?_
        | refine OpQ.pure (OpP.neq_bool rfl rfl) ?_
        | refine OpQ.pure (OpP.neq_nil rfl rfl) ?_
        | refine OpQ.pure (OpP.neq_nil_slice rfl rfl) ?_)
      | refine OpsJ.nil ?_
      | refine QuietJ.nil ?_
      | refine CodeJ.cond_t rfl (by with_reducible assumption) ?_
      | refine CodeJ.cond_f rfl (by with_reducible assumption) ?_
      | refine CodeJ.cond_dt rfl (by omega) ?_
      | refine CodeJ.cond_df rfl (by omega) ?_
      | refine CodeJ.cond_t rfl rfl ?_
      | refine CodeJ.cond_f rfl rfl ?_)
    refine OpsJ.put (d := 45) rfl (OpJ.call rfl (Split.all _ _ : Split _ (_ ++ []) []) (fun R' hle hin => whole_calls R' g9 _ _ _ ((hrd.mono (IM.le_or _ _)).mono hle)) ?_)
    rintro v D2 hs1 hdd2 ⟨rfl, he⟩
    have hil : i = xs.length := by omega
    rw [hil, List.drop_length, decide_eq_true (show encs [] = [] from rfl)]
    repeat (first
      | refine CodeJ.seq' ?_
      | refine CodeJ.region ?_
      | refine CodeJ.block ?_
      | refine CodeJ.skip ?_
      | refine CodeJ.exit rfl ?_
      | refine CodeJ.ret' ?_
      | (refine OpsJ.gsel rfl rfl rfl rfl ?_; first | refine GuardJ.yes (by with_reducible assumption) ?_ | refine GuardJ.no (by with_reducible assumption) ?_ | refine GuardJ.dt rfl (by omega) ?_ | refine GuardJ.nf rfl (by omega) ?_ | refine GuardJ.df rfl (by omega) ?_ | refine GuardJ.nt rfl (by omega) ?_ | refine GuardJ.yes rfl ?_ | refine GuardJ.no rfl ?_)
      | (refine OpsJ.gund rfl rfl rfl rfl ?_)
      | (refine OpsJ.put rfl ?_; first
        | refine OpJ.pure (OpP.assign rfl) ?_
        | refine OpJ.pure (OpP.move rfl) ?_
        | refine OpJ.pure (OpP.len rfl) ?_
        | refine OpJ.pure (OpP.len_string rfl) ?_
        | refine OpJ.pure (OpP.gtr rfl rfl) ?_
        | refine OpJ.alloc (fun _ => ?_)
        | refine OpJ.pure (OpP.not rfl) ?_
        | refine OpJ.pure (OpP.eql rfl rfl) ?_
        | refine OpJ.pure (OpP.eql_string rfl rfl) ?_
        | refine OpJ.pure (OpP.eql_bool rfl rfl) ?_
        | refine OpJ.pure (OpP.eql_nil rfl rfl) ?_
        | refine OpJ.pure (OpP.eql_nil_slice rfl rfl) ?_
        | refine OpJ.pure (OpP.lss rfl rfl) ?_
        | refine OpJ.pure (OpP.add_in rfl rfl (by omega) (by omega)) ?_
        | refine OpJ.pure (OpP.cat rfl rfl (by omega)) ?_
        | refine OpJ.pure (OpP.add rfl rfl) ?_
        | refine OpJ.pure (OpP.pick_t rfl (by with_reducible assumption) rfl) ?_
        | refine OpJ.pure (OpP.pick_f rfl (by with_reducible assumption) rfl) ?_
        | refine OpJ.pure (OpP.pick_dt rfl (by omega) rfl) ?_
        | refine OpJ.pure (OpP.pick_df rfl (by omega) rfl) ?_
        | refine OpJ.pure (OpP.pick_t rfl rfl rfl) ?_
        | refine OpJ.pure (OpP.pick_f rfl rfl rfl) ?_
        | refine OpJ.pure (OpP.pick rfl rfl rfl) ?_)
      | (refine QuietJ.put rfl ?_; first
        | refine OpQ.pure (OpP.move rfl) ?_
        | refine OpQ.pure (OpP.idx1 rfl rfl (by omega) (by omega) (Src.ofR (by with_reducible assumption)) (ne_get (by assumption))) ?_
        | refine OpQ.pure (OpP.idx1 rfl rfl (by omega) (by omega) (Src.ofRow (by repeat (first | exact List.Mem.head _ | apply List.Mem.tail))) (ne_get (by assumption))) ?_
        | refine OpQ.pure (OpP.load_blk (by exact rfl) rfl (by repeat (first | exact List.Mem.head _ | apply List.Mem.tail)) rfl) ?_
        | refine OpQ.pure (OpP.loadN_blk (by exact rfl) rfl (by repeat (first | exact List.Mem.head _ | apply List.Mem.tail)) (by exact rfl)) ?_
        | refine OpQ.pure (OpP.load1 (by exact rfl) rfl (Src.ofR (by with_reducible assumption)) rfl (by assumption)) ?_
        | refine OpQ.pure (OpP.load1 (by exact rfl) rfl (Src.ofRow (by repeat (first | exact List.Mem.head _ | apply List.Mem.tail))) rfl (by assumption)) ?_
        | refine OpQ.pure (OpP.min rfl rfl) ?_
        | refine OpQ.pure (OpP.max rfl rfl) ?_
        | refine OpQ.pure (OpP.neq rfl rfl) ?_
        | refine OpQ.pure (OpP.neq_string rfl rfl) ?_
        | refine OpQ.pure (OpP.neq_bool rfl rfl) ?_
        | refine OpQ.pure (OpP.neq_nil rfl rfl) ?_
        | refine OpQ.pure (OpP.neq_nil_slice rfl rfl) ?_)
      | refine OpsJ.nil ?_
      | refine QuietJ.nil ?_
      | refine CodeJ.cond_t rfl (by with_reducible assumption) ?_
      | refine CodeJ.cond_f rfl (by with_reducible assumption) ?_
      | refine CodeJ.cond_dt rfl (by omega) ?_
      | refine CodeJ.cond_df rfl (by omega) ?_
      | refine CodeJ.cond_t rfl rfl ?_
      | refine CodeJ.cond_f rfl rfl ?_)
    refine OpsJ.put (d := 48) rfl (OpJ.call (pass := []) rfl Split.nil (fun R' hle hin => known_calls R') ?_)
    rintro v D3 hs3 hdd3 ⟨rfl, rfl⟩
    repeat (first
      | refine CodeJ.seq' ?_
      | refine CodeJ.region ?_
      | refine CodeJ.block ?_
      | refine CodeJ.skip ?_
      | refine CodeJ.exit rfl ?_
      | refine CodeJ.ret' ?_
      | (refine OpsJ.gsel rfl rfl rfl rfl ?_; first | refine GuardJ.yes (by with_reducible assumption) ?_ | refine GuardJ.no (by with_reducible assumption) ?_ | refine GuardJ.dt rfl (by omega) ?_ | refine GuardJ.nf rfl (by omega) ?_ | refine GuardJ.df rfl (by omega) ?_ | refine GuardJ.nt rfl (by omega) ?_ | refine GuardJ.yes rfl ?_ | refine GuardJ.no rfl ?_)
      | (refine OpsJ.gund rfl rfl rfl rfl ?_)
      | (refine OpsJ.put rfl ?_; first
        | refine OpJ.pure (OpP.assign rfl) ?_
        | refine OpJ.pure (OpP.move rfl) ?_
        | refine OpJ.pure (OpP.len rfl) ?_
        | refine OpJ.pure (OpP.len_string rfl) ?_
        | refine OpJ.pure (OpP.gtr rfl rfl) ?_
        | refine OpJ.alloc (fun _ => ?_)
        | refine OpJ.pure (OpP.not rfl) ?_
        | refine OpJ.pure (OpP.eql rfl rfl) ?_
        | refine OpJ.pure (OpP.eql_string rfl rfl) ?_
        | refine OpJ.pure (OpP.eql_bool rfl rfl) ?_
        | refine OpJ.pure (OpP.eql_nil rfl rfl) ?_
        | refine OpJ.pure (OpP.eql_nil_slice rfl rfl) ?_
        | refine OpJ.pure (OpP.lss rfl rfl) ?_
        | refine OpJ.pure (OpP.add_in rfl rfl (by omega) (by omega)) ?_
        | refine OpJ.pure (OpP.cat rfl rfl (by omega)) ?_
        | refine OpJ.pure (OpP.add rfl rfl) ?_
        | refine OpJ.pure (OpP.pick_t rfl (by with_reducible assumption) rfl) ?_
        | refine OpJ.pure (OpP.pick_f rfl (by with_reducible assumption) rfl) ?_
        | refine OpJ.pure (OpP.pick_dt rfl (by omega) rfl) ?_
        | refine OpJ.pure (OpP.pick_df rfl (by omega) rfl) ?_
        | refine OpJ.pure (OpP.pick_t rfl rfl rfl) ?_
        | refine OpJ.pure (OpP.pick_f rfl rfl rfl) ?_
        | refine OpJ.pure (OpP.pick rfl rfl rfl) ?_)
      | (refine QuietJ.put rfl ?_; first
        | refine OpQ.pure (OpP.move rfl) ?_
        | refine OpQ.pure (OpP.idx1 rfl rfl (by omega) (by omega) (Src.ofR (by with_reducible assumption)) (ne_get (by assumption))) ?_
        | refine OpQ.pure (OpP.idx1 rfl rfl (by omega) (by omega) (Src.ofRow (by repeat (first | exact List.Mem.head _ | apply List.Mem.tail))) (ne_get (by assumption))) ?_
        | refine OpQ.pure (OpP.load_blk (by exact rfl) rfl (by repeat (first | exact List.Mem.head _ | apply List.Mem.tail)) rfl) ?_
        | refine OpQ.pure (OpP.loadN_blk (by exact rfl) rfl (by repeat (first | exact List.Mem.head _ | apply List.Mem.tail)) (by exact rfl)) ?_
        | refine OpQ.pure (OpP.load1 (by exact rfl) rfl (Src.ofR (by with_reducible assumption)) rfl (by assumption)) ?_
        | refine OpQ.pure (OpP.load1 (by exact rfl) rfl (Src.ofRow (by repeat (first | exact List.Mem.head _ | apply List.Mem.tail))) rfl (by assumption)) ?_
        | refine OpQ.pure (OpP.min rfl rfl) ?_
        | refine OpQ.pure (OpP.max rfl rfl) ?_
        | refine OpQ.pure (OpP.neq rfl rfl) ?_
        | refine OpQ.pure (OpP.neq_string rfl rfl) ?_
        | refine OpQ.pure (OpP.neq_bool rfl rfl) ?_
        | refine OpQ.pure (OpP.neq_nil rfl rfl) ?_
        | refine OpQ.pure (OpP.neq_nil_slice rfl rfl) ?_)
      | refine OpsJ.nil ?_
      | refine QuietJ.nil ?_
      | refine CodeJ.cond_t rfl (by with_reducible assumption) ?_
      | refine CodeJ.cond_f rfl (by with_reducible assumption) ?_
      | refine CodeJ.cond_dt rfl (by omega) ?_
      | refine CodeJ.cond_df rfl (by omega) ?_
      | refine CodeJ.cond_t rfl rfl ?_
      | refine CodeJ.cond_f rfl rfl ?_)
    exact Ret.mk0 rfl (ResJ.one Try.results4 rfl) (by repeat (first | exact IM.le_refl _ | assumption | refine IM.le_trans ?_ (IM.le_or _ _))) (SubL.nil _)
end Go.Proofs.Ytdicpnnmhjgnbaa.FW
