/- The reference's numbers as bytes; bytes that are written over. -/
import Derived.Test.YtdicpnnmhjgnbaaOc4
namespace Go.Proofs.Ytdicpnnmhjgnbaa.FW
open Go Go.RowKit Go.Proofs
set_option linter.unusedVariables false
set_option linter.unusedSimpArgs false
set_option maxRecDepth 100000
set_option maxHeartbeats 4000000
attribute [local irreducible] OpsJ CodeJ OpJ OpQ OpP QuietJ CallJ Src RC
theorem byte_more' (u : Nat) : IntKind.u8.wrap ((BitVec.ofInt IntKind.u8.bits ((u &&& 127 : Nat) : Int) ||| BitVec.ofInt IntKind.u8.bits 128).toNat : Int) = ((UInt8.ofNat (u % 128 + 128)).toNat : Int) := by
  have h := byte_more (u % 128)
  have h1 : u &&& 127 = u % 128 := by
    have := Nat.and_two_pow_sub_one_eq_mod u 7
    simpa using this
  have h2 : IntKind.u8.wrap ((u % 128 : Nat) : Int) = ((u % 128 : Nat) : Int) := IntWalk.u8_in _ (by omega)
  rw [h2] at h
  rw [h1, h, Nat.mod_mod]
theorem refnum_calls (R : IM) (v : Int) (hv : -9223372036854775808 ≤ v ∧ v ≤ 9223372036854775807) :
    CallJ Try.prog 58 #[.int .i64 v] ⟨R, []⟩ (fun u D hs' => ∃ A m c cs, u = .slice A m c ∧ m = (enc (clamp v)).length ∧ cs = bcells (enc (clamp v)) ∧ hs' = [.row 5 1 A m c cs]) := by
  refine CallJ.of1 Try.func58 rfl Try.ntmps58 rfl (fun W0 => ?_)
  refine CodeJ.nilrow 5 1 ?_
  have hcl := clamp_le v
  have hlen := enc_clamp_length v
  repeat (first
    | refine CodeJ.seq' ?_
    | refine CodeJ.region ?_
    | refine CodeJ.block ?_
    | refine CodeJ.skip ?_
    | refine CodeJ.exit rfl ?_
    | refine CodeJ.ret' ?_
    | (refine OpsJ.put (d := 10) rfl ?_; refine OpJ.conv_bytes rfl (by first | exact List.Perm.refl _ | exact List.Perm.swap _ _ _ | exact permm2 _ _ _ _ | exact permm3 _ _ _ _ _ | exact permm4 _ _ _ _ _ _ | exact permm5 _ _ _ _ _ _ _) (fun D10 hdis10 hrc10 => ?_))
    | (refine OpsJ.put (d := 10) rfl ?_; refine OpJ.conv_string_bytes rfl (fun A10 c10 D10 hdis10 hrc10 hcap10 => ?_))
    | (refine OpsJ.put (d := 16) rfl ?_; refine OpJ.conv_bytes rfl (by first | exact List.Perm.refl _ | exact List.Perm.swap _ _ _ | exact permm2 _ _ _ _ | exact permm3 _ _ _ _ _ | exact permm4 _ _ _ _ _ _ | exact permm5 _ _ _ _ _ _ _) (fun D16 hdis16 hrc16 => ?_))
    | (refine OpsJ.put (d := 16) rfl ?_; refine OpJ.conv_string_bytes rfl (fun A16 c16 D16 hdis16 hrc16 hcap16 => ?_))
    | (refine OpsJ.put (d := 24) rfl ?_; refine OpJ.conv_bytes rfl (by first | exact List.Perm.refl _ | exact List.Perm.swap _ _ _ | exact permm2 _ _ _ _ | exact permm3 _ _ _ _ _ | exact permm4 _ _ _ _ _ _ | exact permm5 _ _ _ _ _ _ _) (fun D24 hdis24 hrc24 => ?_))
    | (refine OpsJ.put (d := 24) rfl ?_; refine OpJ.conv_string_bytes rfl (fun A24 c24 D24 hdis24 hrc24 hcap24 => ?_))
    | (refine OpsJ.put rfl ?_; first
      | refine OpJ.pure (OpP.assign rfl) ?_
      | refine OpJ.pure (OpP.move rfl) ?_
      | refine OpJ.pure (OpP.gtr rfl rfl) ?_
      | refine OpJ.pure (OpP.conv_in rfl (by first | exact IntWalk.i64_in _ (by omega) | exact IntWalk.u8_in _ (by omega) | exact IntWalk.u32_in _ (by omega) | exact wrap_u64_in _ (by omega))) ?_
      | refine OpJ.pure (OpP.conv_int rfl) ?_
      | refine OpJ.pure (OpP.conv_string rfl) ?_
      | refine OpJ.pure (OpP.geq rfl rfl) ?_
      | refine OpJ.pure (OpP.and_nat rfl rfl rfl (by first | with_reducible assumption | assumption | decide | exact lt_b32 (by omega) | exact lt_b8 (by omega) | exact lt_b64 (by omega)) (by first | with_reducible assumption | assumption | decide | exact lt_b32 (by omega) | exact lt_b8 (by omega) | exact lt_b64 (by omega))) ?_
      | refine OpJ.pure (OpP.and rfl rfl) ?_
      | refine OpJ.pure (OpP.or_nat rfl rfl rfl (by first | with_reducible assumption | assumption | decide | exact lt_b32 (by omega) | exact lt_b8 (by omega) | exact lt_b64 (by omega)) (by first | with_reducible assumption | assumption | decide | exact lt_b32 (by omega) | exact lt_b8 (by omega) | exact lt_b64 (by omega))) ?_
      | refine OpJ.pure (OpP.or rfl rfl) ?_
      | (refine OpJ.buildSlice rfl rfl (by exact rfl) (by exact rfl) rfl (fun _ => ?_); dsimp only [lsplice, take1, take2, take3, take4, drop1, drop2, drop3, drop4, List.take_zero, List.drop_zero, List.cons_append, List.nil_append, List.length_cons, List.length_nil, Nat.reduceAdd, fillL, sliceL, Value.cells, List.toList_toArray, List.append_nil, List.getElem?_cons_zero, get1, get2, get3, Option.getD_some])
      | refine OpJ.append rfl rfl (by first | exact List.Perm.refl _ | exact List.Perm.swap _ _ _ | exact permm2 _ _ _ _ | exact permm3 _ _ _ _ _ | exact permm4 _ _ _ _ _ _ | exact permm5 _ _ _ _ _ _ _) (Src.ofRow (by repeat (first | exact List.Mem.head _ | apply List.Mem.tail))) (by exact rfl) (by exact rfl) (by exact rfl) (by exact rfl) (by omega) (by omega) (fun _ _ => ?_)
      | refine OpJ.pure (OpP.shr_nat rfl rfl rfl) ?_
      | refine OpJ.pure (OpP.shr rfl rfl (by omega)) ?_)
    | refine OpsJ.nil ?_
    | refine CodeJ.cond_t rfl (by with_reducible assumption) ?_
    | refine CodeJ.cond_f rfl (by with_reducible assumption) ?_
    | refine CodeJ.cond_dt rfl (by omega) ?_
    | refine CodeJ.cond_df rfl (by omega) ?_
    | refine CodeJ.cond_t rfl rfl ?_
    | refine CodeJ.cond_f rfl rfl ?_)
  refine CodeJ.mid (fun e s => e = [(3, .int .u64 (clamp v : Int))] ∧ s = ⟨R, [.row 5 1 none 0 0 []]⟩) ?_ ?_
  · refine CodeJ.cond_d rfl (fun hc => ?_) (fun hc => ?_)
    · have hv2 : clamp v = 4611686018427387904 := by unfold clamp; omega
      repeat (first
        | refine CodeJ.seq' ?_
        | refine CodeJ.region ?_
        | refine CodeJ.block ?_
        | refine CodeJ.skip ?_
        | refine CodeJ.exit rfl ?_
        | refine CodeJ.ret' ?_
        | (refine OpsJ.put (d := 10) rfl ?_; refine OpJ.conv_bytes rfl (by first | exact List.Perm.refl _ | exact List.Perm.swap _ _ _ | exact permm2 _ _ _ _ | exact permm3 _ _ _ _ _ | exact permm4 _ _ _ _ _ _ | exact permm5 _ _ _ _ _ _ _) (fun D10 hdis10 hrc10 => ?_))
        | (refine OpsJ.put (d := 10) rfl ?_; refine OpJ.conv_string_bytes rfl (fun A10 c10 D10 hdis10 hrc10 hcap10 => ?_))
        | (refine OpsJ.put (d := 16) rfl ?_; refine OpJ.conv_bytes rfl (by first | exact List.Perm.refl _ | exact List.Perm.swap _ _ _ | exact permm2 _ _ _ _ | exact permm3 _ _ _ _ _ | exact permm4 _ _ _ _ _ _ | exact permm5 _ _ _ _ _ _ _) (fun D16 hdis16 hrc16 => ?_))
        | (refine OpsJ.put (d := 16) rfl ?_; refine OpJ.conv_string_bytes rfl (fun A16 c16 D16 hdis16 hrc16 hcap16 => ?_))
        | (refine OpsJ.put (d := 24) rfl ?_; refine OpJ.conv_bytes rfl (by first | exact List.Perm.refl _ | exact List.Perm.swap _ _ _ | exact permm2 _ _ _ _ | exact permm3 _ _ _ _ _ | exact permm4 _ _ _ _ _ _ | exact permm5 _ _ _ _ _ _ _) (fun D24 hdis24 hrc24 => ?_))
        | (refine OpsJ.put (d := 24) rfl ?_; refine OpJ.conv_string_bytes rfl (fun A24 c24 D24 hdis24 hrc24 hcap24 => ?_))
        | (refine OpsJ.put rfl ?_; first
          | refine OpJ.pure (OpP.assign rfl) ?_
          | refine OpJ.pure (OpP.move rfl) ?_
          | refine OpJ.pure (OpP.gtr rfl rfl) ?_
          | refine OpJ.pure (OpP.conv_in rfl (by first | exact IntWalk.i64_in _ (by omega) | exact IntWalk.u8_in _ (by omega) | exact IntWalk.u32_in _ (by omega) | exact wrap_u64_in _ (by omega))) ?_
          | refine OpJ.pure (OpP.conv_int rfl) ?_
          | refine OpJ.pure (OpP.conv_string rfl) ?_
          | refine OpJ.pure (OpP.geq rfl rfl) ?_
          | refine OpJ.pure (OpP.and_nat rfl rfl rfl (by first | with_reducible assumption | assumption | decide | exact lt_b32 (by omega) | exact lt_b8 (by omega) | exact lt_b64 (by omega)) (by first | with_reducible assumption | assumption | decide | exact lt_b32 (by omega) | exact lt_b8 (by omega) | exact lt_b64 (by omega))) ?_
          | refine OpJ.pure (OpP.and rfl rfl) ?_
          | refine OpJ.pure (OpP.or_nat rfl rfl rfl (by first | with_reducible assumption | assumption | decide | exact lt_b32 (by omega) | exact lt_b8 (by omega) | exact lt_b64 (by omega)) (by first | with_reducible assumption | assumption | decide | exact lt_b32 (by omega) | exact lt_b8 (by omega) | exact lt_b64 (by omega))) ?_
          | refine OpJ.pure (OpP.or rfl rfl) ?_
          | (refine OpJ.buildSlice rfl rfl (by exact rfl) (by exact rfl) rfl (fun _ => ?_); dsimp only [lsplice, take1, take2, take3, take4, drop1, drop2, drop3, drop4, List.take_zero, List.drop_zero, List.cons_append, List.nil_append, List.length_cons, List.length_nil, Nat.reduceAdd, fillL, sliceL, Value.cells, List.toList_toArray, List.append_nil, List.getElem?_cons_zero, get1, get2, get3, Option.getD_some])
          | refine OpJ.append rfl rfl (by first | exact List.Perm.refl _ | exact List.Perm.swap _ _ _ | exact permm2 _ _ _ _ | exact permm3 _ _ _ _ _ | exact permm4 _ _ _ _ _ _ | exact permm5 _ _ _ _ _ _ _) (Src.ofRow (by repeat (first | exact List.Mem.head _ | apply List.Mem.tail))) (by exact rfl) (by exact rfl) (by exact rfl) (by exact rfl) (by omega) (by omega) (fun _ _ => ?_)
          | refine OpJ.pure (OpP.shr_nat rfl rfl rfl) ?_
          | refine OpJ.pure (OpP.shr rfl rfl (by omega)) ?_)
        | refine OpsJ.nil ?_
        | refine CodeJ.cond_t rfl (by with_reducible assumption) ?_
        | refine CodeJ.cond_f rfl (by with_reducible assumption) ?_
        | refine CodeJ.cond_dt rfl (by omega) ?_
        | refine CodeJ.cond_df rfl (by omega) ?_
        | refine CodeJ.cond_t rfl rfl ?_
        | refine CodeJ.cond_f rfl rfl ?_)
      refine ⟨_, _, _, ⟨rfl, rfl⟩, (by repeat (first | exact IM.le_refl _ | assumption | refine IM.le_trans ?_ (IM.le_or _ _))), ?_, (by repeat (first | exact SubL.nil _ | refine SubL.p0 ?_ | refine SubL.p1 ?_ | refine SubL.p2 ?_ | refine SubL.p3 ?_ | refine SubL.p4 ?_ | refine SubL.p5 ?_ | refine SubL.p6 ?_ | refine SubL.p7 ?_))⟩
      rw [hv2]; exact (by repeat (first | exact SubE.nil _ | refine SubE.cons rfl ?_))
    · repeat (first
        | refine CodeJ.seq' ?_
        | refine CodeJ.region ?_
        | refine CodeJ.block ?_
        | refine CodeJ.skip ?_
        | refine CodeJ.exit rfl ?_
        | refine CodeJ.ret' ?_
        | (refine OpsJ.put (d := 10) rfl ?_; refine OpJ.conv_bytes rfl (by first | exact List.Perm.refl _ | exact List.Perm.swap _ _ _ | exact permm2 _ _ _ _ | exact permm3 _ _ _ _ _ | exact permm4 _ _ _ _ _ _ | exact permm5 _ _ _ _ _ _ _) (fun D10 hdis10 hrc10 => ?_))
        | (refine OpsJ.put (d := 10) rfl ?_; refine OpJ.conv_string_bytes rfl (fun A10 c10 D10 hdis10 hrc10 hcap10 => ?_))
        | (refine OpsJ.put (d := 16) rfl ?_; refine OpJ.conv_bytes rfl (by first | exact List.Perm.refl _ | exact List.Perm.swap _ _ _ | exact permm2 _ _ _ _ | exact permm3 _ _ _ _ _ | exact permm4 _ _ _ _ _ _ | exact permm5 _ _ _ _ _ _ _) (fun D16 hdis16 hrc16 => ?_))
        | (refine OpsJ.put (d := 16) rfl ?_; refine OpJ.conv_string_bytes rfl (fun A16 c16 D16 hdis16 hrc16 hcap16 => ?_))
        | (refine OpsJ.put (d := 24) rfl ?_; refine OpJ.conv_bytes rfl (by first | exact List.Perm.refl _ | exact List.Perm.swap _ _ _ | exact permm2 _ _ _ _ | exact permm3 _ _ _ _ _ | exact permm4 _ _ _ _ _ _ | exact permm5 _ _ _ _ _ _ _) (fun D24 hdis24 hrc24 => ?_))
        | (refine OpsJ.put (d := 24) rfl ?_; refine OpJ.conv_string_bytes rfl (fun A24 c24 D24 hdis24 hrc24 hcap24 => ?_))
        | (refine OpsJ.put rfl ?_; first
          | refine OpJ.pure (OpP.assign rfl) ?_
          | refine OpJ.pure (OpP.move rfl) ?_
          | refine OpJ.pure (OpP.gtr rfl rfl) ?_
          | refine OpJ.pure (OpP.conv_in rfl (by first | exact IntWalk.i64_in _ (by omega) | exact IntWalk.u8_in _ (by omega) | exact IntWalk.u32_in _ (by omega) | exact wrap_u64_in _ (by omega))) ?_
          | refine OpJ.pure (OpP.conv_int rfl) ?_
          | refine OpJ.pure (OpP.conv_string rfl) ?_
          | refine OpJ.pure (OpP.geq rfl rfl) ?_
          | refine OpJ.pure (OpP.and_nat rfl rfl rfl (by first | with_reducible assumption | assumption | decide | exact lt_b32 (by omega) | exact lt_b8 (by omega) | exact lt_b64 (by omega)) (by first | with_reducible assumption | assumption | decide | exact lt_b32 (by omega) | exact lt_b8 (by omega) | exact lt_b64 (by omega))) ?_
          | refine OpJ.pure (OpP.and rfl rfl) ?_
          | refine OpJ.pure (OpP.or_nat rfl rfl rfl (by first | with_reducible assumption | assumption | decide | exact lt_b32 (by omega) | exact lt_b8 (by omega) | exact lt_b64 (by omega)) (by first | with_reducible assumption | assumption | decide | exact lt_b32 (by omega) | exact lt_b8 (by omega) | exact lt_b64 (by omega))) ?_
          | refine OpJ.pure (OpP.or rfl rfl) ?_
          | (refine OpJ.buildSlice rfl rfl (by exact rfl) (by exact rfl) rfl (fun _ => ?_); dsimp only [lsplice, take1, take2, take3, take4, drop1, drop2, drop3, drop4, List.take_zero, List.drop_zero, List.cons_append, List.nil_append, List.length_cons, List.length_nil, Nat.reduceAdd, fillL, sliceL, Value.cells, List.toList_toArray, List.append_nil, List.getElem?_cons_zero, get1, get2, get3, Option.getD_some])
          | refine OpJ.append rfl rfl (by first | exact List.Perm.refl _ | exact List.Perm.swap _ _ _ | exact permm2 _ _ _ _ | exact permm3 _ _ _ _ _ | exact permm4 _ _ _ _ _ _ | exact permm5 _ _ _ _ _ _ _) (Src.ofRow (by repeat (first | exact List.Mem.head _ | apply List.Mem.tail))) (by exact rfl) (by exact rfl) (by exact rfl) (by exact rfl) (by omega) (by omega) (fun _ _ => ?_)
          | refine OpJ.pure (OpP.shr_nat rfl rfl rfl) ?_
          | refine OpJ.pure (OpP.shr rfl rfl (by omega)) ?_)
        | refine OpsJ.nil ?_
        | refine CodeJ.cond_t rfl (by with_reducible assumption) ?_
        | refine CodeJ.cond_f rfl (by with_reducible assumption) ?_
        | refine CodeJ.cond_dt rfl (by omega) ?_
        | refine CodeJ.cond_df rfl (by omega) ?_
        | refine CodeJ.cond_t rfl rfl ?_
        | refine CodeJ.cond_f rfl rfl ?_)
      refine CodeJ.cond_d rfl (fun hc => ?_) (fun hc => ?_)
      · have hv2 : v = ((clamp v : Nat) : Int) := by unfold clamp; omega
        generalize clamp v = cv at *
        subst hv2
        repeat (first
          | refine CodeJ.seq' ?_
          | refine CodeJ.region ?_
          | refine CodeJ.block ?_
          | refine CodeJ.skip ?_
          | refine CodeJ.exit rfl ?_
          | refine CodeJ.ret' ?_
          | (refine OpsJ.put (d := 10) rfl ?_; refine OpJ.conv_bytes rfl (by first | exact List.Perm.refl _ | exact List.Perm.swap _ _ _ | exact permm2 _ _ _ _ | exact permm3 _ _ _ _ _ | exact permm4 _ _ _ _ _ _ | exact permm5 _ _ _ _ _ _ _) (fun D10 hdis10 hrc10 => ?_))
          | (refine OpsJ.put (d := 10) rfl ?_; refine OpJ.conv_string_bytes rfl (fun A10 c10 D10 hdis10 hrc10 hcap10 => ?_))
          | (refine OpsJ.put (d := 16) rfl ?_; refine OpJ.conv_bytes rfl (by first | exact List.Perm.refl _ | exact List.Perm.swap _ _ _ | exact permm2 _ _ _ _ | exact permm3 _ _ _ _ _ | exact permm4 _ _ _ _ _ _ | exact permm5 _ _ _ _ _ _ _) (fun D16 hdis16 hrc16 => ?_))
          | (refine OpsJ.put (d := 16) rfl ?_; refine OpJ.conv_string_bytes rfl (fun A16 c16 D16 hdis16 hrc16 hcap16 => ?_))
          | (refine OpsJ.put (d := 24) rfl ?_; refine OpJ.conv_bytes rfl (by first | exact List.Perm.refl _ | exact List.Perm.swap _ _ _ | exact permm2 _ _ _ _ | exact permm3 _ _ _ _ _ | exact permm4 _ _ _ _ _ _ | exact permm5 _ _ _ _ _ _ _) (fun D24 hdis24 hrc24 => ?_))
          | (refine OpsJ.put (d := 24) rfl ?_; refine OpJ.conv_string_bytes rfl (fun A24 c24 D24 hdis24 hrc24 hcap24 => ?_))
          | (refine OpsJ.put rfl ?_; first
            | refine OpJ.pure (OpP.assign rfl) ?_
            | refine OpJ.pure (OpP.move rfl) ?_
            | refine OpJ.pure (OpP.gtr rfl rfl) ?_
            | refine OpJ.pure (OpP.conv_in rfl (by first | exact IntWalk.i64_in _ (by omega) | exact IntWalk.u8_in _ (by omega) | exact IntWalk.u32_in _ (by omega) | exact wrap_u64_in _ (by omega))) ?_
            | refine OpJ.pure (OpP.conv_int rfl) ?_
            | refine OpJ.pure (OpP.conv_string rfl) ?_
            | refine OpJ.pure (OpP.geq rfl rfl) ?_
            | refine OpJ.pure (OpP.and_nat rfl rfl rfl (by first | with_reducible assumption | assumption | decide | exact lt_b32 (by omega) | exact lt_b8 (by omega) | exact lt_b64 (by omega)) (by first | with_reducible assumption | assumption | decide | exact lt_b32 (by omega) | exact lt_b8 (by omega) | exact lt_b64 (by omega))) ?_
            | refine OpJ.pure (OpP.and rfl rfl) ?_
            | refine OpJ.pure (OpP.or_nat rfl rfl rfl (by first | with_reducible assumption | assumption | decide | exact lt_b32 (by omega) | exact lt_b8 (by omega) | exact lt_b64 (by omega)) (by first | with_reducible assumption | assumption | decide | exact lt_b32 (by omega) | exact lt_b8 (by omega) | exact lt_b64 (by omega))) ?_
            | refine OpJ.pure (OpP.or rfl rfl) ?_
            | (refine OpJ.buildSlice rfl rfl (by exact rfl) (by exact rfl) rfl (fun _ => ?_); dsimp only [lsplice, take1, take2, take3, take4, drop1, drop2, drop3, drop4, List.take_zero, List.drop_zero, List.cons_append, List.nil_append, List.length_cons, List.length_nil, Nat.reduceAdd, fillL, sliceL, Value.cells, List.toList_toArray, List.append_nil, List.getElem?_cons_zero, get1, get2, get3, Option.getD_some])
            | refine OpJ.append rfl rfl (by first | exact List.Perm.refl _ | exact List.Perm.swap _ _ _ | exact permm2 _ _ _ _ | exact permm3 _ _ _ _ _ | exact permm4 _ _ _ _ _ _ | exact permm5 _ _ _ _ _ _ _) (Src.ofRow (by repeat (first | exact List.Mem.head _ | apply List.Mem.tail))) (by exact rfl) (by exact rfl) (by exact rfl) (by exact rfl) (by omega) (by omega) (fun _ _ => ?_)
            | refine OpJ.pure (OpP.shr_nat rfl rfl rfl) ?_
            | refine OpJ.pure (OpP.shr rfl rfl (by omega)) ?_)
          | refine OpsJ.nil ?_
          | refine CodeJ.cond_t rfl (by with_reducible assumption) ?_
          | refine CodeJ.cond_f rfl (by with_reducible assumption) ?_
          | refine CodeJ.cond_dt rfl (by omega) ?_
          | refine CodeJ.cond_df rfl (by omega) ?_
          | refine CodeJ.cond_t rfl rfl ?_
          | refine CodeJ.cond_f rfl rfl ?_)
        exact ⟨_, _, _, ⟨rfl, rfl⟩, (by repeat (first | exact IM.le_refl _ | assumption | refine IM.le_trans ?_ (IM.le_or _ _))), (by repeat (first | exact SubE.nil _ | refine SubE.cons rfl ?_)), (by repeat (first | exact SubL.nil _ | refine SubL.p0 ?_ | refine SubL.p1 ?_ | refine SubL.p2 ?_ | refine SubL.p3 ?_ | refine SubL.p4 ?_ | refine SubL.p5 ?_ | refine SubL.p6 ?_ | refine SubL.p7 ?_))⟩
      · have hv2 : clamp v = 0 := by unfold clamp; omega
        repeat (first
          | refine CodeJ.seq' ?_
          | refine CodeJ.region ?_
          | refine CodeJ.block ?_
          | refine CodeJ.skip ?_
          | refine CodeJ.exit rfl ?_
          | refine CodeJ.ret' ?_
          | (refine OpsJ.put (d := 10) rfl ?_; refine OpJ.conv_bytes rfl (by first | exact List.Perm.refl _ | exact List.Perm.swap _ _ _ | exact permm2 _ _ _ _ | exact permm3 _ _ _ _ _ | exact permm4 _ _ _ _ _ _ | exact permm5 _ _ _ _ _ _ _) (fun D10 hdis10 hrc10 => ?_))
          | (refine OpsJ.put (d := 10) rfl ?_; refine OpJ.conv_string_bytes rfl (fun A10 c10 D10 hdis10 hrc10 hcap10 => ?_))
          | (refine OpsJ.put (d := 16) rfl ?_; refine OpJ.conv_bytes rfl (by first | exact List.Perm.refl _ | exact List.Perm.swap _ _ _ | exact permm2 _ _ _ _ | exact permm3 _ _ _ _ _ | exact permm4 _ _ _ _ _ _ | exact permm5 _ _ _ _ _ _ _) (fun D16 hdis16 hrc16 => ?_))
          | (refine OpsJ.put (d := 16) rfl ?_; refine OpJ.conv_string_bytes rfl (fun A16 c16 D16 hdis16 hrc16 hcap16 => ?_))
          | (refine OpsJ.put (d := 24) rfl ?_; refine OpJ.conv_bytes rfl (by first | exact List.Perm.refl _ | exact List.Perm.swap _ _ _ | exact permm2 _ _ _ _ | exact permm3 _ _ _ _ _ | exact permm4 _ _ _ _ _ _ | exact permm5 _ _ _ _ _ _ _) (fun D24 hdis24 hrc24 => ?_))
          | (refine OpsJ.put (d := 24) rfl ?_; refine OpJ.conv_string_bytes rfl (fun A24 c24 D24 hdis24 hrc24 hcap24 => ?_))
          | (refine OpsJ.put rfl ?_; first
            | refine OpJ.pure (OpP.assign rfl) ?_
            | refine OpJ.pure (OpP.move rfl) ?_
            | refine OpJ.pure (OpP.gtr rfl rfl) ?_
            | refine OpJ.pure (OpP.conv_in rfl (by first | exact IntWalk.i64_in _ (by omega) | exact IntWalk.u8_in _ (by omega) | exact IntWalk.u32_in _ (by omega) | exact wrap_u64_in _ (by omega))) ?_
            | refine OpJ.pure (OpP.conv_int rfl) ?_
            | refine OpJ.pure (OpP.conv_string rfl) ?_
            | refine OpJ.pure (OpP.geq rfl rfl) ?_
            | refine OpJ.pure (OpP.and_nat rfl rfl rfl (by first | with_reducible assumption | assumption | decide | exact lt_b32 (by omega) | exact lt_b8 (by omega) | exact lt_b64 (by omega)) (by first | with_reducible assumption | assumption | decide | exact lt_b32 (by omega) | exact lt_b8 (by omega) | exact lt_b64 (by omega))) ?_
            | refine OpJ.pure (OpP.and rfl rfl) ?_
            | refine OpJ.pure (OpP.or_nat rfl rfl rfl (by first | with_reducible assumption | assumption | decide | exact lt_b32 (by omega) | exact lt_b8 (by omega) | exact lt_b64 (by omega)) (by first | with_reducible assumption | assumption | decide | exact lt_b32 (by omega) | exact lt_b8 (by omega) | exact lt_b64 (by omega))) ?_
            | refine OpJ.pure (OpP.or rfl rfl) ?_
            | (refine OpJ.buildSlice rfl rfl (by exact rfl) (by exact rfl) rfl (fun _ => ?_); dsimp only [lsplice, take1, take2, take3, take4, drop1, drop2, drop3, drop4, List.take_zero, List.drop_zero, List.cons_append, List.nil_append, List.length_cons, List.length_nil, Nat.reduceAdd, fillL, sliceL, Value.cells, List.toList_toArray, List.append_nil, List.getElem?_cons_zero, get1, get2, get3, Option.getD_some])
            | refine OpJ.append rfl rfl (by first | exact List.Perm.refl _ | exact List.Perm.swap _ _ _ | exact permm2 _ _ _ _ | exact permm3 _ _ _ _ _ | exact permm4 _ _ _ _ _ _ | exact permm5 _ _ _ _ _ _ _) (Src.ofRow (by repeat (first | exact List.Mem.head _ | apply List.Mem.tail))) (by exact rfl) (by exact rfl) (by exact rfl) (by exact rfl) (by omega) (by omega) (fun _ _ => ?_)
            | refine OpJ.pure (OpP.shr_nat rfl rfl rfl) ?_
            | refine OpJ.pure (OpP.shr rfl rfl (by omega)) ?_)
          | refine OpsJ.nil ?_
          | refine CodeJ.cond_t rfl (by with_reducible assumption) ?_
          | refine CodeJ.cond_f rfl (by with_reducible assumption) ?_
          | refine CodeJ.cond_dt rfl (by omega) ?_
          | refine CodeJ.cond_df rfl (by omega) ?_
          | refine CodeJ.cond_t rfl rfl ?_
          | refine CodeJ.cond_f rfl rfl ?_)
        refine ⟨_, _, _, ⟨rfl, rfl⟩, (by repeat (first | exact IM.le_refl _ | assumption | refine IM.le_trans ?_ (IM.le_or _ _))), ?_, (by repeat (first | exact SubL.nil _ | refine SubL.p0 ?_ | refine SubL.p1 ?_ | refine SubL.p2 ?_ | refine SubL.p3 ?_ | refine SubL.p4 ?_ | refine SubL.p5 ?_ | refine SubL.p6 ?_ | refine SubL.p7 ?_))⟩
        rw [hv2]; exact (by repeat (first | exact SubE.nil _ | refine SubE.cons rfl ?_))
  rintro e1 s1 ⟨rfl, rfl⟩
  generalize clamp v = cv at *
  repeat (first
    | refine CodeJ.seq' ?_
    | refine CodeJ.region ?_
    | refine CodeJ.block ?_
    | refine CodeJ.skip ?_
    | refine CodeJ.exit rfl ?_
    | refine CodeJ.ret' ?_
    | (refine OpsJ.put (d := 10) rfl ?_; refine OpJ.conv_bytes rfl (by first | exact List.Perm.refl _ | exact List.Perm.swap _ _ _ | exact permm2 _ _ _ _ | exact permm3 _ _ _ _ _ | exact permm4 _ _ _ _ _ _ | exact permm5 _ _ _ _ _ _ _) (fun D10 hdis10 hrc10 => ?_))
    | (refine OpsJ.put (d := 10) rfl ?_; refine OpJ.conv_string_bytes rfl (fun A10 c10 D10 hdis10 hrc10 hcap10 => ?_))
    | (refine OpsJ.put (d := 16) rfl ?_; refine OpJ.conv_bytes rfl (by first | exact List.Perm.refl _ | exact List.Perm.swap _ _ _ | exact permm2 _ _ _ _ | exact permm3 _ _ _ _ _ | exact permm4 _ _ _ _ _ _ | exact permm5 _ _ _ _ _ _ _) (fun D16 hdis16 hrc16 => ?_))
    | (refine OpsJ.put (d := 16) rfl ?_; refine OpJ.conv_string_bytes rfl (fun A16 c16 D16 hdis16 hrc16 hcap16 => ?_))
    | (refine OpsJ.put (d := 24) rfl ?_; refine OpJ.conv_bytes rfl (by first | exact List.Perm.refl _ | exact List.Perm.swap _ _ _ | exact permm2 _ _ _ _ | exact permm3 _ _ _ _ _ | exact permm4 _ _ _ _ _ _ | exact permm5 _ _ _ _ _ _ _) (fun D24 hdis24 hrc24 => ?_))
    | (refine OpsJ.put (d := 24) rfl ?_; refine OpJ.conv_string_bytes rfl (fun A24 c24 D24 hdis24 hrc24 hcap24 => ?_))
    | (refine OpsJ.put rfl ?_; first
      | refine OpJ.pure (OpP.assign rfl) ?_
      | refine OpJ.pure (OpP.move rfl) ?_
      | refine OpJ.pure (OpP.gtr rfl rfl) ?_
      | refine OpJ.pure (OpP.conv_in rfl (by first | exact IntWalk.i64_in _ (by omega) | exact IntWalk.u8_in _ (by omega) | exact IntWalk.u32_in _ (by omega) | exact wrap_u64_in _ (by omega))) ?_
      | refine OpJ.pure (OpP.conv_int rfl) ?_
      | refine OpJ.pure (OpP.conv_string rfl) ?_
      | refine OpJ.pure (OpP.geq rfl rfl) ?_
      | refine OpJ.pure (OpP.and_nat rfl rfl rfl (by first | with_reducible assumption | assumption | decide | exact lt_b32 (by omega) | exact lt_b8 (by omega) | exact lt_b64 (by omega)) (by first | with_reducible assumption | assumption | decide | exact lt_b32 (by omega) | exact lt_b8 (by omega) | exact lt_b64 (by omega))) ?_
      | refine OpJ.pure (OpP.and rfl rfl) ?_
      | refine OpJ.pure (OpP.or_nat rfl rfl rfl (by first | with_reducible assumption | assumption | decide | exact lt_b32 (by omega) | exact lt_b8 (by omega) | exact lt_b64 (by omega)) (by first | with_reducible assumption | assumption | decide | exact lt_b32 (by omega) | exact lt_b8 (by omega) | exact lt_b64 (by omega))) ?_
      | refine OpJ.pure (OpP.or rfl rfl) ?_
      | (refine OpJ.buildSlice rfl rfl (by exact rfl) (by exact rfl) rfl (fun _ => ?_); dsimp only [lsplice, take1, take2, take3, take4, drop1, drop2, drop3, drop4, List.take_zero, List.drop_zero, List.cons_append, List.nil_append, List.length_cons, List.length_nil, Nat.reduceAdd, fillL, sliceL, Value.cells, List.toList_toArray, List.append_nil, List.getElem?_cons_zero, get1, get2, get3, Option.getD_some])
      | refine OpJ.append rfl rfl (by first | exact List.Perm.refl _ | exact List.Perm.swap _ _ _ | exact permm2 _ _ _ _ | exact permm3 _ _ _ _ _ | exact permm4 _ _ _ _ _ _ | exact permm5 _ _ _ _ _ _ _) (Src.ofRow (by repeat (first | exact List.Mem.head _ | apply List.Mem.tail))) (by exact rfl) (by exact rfl) (by exact rfl) (by exact rfl) (by omega) (by omega) (fun _ _ => ?_)
      | refine OpJ.pure (OpP.shr_nat rfl rfl rfl) ?_
      | refine OpJ.pure (OpP.shr rfl rfl (by omega)) ?_)
    | refine OpsJ.nil ?_
    | refine CodeJ.cond_t rfl (by with_reducible assumption) ?_
    | refine CodeJ.cond_f rfl (by with_reducible assumption) ?_
    | refine CodeJ.cond_dt rfl (by omega) ?_
    | refine CodeJ.cond_df rfl (by omega) ?_
    | refine CodeJ.cond_t rfl rfl ?_
    | refine CodeJ.cond_f rfl rfl ?_)
  refine CodeJ.loop (fun k e s => ∃ (u : Nat) (A : Option Addr) (c m : Nat) (cs : List Value) (b2 : List UInt8), k = u ∧ b2 ++ enc u = enc cv ∧ m = b2.length ∧ cs = bcells b2 ∧ u ≤ cv ∧
      e = [(3, .int .u64 u), (4, .slice A m c)] ∧ s = ⟨R, [.row 5 1 A m c cs]⟩) cv
      ⟨cv, none, 0, 0, [], [], rfl, rfl, rfl, rfl, Nat.le_refl _, rfl, rfl⟩ (by repeat (first | exact SubE.nil _ | refine SubE.cons rfl ?_)) (by repeat (first | exact SubL.nil _ | refine SubL.p0 ?_ | refine SubL.p1 ?_ | refine SubL.p2 ?_ | refine SubL.p3 ?_ | refine SubL.p4 ?_ | refine SubL.p5 ?_ | refine SubL.p6 ?_ | refine SubL.p7 ?_)) ?_
  rintro k e1 s1 ⟨u, A, c, m, cs, b2, hk, hb2, hm, hcs, hu, rfl, rfl⟩
  have hl2 : b2.length ≤ 9 := by
    have h1 := congrArg List.length hb2
    simp only [List.length_append] at h1
    omega
  repeat (first
    | refine CodeJ.seq' ?_
    | refine CodeJ.region ?_
    | refine CodeJ.block ?_
    | refine CodeJ.skip ?_
    | refine CodeJ.exit rfl ?_
    | refine CodeJ.ret' ?_
    | (refine OpsJ.put (d := 10) rfl ?_; refine OpJ.conv_bytes rfl (by first | exact List.Perm.refl _ | exact List.Perm.swap _ _ _ | exact permm2 _ _ _ _ | exact permm3 _ _ _ _ _ | exact permm4 _ _ _ _ _ _ | exact permm5 _ _ _ _ _ _ _) (fun D10 hdis10 hrc10 => ?_))
    | (refine OpsJ.put (d := 10) rfl ?_; refine OpJ.conv_string_bytes rfl (fun A10 c10 D10 hdis10 hrc10 hcap10 => ?_))
    | (refine OpsJ.put (d := 16) rfl ?_; refine OpJ.conv_bytes rfl (by first | exact List.Perm.refl _ | exact List.Perm.swap _ _ _ | exact permm2 _ _ _ _ | exact permm3 _ _ _ _ _ | exact permm4 _ _ _ _ _ _ | exact permm5 _ _ _ _ _ _ _) (fun D16 hdis16 hrc16 => ?_))
    | (refine OpsJ.put (d := 16) rfl ?_; refine OpJ.conv_string_bytes rfl (fun A16 c16 D16 hdis16 hrc16 hcap16 => ?_))
    | (refine OpsJ.put (d := 24) rfl ?_; refine OpJ.conv_bytes rfl (by first | exact List.Perm.refl _ | exact List.Perm.swap _ _ _ | exact permm2 _ _ _ _ | exact permm3 _ _ _ _ _ | exact permm4 _ _ _ _ _ _ | exact permm5 _ _ _ _ _ _ _) (fun D24 hdis24 hrc24 => ?_))
    | (refine OpsJ.put (d := 24) rfl ?_; refine OpJ.conv_string_bytes rfl (fun A24 c24 D24 hdis24 hrc24 hcap24 => ?_))
    | (refine OpsJ.put rfl ?_; first
      | refine OpJ.pure (OpP.assign rfl) ?_
      | refine OpJ.pure (OpP.move rfl) ?_
      | refine OpJ.pure (OpP.gtr rfl rfl) ?_
      | refine OpJ.pure (OpP.conv_in rfl (by first | exact IntWalk.i64_in _ (by omega) | exact IntWalk.u8_in _ (by omega) | exact IntWalk.u32_in _ (by omega) | exact wrap_u64_in _ (by omega))) ?_
      | refine OpJ.pure (OpP.conv_int rfl) ?_
      | refine OpJ.pure (OpP.conv_string rfl) ?_
      | refine OpJ.pure (OpP.geq rfl rfl) ?_
      | refine OpJ.pure (OpP.and_nat rfl rfl rfl (by first | with_reducible assumption | assumption | decide | exact lt_b32 (by omega) | exact lt_b8 (by omega) | exact lt_b64 (by omega)) (by first | with_reducible assumption | assumption | decide | exact lt_b32 (by omega) | exact lt_b8 (by omega) | exact lt_b64 (by omega))) ?_
      | refine OpJ.pure (OpP.and rfl rfl) ?_
      | refine OpJ.pure (OpP.or_nat rfl rfl rfl (by first | with_reducible assumption | assumption | decide | exact lt_b32 (by omega) | exact lt_b8 (by omega) | exact lt_b64 (by omega)) (by first | with_reducible assumption | assumption | decide | exact lt_b32 (by omega) | exact lt_b8 (by omega) | exact lt_b64 (by omega))) ?_
      | refine OpJ.pure (OpP.or rfl rfl) ?_
      | (refine OpJ.buildSlice rfl rfl (by exact rfl) (by exact rfl) rfl (fun _ => ?_); dsimp only [lsplice, take1, take2, take3, take4, drop1, drop2, drop3, drop4, List.take_zero, List.drop_zero, List.cons_append, List.nil_append, List.length_cons, List.length_nil, Nat.reduceAdd, fillL, sliceL, Value.cells, List.toList_toArray, List.append_nil, List.getElem?_cons_zero, get1, get2, get3, Option.getD_some])
      | refine OpJ.append rfl rfl (by first | exact List.Perm.refl _ | exact List.Perm.swap _ _ _ | exact permm2 _ _ _ _ | exact permm3 _ _ _ _ _ | exact permm4 _ _ _ _ _ _ | exact permm5 _ _ _ _ _ _ _) (Src.ofRow (by repeat (first | exact List.Mem.head _ | apply List.Mem.tail))) (by exact rfl) (by exact rfl) (by exact rfl) (by exact rfl) (by omega) (by omega) (fun _ _ => ?_)
      | refine OpJ.pure (OpP.shr_nat rfl rfl rfl) ?_
      | refine OpJ.pure (OpP.shr rfl rfl (by omega)) ?_)
    | refine OpsJ.nil ?_
    | refine CodeJ.cond_t rfl (by with_reducible assumption) ?_
    | refine CodeJ.cond_f rfl (by with_reducible assumption) ?_
    | refine CodeJ.cond_dt rfl (by omega) ?_
    | refine CodeJ.cond_df rfl (by omega) ?_
    | refine CodeJ.cond_t rfl rfl ?_
    | refine CodeJ.cond_f rfl rfl ?_)
  refine CodeJ.cond_d rfl (fun hc => ?_) (fun hc => ?_)
  · have h127 : u &&& 127 < 128 := by
      have := Nat.and_two_pow_sub_one_eq_mod u 7
      simp at this; omega
    repeat (first
      | (refine OpsJ.put (d := 15) rfl (OpJ.pure (OpP.and_nat (q := 127) rfl rfl rfl (lt_b64 (by omega)) (by decide)) ?_))
      | (refine OpsJ.put (d := 17) rfl (OpJ.pure (OpP.or rfl rfl) ?_))
      | refine CodeJ.seq' ?_
      | refine CodeJ.region ?_
      | refine CodeJ.block ?_
      | refine CodeJ.skip ?_
      | refine CodeJ.exit rfl ?_
      | refine CodeJ.ret' ?_
      | (refine OpsJ.put (d := 10) rfl ?_; refine OpJ.conv_bytes rfl (by first | exact List.Perm.refl _ | exact List.Perm.swap _ _ _ | exact permm2 _ _ _ _ | exact permm3 _ _ _ _ _ | exact permm4 _ _ _ _ _ _ | exact permm5 _ _ _ _ _ _ _) (fun D10 hdis10 hrc10 => ?_))
      | (refine OpsJ.put (d := 10) rfl ?_; refine OpJ.conv_string_bytes rfl (fun A10 c10 D10 hdis10 hrc10 hcap10 => ?_))
      | (refine OpsJ.put (d := 16) rfl ?_; refine OpJ.conv_bytes rfl (by first | exact List.Perm.refl _ | exact List.Perm.swap _ _ _ | exact permm2 _ _ _ _ | exact permm3 _ _ _ _ _ | exact permm4 _ _ _ _ _ _ | exact permm5 _ _ _ _ _ _ _) (fun D16 hdis16 hrc16 => ?_))
      | (refine OpsJ.put (d := 16) rfl ?_; refine OpJ.conv_string_bytes rfl (fun A16 c16 D16 hdis16 hrc16 hcap16 => ?_))
      | (refine OpsJ.put (d := 24) rfl ?_; refine OpJ.conv_bytes rfl (by first | exact List.Perm.refl _ | exact List.Perm.swap _ _ _ | exact permm2 _ _ _ _ | exact permm3 _ _ _ _ _ | exact permm4 _ _ _ _ _ _ | exact permm5 _ _ _ _ _ _ _) (fun D24 hdis24 hrc24 => ?_))
      | (refine OpsJ.put (d := 24) rfl ?_; refine OpJ.conv_string_bytes rfl (fun A24 c24 D24 hdis24 hrc24 hcap24 => ?_))
      | (refine OpsJ.put rfl ?_; first
        | refine OpJ.pure (OpP.assign rfl) ?_
        | refine OpJ.pure (OpP.move rfl) ?_
        | refine OpJ.pure (OpP.gtr rfl rfl) ?_
        | refine OpJ.pure (OpP.conv_in rfl (by first | exact IntWalk.i64_in _ (by omega) | exact IntWalk.u8_in _ (by omega) | exact IntWalk.u32_in _ (by omega) | exact wrap_u64_in _ (by omega))) ?_
        | refine OpJ.pure (OpP.conv_int rfl) ?_
        | refine OpJ.pure (OpP.conv_string rfl) ?_
        | refine OpJ.pure (OpP.geq rfl rfl) ?_
        | refine OpJ.pure (OpP.and_nat rfl rfl rfl (by first | with_reducible assumption | assumption | decide | exact lt_b32 (by omega) | exact lt_b8 (by omega) | exact lt_b64 (by omega)) (by first | with_reducible assumption | assumption | decide | exact lt_b32 (by omega) | exact lt_b8 (by omega) | exact lt_b64 (by omega))) ?_
        | refine OpJ.pure (OpP.and rfl rfl) ?_
        | refine OpJ.pure (OpP.or_nat rfl rfl rfl (by first | with_reducible assumption | assumption | decide | exact lt_b32 (by omega) | exact lt_b8 (by omega) | exact lt_b64 (by omega)) (by first | with_reducible assumption | assumption | decide | exact lt_b32 (by omega) | exact lt_b8 (by omega) | exact lt_b64 (by omega))) ?_
        | refine OpJ.pure (OpP.or rfl rfl) ?_
        | (refine OpJ.buildSlice rfl rfl (by exact rfl) (by exact rfl) rfl (fun _ => ?_); dsimp only [lsplice, take1, take2, take3, take4, drop1, drop2, drop3, drop4, List.take_zero, List.drop_zero, List.cons_append, List.nil_append, List.length_cons, List.length_nil, Nat.reduceAdd, fillL, sliceL, Value.cells, List.toList_toArray, List.append_nil, List.getElem?_cons_zero, get1, get2, get3, Option.getD_some])
        | refine OpJ.append rfl rfl (by first | exact List.Perm.refl _ | exact List.Perm.swap _ _ _ | exact permm2 _ _ _ _ | exact permm3 _ _ _ _ _ | exact permm4 _ _ _ _ _ _ | exact permm5 _ _ _ _ _ _ _) (Src.ofRow (by repeat (first | exact List.Mem.head _ | apply List.Mem.tail))) (by exact rfl) (by exact rfl) (by exact rfl) (by exact rfl) (by omega) (by omega) (fun _ _ => ?_)
        | refine OpJ.pure (OpP.shr_nat rfl rfl rfl) ?_
        | refine OpJ.pure (OpP.shr rfl rfl (by omega)) ?_)
      | refine OpsJ.nil ?_
      | refine CodeJ.cond_t rfl (by with_reducible assumption) ?_
      | refine CodeJ.cond_f rfl (by with_reducible assumption) ?_
      | refine CodeJ.cond_dt rfl (by omega) ?_
      | refine CodeJ.cond_df rfl (by omega) ?_
      | refine CodeJ.cond_t rfl rfl ?_
      | refine CodeJ.cond_f rfl rfl ?_)
    refine ⟨u / 2 ^ 7, _, _, _, by omega, ⟨u / 2 ^ 7, _, _, _, _, b2 ++ [UInt8.ofNat (u % 128 + 128)], rfl, ?_, ?_, ?_, by omega, rfl, rfl⟩, (by repeat (first | exact IM.le_refl _ | assumption | refine IM.le_trans ?_ (IM.le_or _ _))), (by repeat (first | exact SubE.nil _ | refine SubE.cons rfl ?_)), (by repeat (first | exact SubL.nil _ | refine SubL.p0 ?_ | refine SubL.p1 ?_ | refine SubL.p2 ?_ | refine SubL.p3 ?_ | refine SubL.p4 ?_ | refine SubL.p5 ?_ | refine SubL.p6 ?_ | refine SubL.p7 ?_))⟩
    · rw [← hb2, enc_big (u := u) (by omega)]; simp
    · simp [hm]
    · rw [hcs, bcells_append]
      congr 1
      have := byte_more' u
      simp only [bcells, List.map_cons, List.map_nil]
      rw [← this]
  · repeat (first
      | refine CodeJ.seq' ?_
      | refine CodeJ.region ?_
      | refine CodeJ.block ?_
      | refine CodeJ.skip ?_
      | refine CodeJ.exit rfl ?_
      | refine CodeJ.ret' ?_
      | (refine OpsJ.put (d := 10) rfl ?_; refine OpJ.conv_bytes rfl (by first | exact List.Perm.refl _ | exact List.Perm.swap _ _ _ | exact permm2 _ _ _ _ | exact permm3 _ _ _ _ _ | exact permm4 _ _ _ _ _ _ | exact permm5 _ _ _ _ _ _ _) (fun D10 hdis10 hrc10 => ?_))
      | (refine OpsJ.put (d := 10) rfl ?_; refine OpJ.conv_string_bytes rfl (fun A10 c10 D10 hdis10 hrc10 hcap10 => ?_))
      | (refine OpsJ.put (d := 16) rfl ?_; refine OpJ.conv_bytes rfl (by first | exact List.Perm.refl _ | exact List.Perm.swap _ _ _ | exact permm2 _ _ _ _ | exact permm3 _ _ _ _ _ | exact permm4 _ _ _ _ _ _ | exact permm5 _ _ _ _ _ _ _) (fun D16 hdis16 hrc16 => ?_))
      | (refine OpsJ.put (d := 16) rfl ?_; refine OpJ.conv_string_bytes rfl (fun A16 c16 D16 hdis16 hrc16 hcap16 => ?_))
      | (refine OpsJ.put (d := 24) rfl ?_; refine OpJ.conv_bytes rfl (by first | exact List.Perm.refl _ | exact List.Perm.swap _ _ _ | exact permm2 _ _ _ _ | exact permm3 _ _ _ _ _ | exact permm4 _ _ _ _ _ _ | exact permm5 _ _ _ _ _ _ _) (fun D24 hdis24 hrc24 => ?_))
      | (refine OpsJ.put (d := 24) rfl ?_; refine OpJ.conv_string_bytes rfl (fun A24 c24 D24 hdis24 hrc24 hcap24 => ?_))
      | (refine OpsJ.put rfl ?_; first
        | refine OpJ.pure (OpP.assign rfl) ?_
        | refine OpJ.pure (OpP.move rfl) ?_
        | refine OpJ.pure (OpP.gtr rfl rfl) ?_
        | refine OpJ.pure (OpP.conv_in rfl (by first | exact IntWalk.i64_in _ (by omega) | exact IntWalk.u8_in _ (by omega) | exact IntWalk.u32_in _ (by omega) | exact wrap_u64_in _ (by omega))) ?_
        | refine OpJ.pure (OpP.conv_int rfl) ?_
        | refine OpJ.pure (OpP.conv_string rfl) ?_
        | refine OpJ.pure (OpP.geq rfl rfl) ?_
        | refine OpJ.pure (OpP.and_nat rfl rfl rfl (by first | with_reducible assumption | assumption | decide | exact lt_b32 (by omega) | exact lt_b8 (by omega) | exact lt_b64 (by omega)) (by first | with_reducible assumption | assumption | decide | exact lt_b32 (by omega) | exact lt_b8 (by omega) | exact lt_b64 (by omega))) ?_
        | refine OpJ.pure (OpP.and rfl rfl) ?_
        | refine OpJ.pure (OpP.or_nat rfl rfl rfl (by first | with_reducible assumption | assumption | decide | exact lt_b32 (by omega) | exact lt_b8 (by omega) | exact lt_b64 (by omega)) (by first | with_reducible assumption | assumption | decide | exact lt_b32 (by omega) | exact lt_b8 (by omega) | exact lt_b64 (by omega))) ?_
        | refine OpJ.pure (OpP.or rfl rfl) ?_
        | (refine OpJ.buildSlice rfl rfl (by exact rfl) (by exact rfl) rfl (fun _ => ?_); dsimp only [lsplice, take1, take2, take3, take4, drop1, drop2, drop3, drop4, List.take_zero, List.drop_zero, List.cons_append, List.nil_append, List.length_cons, List.length_nil, Nat.reduceAdd, fillL, sliceL, Value.cells, List.toList_toArray, List.append_nil, List.getElem?_cons_zero, get1, get2, get3, Option.getD_some])
        | refine OpJ.append rfl rfl (by first | exact List.Perm.refl _ | exact List.Perm.swap _ _ _ | exact permm2 _ _ _ _ | exact permm3 _ _ _ _ _ | exact permm4 _ _ _ _ _ _ | exact permm5 _ _ _ _ _ _ _) (Src.ofRow (by repeat (first | exact List.Mem.head _ | apply List.Mem.tail))) (by exact rfl) (by exact rfl) (by exact rfl) (by exact rfl) (by omega) (by omega) (fun _ _ => ?_)
        | refine OpJ.pure (OpP.shr_nat rfl rfl rfl) ?_
        | refine OpJ.pure (OpP.shr rfl rfl (by omega)) ?_)
      | refine OpsJ.nil ?_
      | refine CodeJ.cond_t rfl (by with_reducible assumption) ?_
      | refine CodeJ.cond_f rfl (by with_reducible assumption) ?_
      | refine CodeJ.cond_dt rfl (by omega) ?_
      | refine CodeJ.cond_df rfl (by omega) ?_
      | refine CodeJ.cond_t rfl rfl ?_
      | refine CodeJ.cond_f rfl rfl ?_)
    refine Ret.mk0 ⟨_, _, _, _, rfl, ?_, ?_, rfl⟩ (ResJ.one Try.results58 rfl) (by repeat (first | exact IM.le_refl _ | assumption | refine IM.le_trans ?_ (IM.le_or _ _))) (by repeat (first | exact SubL.nil _ | refine SubL.p0 ?_ | refine SubL.p1 ?_ | refine SubL.p2 ?_ | refine SubL.p3 ?_ | refine SubL.p4 ?_ | refine SubL.p5 ?_ | refine SubL.p6 ?_ | refine SubL.p7 ?_))
    · rw [← hb2, enc_small (u := u) (by omega)]; simp [hm]
    · rw [hcs, ← hb2, enc_small (u := u) (by omega), bcells_append, bcells_small (by omega)]
theorem spoil_calls (R : IM) (A : Option Addr) (m c : Nat) (cs : List Value) (hm : m ≤ 1000000000) (hcs : cs.length = m) :
    CallJ Try.prog 22 #[.slice A m c] ⟨R, [.row 5 1 A m c cs]⟩ (fun u D hs' => u = .tuple #[] ∧ hs' = []) := by
  refine CallJ.of1 Try.func22 rfl Try.ntmps22 rfl (fun W0 => ?_)
  repeat (first
    | refine CodeJ.seq' ?_
    | refine CodeJ.region ?_
    | refine CodeJ.block ?_
    | refine CodeJ.skip ?_
    | refine CodeJ.exit rfl ?_
    | refine CodeJ.ret' ?_
    | (refine OpsJ.put rfl ?_; first
      | refine OpJ.pure (OpP.move rfl) ?_
      | (refine OpJ.buildSlice rfl rfl (by exact rfl) (by exact rfl) rfl (fun _ => ?_); dsimp only [lsplice, take1, take2, take3, take4, drop1, drop2, drop3, drop4, List.take_zero, List.drop_zero, List.cons_append, List.nil_append, List.length_cons, List.length_nil, Nat.reduceAdd, fillL, sliceL, Value.cells, List.toList_toArray, List.append_nil, List.getElem?_cons_zero, get1, get2, get3, Option.getD_some])
      | refine OpJ.append rfl rfl (by first | exact List.Perm.refl _ | exact List.Perm.swap _ _ _ | exact permm2 _ _ _ _ | exact permm3 _ _ _ _ _ | exact permm4 _ _ _ _ _ _ | exact permm5 _ _ _ _ _ _ _) (Src.ofRow (by repeat (first | exact List.Mem.head _ | apply List.Mem.tail))) (by exact rfl) (by exact rfl) (by exact rfl) (by exact rfl) (by omega) (by omega) (fun _ _ => ?_)
      | refine OpJ.pure (OpP.assign rfl) ?_
      | refine OpJ.pure (OpP.len rfl) ?_
      | refine OpJ.pure (OpP.len_string rfl) ?_
      | refine OpJ.pure (OpP.lss rfl rfl) ?_
      | refine OpJ.pure (OpP.idx1 rfl rfl (by omega) (by omega) (Src.ofR (by with_reducible assumption)) (ne_get (by assumption))) ?_
      | refine OpJ.pure (OpP.idx1 rfl rfl (by omega) (by omega) (Src.ofRow (by repeat (first | exact List.Mem.head _ | apply List.Mem.tail))) (ne_get (by assumption))) ?_
      | refine OpJ.pure (OpP.add_in rfl rfl (by omega) (by omega)) ?_
      | refine OpJ.pure (OpP.cat rfl rfl (by omega)) ?_
      | refine OpJ.pure (OpP.add rfl rfl) ?_)
    | (refine OpsJ.act ?_; first
      | (refine OpJ.store rfl rfl rfl (by first | exact List.Perm.refl _ | exact List.Perm.swap _ _ _ | exact permm2 _ _ _ _ | exact permm3 _ _ _ _ _ | exact permm4 _ _ _ _ _ _ | exact permm5 _ _ _ _ _ _ _) (by exact rfl) (by exact rfl) (by exact rfl) ?_; dsimp only [lsplice, take1, take2, take3, take4, drop1, drop2, drop3, drop4, List.take_zero, List.drop_zero, List.cons_append, List.nil_append, List.length_cons, List.length_nil, Nat.reduceAdd, fillL, sliceL, Value.cells, List.toList_toArray, List.append_nil, List.getElem?_cons_zero, get1, get2, get3, Option.getD_some]))
    | refine OpsJ.nil ?_
    | refine CodeJ.cond_t rfl (by with_reducible assumption) ?_
    | refine CodeJ.cond_f rfl (by with_reducible assumption) ?_
    | refine CodeJ.cond_dt rfl (by omega) ?_
    | refine CodeJ.cond_df rfl (by omega) ?_
    | refine CodeJ.cond_t rfl rfl ?_
    | refine CodeJ.cond_f rfl rfl ?_)
  refine CodeJ.loop (fun k e s => ∃ (i : Nat) (A1 : Option Addr) (c1 m1 : Nat) (cs1 : List Value), m1 = m + 1 ∧ i ≤ m1 ∧ k = m1 - i ∧ cs1.length = m1 ∧
      e = [(2, .slice A1 m1 c1), (3, .int .i64 i)] ∧ s = ⟨R, [.row 5 1 A1 m1 c1 cs1]⟩) (m + 1)
    ⟨0, _, _, _, _, rfl, Nat.zero_le _, rfl, ?_, rfl, rfl⟩ (by repeat (first | exact SubE.nil _ | refine SubE.cons rfl ?_)) (by repeat (first | exact SubL.nil _ | refine SubL.p0 ?_ | refine SubL.p1 ?_ | refine SubL.p2 ?_ | refine SubL.p3 ?_ | refine SubL.p4 ?_ | refine SubL.p5 ?_ | refine SubL.p6 ?_ | refine SubL.p7 ?_)) ?_
  · simp [hcs]
  rintro k e1 s1 ⟨i, A1, c1, m1, cs1, hm1, hi, hk, hl, rfl, rfl⟩
  repeat (first
    | refine CodeJ.seq' ?_
    | refine CodeJ.region ?_
    | refine CodeJ.block ?_
    | refine CodeJ.skip ?_
    | refine CodeJ.exit rfl ?_
    | refine CodeJ.ret' ?_
    | (refine OpsJ.put rfl ?_; first
      | refine OpJ.pure (OpP.move rfl) ?_
      | (refine OpJ.buildSlice rfl rfl (by exact rfl) (by exact rfl) rfl (fun _ => ?_); dsimp only [lsplice, take1, take2, take3, take4, drop1, drop2, drop3, drop4, List.take_zero, List.drop_zero, List.cons_append, List.nil_append, List.length_cons, List.length_nil, Nat.reduceAdd, fillL, sliceL, Value.cells, List.toList_toArray, List.append_nil, List.getElem?_cons_zero, get1, get2, get3, Option.getD_some])
      | refine OpJ.append rfl rfl (by first | exact List.Perm.refl _ | exact List.Perm.swap _ _ _ | exact permm2 _ _ _ _ | exact permm3 _ _ _ _ _ | exact permm4 _ _ _ _ _ _ | exact permm5 _ _ _ _ _ _ _) (Src.ofRow (by repeat (first | exact List.Mem.head _ | apply List.Mem.tail))) (by exact rfl) (by exact rfl) (by exact rfl) (by exact rfl) (by omega) (by omega) (fun _ _ => ?_)
      | refine OpJ.pure (OpP.assign rfl) ?_
      | refine OpJ.pure (OpP.len rfl) ?_
      | refine OpJ.pure (OpP.len_string rfl) ?_
      | refine OpJ.pure (OpP.lss rfl rfl) ?_
      | refine OpJ.pure (OpP.idx1 rfl rfl (by omega) (by omega) (Src.ofR (by with_reducible assumption)) (ne_get (by assumption))) ?_
      | refine OpJ.pure (OpP.idx1 rfl rfl (by omega) (by omega) (Src.ofRow (by repeat (first | exact List.Mem.head _ | apply List.Mem.tail))) (ne_get (by assumption))) ?_
      | refine OpJ.pure (OpP.add_in rfl rfl (by omega) (by omega)) ?_
      | refine OpJ.pure (OpP.cat rfl rfl (by omega)) ?_
      | refine OpJ.pure (OpP.add rfl rfl) ?_)
    | (refine OpsJ.act ?_; first
      | (refine OpJ.store rfl rfl rfl (by first | exact List.Perm.refl _ | exact List.Perm.swap _ _ _ | exact permm2 _ _ _ _ | exact permm3 _ _ _ _ _ | exact permm4 _ _ _ _ _ _ | exact permm5 _ _ _ _ _ _ _) (by exact rfl) (by exact rfl) (by exact rfl) ?_; dsimp only [lsplice, take1, take2, take3, take4, drop1, drop2, drop3, drop4, List.take_zero, List.drop_zero, List.cons_append, List.nil_append, List.length_cons, List.length_nil, Nat.reduceAdd, fillL, sliceL, Value.cells, List.toList_toArray, List.append_nil, List.getElem?_cons_zero, get1, get2, get3, Option.getD_some]))
    | refine OpsJ.nil ?_
    | refine CodeJ.cond_t rfl (by with_reducible assumption) ?_
    | refine CodeJ.cond_f rfl (by with_reducible assumption) ?_
    | refine CodeJ.cond_dt rfl (by omega) ?_
    | refine CodeJ.cond_df rfl (by omega) ?_
    | refine CodeJ.cond_t rfl rfl ?_
    | refine CodeJ.cond_f rfl rfl ?_)
  refine CodeJ.cond_d rfl (fun hc => ?_) (fun hc => ?_)
  · have hget := List.getElem?_eq_getElem (l := cs1) (i := i) (by omega)
    repeat (first
      | refine CodeJ.seq' ?_
      | refine CodeJ.region ?_
      | refine CodeJ.block ?_
      | refine CodeJ.skip ?_
      | refine CodeJ.exit rfl ?_
      | refine CodeJ.ret' ?_
      | (refine OpsJ.put rfl ?_; first
        | refine OpJ.pure (OpP.move rfl) ?_
        | (refine OpJ.buildSlice rfl rfl (by exact rfl) (by exact rfl) rfl (fun _ => ?_); dsimp only [lsplice, take1, take2, take3, take4, drop1, drop2, drop3, drop4, List.take_zero, List.drop_zero, List.cons_append, List.nil_append, List.length_cons, List.length_nil, Nat.reduceAdd, fillL, sliceL, Value.cells, List.toList_toArray, List.append_nil, List.getElem?_cons_zero, get1, get2, get3, Option.getD_some])
        | refine OpJ.append rfl rfl (by first | exact List.Perm.refl _ | exact List.Perm.swap _ _ _ | exact permm2 _ _ _ _ | exact permm3 _ _ _ _ _ | exact permm4 _ _ _ _ _ _ | exact permm5 _ _ _ _ _ _ _) (Src.ofRow (by repeat (first | exact List.Mem.head _ | apply List.Mem.tail))) (by exact rfl) (by exact rfl) (by exact rfl) (by exact rfl) (by omega) (by omega) (fun _ _ => ?_)
        | refine OpJ.pure (OpP.assign rfl) ?_
        | refine OpJ.pure (OpP.len rfl) ?_
        | refine OpJ.pure (OpP.len_string rfl) ?_
        | refine OpJ.pure (OpP.lss rfl rfl) ?_
        | refine OpJ.pure (OpP.idx1 rfl rfl (by omega) (by omega) (Src.ofR (by with_reducible assumption)) (ne_get (by assumption))) ?_
        | refine OpJ.pure (OpP.idx1 rfl rfl (by omega) (by omega) (Src.ofRow (by repeat (first | exact List.Mem.head _ | apply List.Mem.tail))) (ne_get (by assumption))) ?_
        | refine OpJ.pure (OpP.add_in rfl rfl (by omega) (by omega)) ?_
        | refine OpJ.pure (OpP.cat rfl rfl (by omega)) ?_
        | refine OpJ.pure (OpP.add rfl rfl) ?_)
      | (refine OpsJ.act ?_; first
        | (refine OpJ.store rfl rfl rfl (by first | exact List.Perm.refl _ | exact List.Perm.swap _ _ _ | exact permm2 _ _ _ _ | exact permm3 _ _ _ _ _ | exact permm4 _ _ _ _ _ _ | exact permm5 _ _ _ _ _ _ _) (by exact rfl) (by exact rfl) (by exact rfl) ?_; dsimp only [lsplice, take1, take2, take3, take4, drop1, drop2, drop3, drop4, List.take_zero, List.drop_zero, List.cons_append, List.nil_append, List.length_cons, List.length_nil, Nat.reduceAdd, fillL, sliceL, Value.cells, List.toList_toArray, List.append_nil, List.getElem?_cons_zero, get1, get2, get3, Option.getD_some]))
      | refine OpsJ.nil ?_
      | refine CodeJ.cond_t rfl (by with_reducible assumption) ?_
      | refine CodeJ.cond_f rfl (by with_reducible assumption) ?_
      | refine CodeJ.cond_dt rfl (by omega) ?_
      | refine CodeJ.cond_df rfl (by omega) ?_
      | refine CodeJ.cond_t rfl rfl ?_
      | refine CodeJ.cond_f rfl rfl ?_)
    refine OpsJ.act (OpJ.store_row rfl rfl rfl (by first | exact List.Perm.refl _ | exact List.Perm.swap _ _ _ | exact permm2 _ _ _ _ | exact permm3 _ _ _ _ _ | exact permm4 _ _ _ _ _ _ | exact permm5 _ _ _ _ _ _ _) rfl (ne_get hget) (by exact rfl) (by simp only [List.length_cons, List.length_nil]; omega) (by exact rfl) ?_)
    repeat (first
      | refine CodeJ.seq' ?_
      | refine CodeJ.region ?_
      | refine CodeJ.block ?_
      | refine CodeJ.skip ?_
      | refine CodeJ.exit rfl ?_
      | refine CodeJ.ret' ?_
      | (refine OpsJ.put rfl ?_; first
        | refine OpJ.pure (OpP.move rfl) ?_
        | (refine OpJ.buildSlice rfl rfl (by exact rfl) (by exact rfl) rfl (fun _ => ?_); dsimp only [lsplice, take1, take2, take3, take4, drop1, drop2, drop3, drop4, List.take_zero, List.drop_zero, List.cons_append, List.nil_append, List.length_cons, List.length_nil, Nat.reduceAdd, fillL, sliceL, Value.cells, List.toList_toArray, List.append_nil, List.getElem?_cons_zero, get1, get2, get3, Option.getD_some])
        | refine OpJ.append rfl rfl (by first | exact List.Perm.refl _ | exact List.Perm.swap _ _ _ | exact permm2 _ _ _ _ | exact permm3 _ _ _ _ _ | exact permm4 _ _ _ _ _ _ | exact permm5 _ _ _ _ _ _ _) (Src.ofRow (by repeat (first | exact List.Mem.head _ | apply List.Mem.tail))) (by exact rfl) (by exact rfl) (by exact rfl) (by exact rfl) (by omega) (by omega) (fun _ _ => ?_)
        | refine OpJ.pure (OpP.assign rfl) ?_
        | refine OpJ.pure (OpP.len rfl) ?_
        | refine OpJ.pure (OpP.len_string rfl) ?_
        | refine OpJ.pure (OpP.lss rfl rfl) ?_
        | refine OpJ.pure (OpP.idx1 rfl rfl (by omega) (by omega) (Src.ofR (by with_reducible assumption)) (ne_get (by assumption))) ?_
        | refine OpJ.pure (OpP.idx1 rfl rfl (by omega) (by omega) (Src.ofRow (by repeat (first | exact List.Mem.head _ | apply List.Mem.tail))) (ne_get (by assumption))) ?_
        | refine OpJ.pure (OpP.add_in rfl rfl (by omega) (by omega)) ?_
        | refine OpJ.pure (OpP.cat rfl rfl (by omega)) ?_
        | refine OpJ.pure (OpP.add rfl rfl) ?_)
      | (refine OpsJ.act ?_; first
        | (refine OpJ.store rfl rfl rfl (by first | exact List.Perm.refl _ | exact List.Perm.swap _ _ _ | exact permm2 _ _ _ _ | exact permm3 _ _ _ _ _ | exact permm4 _ _ _ _ _ _ | exact permm5 _ _ _ _ _ _ _) (by exact rfl) (by exact rfl) (by exact rfl) ?_; dsimp only [lsplice, take1, take2, take3, take4, drop1, drop2, drop3, drop4, List.take_zero, List.drop_zero, List.cons_append, List.nil_append, List.length_cons, List.length_nil, Nat.reduceAdd, fillL, sliceL, Value.cells, List.toList_toArray, List.append_nil, List.getElem?_cons_zero, get1, get2, get3, Option.getD_some]))
      | refine OpsJ.nil ?_
      | refine CodeJ.cond_t rfl (by with_reducible assumption) ?_
      | refine CodeJ.cond_f rfl (by with_reducible assumption) ?_
      | refine CodeJ.cond_dt rfl (by omega) ?_
      | refine CodeJ.cond_df rfl (by omega) ?_
      | refine CodeJ.cond_t rfl rfl ?_
      | refine CodeJ.cond_f rfl rfl ?_)
    refine ⟨m1 - (i + 1), _, _, _, by omega, ⟨i + 1, _, _, _, _, hm1, by omega, rfl, ?_, rfl, rfl⟩, (by repeat (first | exact IM.le_refl _ | assumption | refine IM.le_trans ?_ (IM.le_or _ _))), (by repeat (first | exact SubE.nil _ | refine SubE.cons rfl ?_)), (by repeat (first | exact SubL.nil _ | refine SubL.p0 ?_ | refine SubL.p1 ?_ | refine SubL.p2 ?_ | refine SubL.p3 ?_ | refine SubL.p4 ?_ | refine SubL.p5 ?_ | refine SubL.p6 ?_ | refine SubL.p7 ?_))⟩
    simp only [lsplice, List.length_append, List.length_take, List.length_drop, List.length_cons, List.length_nil]; omega
  · repeat (first
      | refine CodeJ.seq' ?_
      | refine CodeJ.region ?_
      | refine CodeJ.block ?_
      | refine CodeJ.skip ?_
      | refine CodeJ.exit rfl ?_
      | refine CodeJ.ret' ?_
      | (refine OpsJ.put rfl ?_; first
        | refine OpJ.pure (OpP.move rfl) ?_
        | (refine OpJ.buildSlice rfl rfl (by exact rfl) (by exact rfl) rfl (fun _ => ?_); dsimp only [lsplice, take1, take2, take3, take4, drop1, drop2, drop3, drop4, List.take_zero, List.drop_zero, List.cons_append, List.nil_append, List.length_cons, List.length_nil, Nat.reduceAdd, fillL, sliceL, Value.cells, List.toList_toArray, List.append_nil, List.getElem?_cons_zero, get1, get2, get3, Option.getD_some])
        | refine OpJ.append rfl rfl (by first | exact List.Perm.refl _ | exact List.Perm.swap _ _ _ | exact permm2 _ _ _ _ | exact permm3 _ _ _ _ _ | exact permm4 _ _ _ _ _ _ | exact permm5 _ _ _ _ _ _ _) (Src.ofRow (by repeat (first | exact List.Mem.head _ | apply List.Mem.tail))) (by exact rfl) (by exact rfl) (by exact rfl) (by exact rfl) (by omega) (by omega) (fun _ _ => ?_)
        | refine OpJ.pure (OpP.assign rfl) ?_
        | refine OpJ.pure (OpP.len rfl) ?_
        | refine OpJ.pure (OpP.len_string rfl) ?_
        | refine OpJ.pure (OpP.lss rfl rfl) ?_
        | refine OpJ.pure (OpP.idx1 rfl rfl (by omega) (by omega) (Src.ofR (by with_reducible assumption)) (ne_get (by assumption))) ?_
        | refine OpJ.pure (OpP.idx1 rfl rfl (by omega) (by omega) (Src.ofRow (by repeat (first | exact List.Mem.head _ | apply List.Mem.tail))) (ne_get (by assumption))) ?_
        | refine OpJ.pure (OpP.add_in rfl rfl (by omega) (by omega)) ?_
        | refine OpJ.pure (OpP.cat rfl rfl (by omega)) ?_
        | refine OpJ.pure (OpP.add rfl rfl) ?_)
      | (refine OpsJ.act ?_; first
        | (refine OpJ.store rfl rfl rfl (by first | exact List.Perm.refl _ | exact List.Perm.swap _ _ _ | exact permm2 _ _ _ _ | exact permm3 _ _ _ _ _ | exact permm4 _ _ _ _ _ _ | exact permm5 _ _ _ _ _ _ _) (by exact rfl) (by exact rfl) (by exact rfl) ?_; dsimp only [lsplice, take1, take2, take3, take4, drop1, drop2, drop3, drop4, List.take_zero, List.drop_zero, List.cons_append, List.nil_append, List.length_cons, List.length_nil, Nat.reduceAdd, fillL, sliceL, Value.cells, List.toList_toArray, List.append_nil, List.getElem?_cons_zero, get1, get2, get3, Option.getD_some]))
      | refine OpsJ.nil ?_
      | refine CodeJ.cond_t rfl (by with_reducible assumption) ?_
      | refine CodeJ.cond_f rfl (by with_reducible assumption) ?_
      | refine CodeJ.cond_dt rfl (by omega) ?_
      | refine CodeJ.cond_df rfl (by omega) ?_
      | refine CodeJ.cond_t rfl rfl ?_
      | refine CodeJ.cond_f rfl rfl ?_)
    exact Ret.mk0 ⟨rfl, rfl⟩ (ResJ.none Try.results22) (by repeat (first | exact IM.le_refl _ | assumption | refine IM.le_trans ?_ (IM.le_or _ _))) (by repeat (first | exact SubL.nil _ | refine SubL.p0 ?_ | refine SubL.p1 ?_ | refine SubL.p2 ?_ | refine SubL.p3 ?_ | refine SubL.p4 ?_ | refine SubL.p5 ?_ | refine SubL.p6 ?_ | refine SubL.p7 ?_))
theorem refnums_calls (R : IM) (B : Option Addr) (m' c' : Nat) (xs : List Int) (hB : RC R B (icells xs)) (hm' : m' = xs.length) (hb : xs.length ≤ 100000000) (hx : ∀ i, i < xs.length → -9223372036854775808 ≤ xs.getD i 0 ∧ xs.getD i 0 ≤ 9223372036854775807) :
    CallJ Try.prog 20 #[.slice B m' c'] ⟨R, []⟩ (fun u D hs' => ∃ A m c cs, u = .slice A m c ∧ m = (encs xs).length ∧ cs = bcells (encs xs) ∧ hs' = [.row 5 1 A m c cs]) := by
  refine CallJ.of1 Try.func20 rfl Try.ntmps20 rfl (fun W0 => ?_)
  refine CodeJ.nilrow 5 1 ?_
  repeat (first
    | refine CodeJ.seq' ?_
    | refine CodeJ.region ?_
    | refine CodeJ.block ?_
    | refine CodeJ.skip ?_
    | refine CodeJ.exit rfl ?_
    | refine CodeJ.ret' ?_
    | (refine OpsJ.put rfl ?_; first
      | refine OpJ.pure (OpP.assign rfl) ?_
      | refine OpJ.pure (OpP.move rfl) ?_
      | refine OpJ.pure (OpP.len rfl) ?_
      | refine OpJ.pure (OpP.len_string rfl) ?_
      | refine OpJ.pure (OpP.lss rfl rfl) ?_
      | refine OpJ.pure (OpP.idx1 rfl rfl (by omega) (by omega) (Src.ofR (by with_reducible assumption)) (ne_get (by assumption))) ?_
      | refine OpJ.pure (OpP.idx1 rfl rfl (by omega) (by omega) (Src.ofRow (by repeat (first | exact List.Mem.head _ | apply List.Mem.tail))) (ne_get (by assumption))) ?_
      | refine OpJ.pure (OpP.load_blk (by exact rfl) rfl (by repeat (first | exact List.Mem.head _ | apply List.Mem.tail)) rfl) ?_
      | refine OpJ.pure (OpP.loadN_blk (by exact rfl) rfl (by repeat (first | exact List.Mem.head _ | apply List.Mem.tail)) (by exact rfl)) ?_
      | refine OpJ.pure (OpP.load1 (by exact rfl) rfl (Src.ofR (by with_reducible assumption)) rfl (by assumption)) ?_
      | refine OpJ.pure (OpP.load1 (by exact rfl) rfl (Src.ofRow (by repeat (first | exact List.Mem.head _ | apply List.Mem.tail))) rfl (by assumption)) ?_
      | refine OpJ.append rfl rfl (by first | exact List.Perm.refl _ | exact List.Perm.swap _ _ _ | exact permm2 _ _ _ _ | exact permm3 _ _ _ _ _ | exact permm4 _ _ _ _ _ _ | exact permm5 _ _ _ _ _ _ _) (Src.ofRow (by repeat (first | exact List.Mem.head _ | apply List.Mem.tail))) (by exact rfl) (by exact rfl) (by exact rfl) (by exact rfl) (by omega) (by omega) (fun _ _ => ?_)
      | refine OpJ.pure (OpP.add_in rfl rfl (by omega) (by omega)) ?_
      | refine OpJ.pure (OpP.cat rfl rfl (by omega)) ?_
      | refine OpJ.pure (OpP.add rfl rfl) ?_)
    | refine OpsJ.nil ?_
    | refine CodeJ.cond_t rfl (by with_reducible assumption) ?_
    | refine CodeJ.cond_f rfl (by with_reducible assumption) ?_
    | refine CodeJ.cond_dt rfl (by omega) ?_
    | refine CodeJ.cond_df rfl (by omega) ?_
    | refine CodeJ.cond_t rfl rfl ?_
    | refine CodeJ.cond_f rfl rfl ?_)
  refine CodeJ.loop (fun k e s => ∃ (i : Nat) (R1 : IM) (A : Option Addr) (c m : Nat) (cs : List Value), i ≤ xs.length ∧ k = xs.length - i ∧ m = (encs (xs.take i)).length ∧ cs = bcells (encs (xs.take i)) ∧
      e = [(0, .slice B m' c'), (3, .slice A m c), (4, .int .i64 i)] ∧ s = ⟨R1, [.row 5 1 A m c cs]⟩ ∧ IM.le R R1) xs.length
    ⟨0, R, _, _, _, _, Nat.zero_le _, rfl, rfl, rfl, rfl, rfl, IM.le_refl _⟩ (by repeat (first | exact SubE.nil _ | refine SubE.cons rfl ?_)) (by repeat (first | exact SubL.nil _ | refine SubL.p0 ?_ | refine SubL.p1 ?_ | refine SubL.p2 ?_ | refine SubL.p3 ?_ | refine SubL.p4 ?_ | refine SubL.p5 ?_ | refine SubL.p6 ?_ | refine SubL.p7 ?_)) ?_
  rintro k e1 s1 ⟨i, R1, A, c, m, cs, hi, hk, hm, hcs, rfl, rfl, hR1⟩
  have hB1 := hB.mono hR1
  have hl : m ≤ 900000000 := by
    have := encs_length (xs.take i)
    rw [List.length_take] at this
    omega
  repeat (first
    | refine CodeJ.seq' ?_
    | refine CodeJ.region ?_
    | refine CodeJ.block ?_
    | refine CodeJ.skip ?_
    | refine CodeJ.exit rfl ?_
    | refine CodeJ.ret' ?_
    | (refine OpsJ.put rfl ?_; first
      | refine OpJ.pure (OpP.assign rfl) ?_
      | refine OpJ.pure (OpP.move rfl) ?_
      | refine OpJ.pure (OpP.len rfl) ?_
      | refine OpJ.pure (OpP.len_string rfl) ?_
      | refine OpJ.pure (OpP.lss rfl rfl) ?_
      | refine OpJ.pure (OpP.idx1 rfl rfl (by omega) (by omega) (Src.ofR (by with_reducible assumption)) (ne_get (by assumption))) ?_
      | refine OpJ.pure (OpP.idx1 rfl rfl (by omega) (by omega) (Src.ofRow (by repeat (first | exact List.Mem.head _ | apply List.Mem.tail))) (ne_get (by assumption))) ?_
      | refine OpJ.pure (OpP.load_blk (by exact rfl) rfl (by repeat (first | exact List.Mem.head _ | apply List.Mem.tail)) rfl) ?_
      | refine OpJ.pure (OpP.loadN_blk (by exact rfl) rfl (by repeat (first | exact List.Mem.head _ | apply List.Mem.tail)) (by exact rfl)) ?_
      | refine OpJ.pure (OpP.load1 (by exact rfl) rfl (Src.ofR (by with_reducible assumption)) rfl (by assumption)) ?_
      | refine OpJ.pure (OpP.load1 (by exact rfl) rfl (Src.ofRow (by repeat (first | exact List.Mem.head _ | apply List.Mem.tail))) rfl (by assumption)) ?_
      | refine OpJ.append rfl rfl (by first | exact List.Perm.refl _ | exact List.Perm.swap _ _ _ | exact permm2 _ _ _ _ | exact permm3 _ _ _ _ _ | exact permm4 _ _ _ _ _ _ | exact permm5 _ _ _ _ _ _ _) (Src.ofRow (by repeat (first | exact List.Mem.head _ | apply List.Mem.tail))) (by exact rfl) (by exact rfl) (by exact rfl) (by exact rfl) (by omega) (by omega) (fun _ _ => ?_)
      | refine OpJ.pure (OpP.add_in rfl rfl (by omega) (by omega)) ?_
      | refine OpJ.pure (OpP.cat rfl rfl (by omega)) ?_
      | refine OpJ.pure (OpP.add rfl rfl) ?_)
    | refine OpsJ.nil ?_
    | refine CodeJ.cond_t rfl (by with_reducible assumption) ?_
    | refine CodeJ.cond_f rfl (by with_reducible assumption) ?_
    | refine CodeJ.cond_dt rfl (by omega) ?_
    | refine CodeJ.cond_df rfl (by omega) ?_
    | refine CodeJ.cond_t rfl rfl ?_
    | refine CodeJ.cond_f rfl rfl ?_)
  refine CodeJ.cond_d rfl (fun hc => ?_) (fun hc => ?_)
  · have hcell := icells_get (a := xs) (i := i) (by omega)
    have hl9 := enc_clamp_length (xs.getD i 0)
    repeat (first
      | refine CodeJ.seq' ?_
      | refine CodeJ.region ?_
      | refine CodeJ.block ?_
      | refine CodeJ.skip ?_
      | refine CodeJ.exit rfl ?_
      | refine CodeJ.ret' ?_
      | (refine OpsJ.put rfl ?_; first
        | refine OpJ.pure (OpP.assign rfl) ?_
        | refine OpJ.pure (OpP.move rfl) ?_
        | refine OpJ.pure (OpP.len rfl) ?_
        | refine OpJ.pure (OpP.len_string rfl) ?_
        | refine OpJ.pure (OpP.lss rfl rfl) ?_
        | refine OpJ.pure (OpP.idx1 rfl rfl (by omega) (by omega) (Src.ofR (by with_reducible assumption)) (ne_get (by assumption))) ?_
        | refine OpJ.pure (OpP.idx1 rfl rfl (by omega) (by omega) (Src.ofRow (by repeat (first | exact List.Mem.head _ | apply List.Mem.tail))) (ne_get (by assumption))) ?_
        | refine OpJ.pure (OpP.load_blk (by exact rfl) rfl (by repeat (first | exact List.Mem.head _ | apply List.Mem.tail)) rfl) ?_
        | refine OpJ.pure (OpP.loadN_blk (by exact rfl) rfl (by repeat (first | exact List.Mem.head _ | apply List.Mem.tail)) (by exact rfl)) ?_
        | refine OpJ.pure (OpP.load1 (by exact rfl) rfl (Src.ofR (by with_reducible assumption)) rfl (by assumption)) ?_
        | refine OpJ.pure (OpP.load1 (by exact rfl) rfl (Src.ofRow (by repeat (first | exact List.Mem.head _ | apply List.Mem.tail))) rfl (by assumption)) ?_
        | refine OpJ.append rfl rfl (by first | exact List.Perm.refl _ | exact List.Perm.swap _ _ _ | exact permm2 _ _ _ _ | exact permm3 _ _ _ _ _ | exact permm4 _ _ _ _ _ _ | exact permm5 _ _ _ _ _ _ _) (Src.ofRow (by repeat (first | exact List.Mem.head _ | apply List.Mem.tail))) (by exact rfl) (by exact rfl) (by exact rfl) (by exact rfl) (by omega) (by omega) (fun _ _ => ?_)
        | refine OpJ.pure (OpP.add_in rfl rfl (by omega) (by omega)) ?_
        | refine OpJ.pure (OpP.cat rfl rfl (by omega)) ?_
        | refine OpJ.pure (OpP.add rfl rfl) ?_)
      | refine OpsJ.nil ?_
      | refine CodeJ.cond_t rfl (by with_reducible assumption) ?_
      | refine CodeJ.cond_f rfl (by with_reducible assumption) ?_
      | refine CodeJ.cond_dt rfl (by omega) ?_
      | refine CodeJ.cond_df rfl (by omega) ?_
      | refine CodeJ.cond_t rfl rfl ?_
      | refine CodeJ.cond_f rfl rfl ?_)
    refine OpsJ.put (d := 16) rfl (OpJ.call (pass := []) rfl Split.nil (fun R' hle hin => refnum_calls R' _ (hx i (by omega))) ?_)
    rintro u D hs1 hd ⟨A2, m2, c2, cs2, rfl, hm2, hcs2, rfl⟩
    repeat (first
      | (refine OpsJ.put (d := 17) rfl (OpJ.append rfl rfl (by first | exact List.Perm.refl _ | exact List.Perm.swap _ _ _ | exact permm2 _ _ _ _ | exact permm3 _ _ _ _ _ | exact permm4 _ _ _ _ _ _ | exact permm5 _ _ _ _ _ _ _) (Src.ofRow (by repeat (first | exact List.Mem.head _ | apply List.Mem.tail))) (by rw [hcs2, bcells_length, hm2, Nat.mul_one]) (by exact rfl) (by exact rfl) (by rw [hcs2]; exact bcells_one _) (by omega) (by omega) (fun _ _ => ?_)))
      | refine CodeJ.seq' ?_
      | refine CodeJ.region ?_
      | refine CodeJ.block ?_
      | refine CodeJ.skip ?_
      | refine CodeJ.exit rfl ?_
      | refine CodeJ.ret' ?_
      | (refine OpsJ.put rfl ?_; first
        | refine OpJ.pure (OpP.assign rfl) ?_
        | refine OpJ.pure (OpP.move rfl) ?_
        | refine OpJ.pure (OpP.len rfl) ?_
        | refine OpJ.pure (OpP.len_string rfl) ?_
        | refine OpJ.pure (OpP.lss rfl rfl) ?_
        | refine OpJ.pure (OpP.idx1 rfl rfl (by omega) (by omega) (Src.ofR (by with_reducible assumption)) (ne_get (by assumption))) ?_
        | refine OpJ.pure (OpP.idx1 rfl rfl (by omega) (by omega) (Src.ofRow (by repeat (first | exact List.Mem.head _ | apply List.Mem.tail))) (ne_get (by assumption))) ?_
        | refine OpJ.pure (OpP.load_blk (by exact rfl) rfl (by repeat (first | exact List.Mem.head _ | apply List.Mem.tail)) rfl) ?_
        | refine OpJ.pure (OpP.loadN_blk (by exact rfl) rfl (by repeat (first | exact List.Mem.head _ | apply List.Mem.tail)) (by exact rfl)) ?_
        | refine OpJ.pure (OpP.load1 (by exact rfl) rfl (Src.ofR (by with_reducible assumption)) rfl (by assumption)) ?_
        | refine OpJ.pure (OpP.load1 (by exact rfl) rfl (Src.ofRow (by repeat (first | exact List.Mem.head _ | apply List.Mem.tail))) rfl (by assumption)) ?_
        | refine OpJ.append rfl rfl (by first | exact List.Perm.refl _ | exact List.Perm.swap _ _ _ | exact permm2 _ _ _ _ | exact permm3 _ _ _ _ _ | exact permm4 _ _ _ _ _ _ | exact permm5 _ _ _ _ _ _ _) (Src.ofRow (by repeat (first | exact List.Mem.head _ | apply List.Mem.tail))) (by exact rfl) (by exact rfl) (by exact rfl) (by exact rfl) (by omega) (by omega) (fun _ _ => ?_)
        | refine OpJ.pure (OpP.add_in rfl rfl (by omega) (by omega)) ?_
        | refine OpJ.pure (OpP.cat rfl rfl (by omega)) ?_
        | refine OpJ.pure (OpP.add rfl rfl) ?_)
      | refine OpsJ.nil ?_
      | refine CodeJ.cond_t rfl (by with_reducible assumption) ?_
      | refine CodeJ.cond_f rfl (by with_reducible assumption) ?_
      | refine CodeJ.cond_dt rfl (by omega) ?_
      | refine CodeJ.cond_df rfl (by omega) ?_
      | refine CodeJ.cond_t rfl rfl ?_
      | refine CodeJ.cond_f rfl rfl ?_)
    refine ⟨xs.length - (i + 1), _, _, _, by omega, ⟨i + 1, _, _, _, _, _, by omega, rfl, ?_, ?_, rfl, rfl, ?_⟩, IM.le_refl _, (by repeat (first | exact SubE.nil _ | refine SubE.cons rfl ?_)), (by repeat (first | exact SubL.nil _ | refine SubL.p0 ?_ | refine SubL.p1 ?_ | refine SubL.p2 ?_ | refine SubL.p3 ?_ | refine SubL.p4 ?_ | refine SubL.p5 ?_ | refine SubL.p6 ?_ | refine SubL.p7 ?_))⟩
    · rw [encs_take_succ (by omega), List.length_append, hm, hm2]
    · rw [encs_take_succ (by omega), bcells_append, hcs, hcs2]
    · exact (by repeat (first | exact IM.le_refl _ | assumption | refine IM.le_trans ?_ (IM.le_or _ _)))
  · repeat (first
      | refine CodeJ.seq' ?_
      | refine CodeJ.region ?_
      | refine CodeJ.block ?_
      | refine CodeJ.skip ?_
      | refine CodeJ.exit rfl ?_
      | refine CodeJ.ret' ?_
      | (refine OpsJ.put rfl ?_; first
        | refine OpJ.pure (OpP.assign rfl) ?_
        | refine OpJ.pure (OpP.move rfl) ?_
        | refine OpJ.pure (OpP.len rfl) ?_
        | refine OpJ.pure (OpP.len_string rfl) ?_
        | refine OpJ.pure (OpP.lss rfl rfl) ?_
        | refine OpJ.pure (OpP.idx1 rfl rfl (by omega) (by omega) (Src.ofR (by with_reducible assumption)) (ne_get (by assumption))) ?_
        | refine OpJ.pure (OpP.idx1 rfl rfl (by omega) (by omega) (Src.ofRow (by repeat (first | exact List.Mem.head _ | apply List.Mem.tail))) (ne_get (by assumption))) ?_
        | refine OpJ.pure (OpP.load_blk (by exact rfl) rfl (by repeat (first | exact List.Mem.head _ | apply List.Mem.tail)) rfl) ?_
        | refine OpJ.pure (OpP.loadN_blk (by exact rfl) rfl (by repeat (first | exact List.Mem.head _ | apply List.Mem.tail)) (by exact rfl)) ?_
        | refine OpJ.pure (OpP.load1 (by exact rfl) rfl (Src.ofR (by with_reducible assumption)) rfl (by assumption)) ?_
        | refine OpJ.pure (OpP.load1 (by exact rfl) rfl (Src.ofRow (by repeat (first | exact List.Mem.head _ | apply List.Mem.tail))) rfl (by assumption)) ?_
        | refine OpJ.append rfl rfl (by first | exact List.Perm.refl _ | exact List.Perm.swap _ _ _ | exact permm2 _ _ _ _ | exact permm3 _ _ _ _ _ | exact permm4 _ _ _ _ _ _ | exact permm5 _ _ _ _ _ _ _) (Src.ofRow (by repeat (first | exact List.Mem.head _ | apply List.Mem.tail))) (by exact rfl) (by exact rfl) (by exact rfl) (by exact rfl) (by omega) (by omega) (fun _ _ => ?_)
        | refine OpJ.pure (OpP.add_in rfl rfl (by omega) (by omega)) ?_
        | refine OpJ.pure (OpP.cat rfl rfl (by omega)) ?_
        | refine OpJ.pure (OpP.add rfl rfl) ?_)
      | refine OpsJ.nil ?_
      | refine CodeJ.cond_t rfl (by with_reducible assumption) ?_
      | refine CodeJ.cond_f rfl (by with_reducible assumption) ?_
      | refine CodeJ.cond_dt rfl (by omega) ?_
      | refine CodeJ.cond_df rfl (by omega) ?_
      | refine CodeJ.cond_t rfl rfl ?_
      | refine CodeJ.cond_f rfl rfl ?_)
    have hi2 : i = xs.length := by omega
    rw [hi2, List.take_length] at hm hcs
    exact Ret.mk0 ⟨_, _, _, _, rfl, hm, hcs, rfl⟩ (ResJ.one Try.results20 rfl) (by repeat (first | exact IM.le_refl _ | assumption | refine IM.le_trans ?_ (IM.le_or _ _))) (by repeat (first | exact SubL.nil _ | refine SubL.p0 ?_ | refine SubL.p1 ?_ | refine SubL.p2 ?_ | refine SubL.p3 ?_ | refine SubL.p4 ?_ | refine SubL.p5 ?_ | refine SubL.p6 ?_ | refine SubL.p7 ?_))
theorem refbytes_calls (R : IM) (B : Option Addr) (m' c' : Nat) (ps : List UInt8) (hB : RC R B (bcells ps)) (hm' : m' = ps.length) (hb : ps.length ≤ 100000000) :
    CallJ Try.prog 42 #[.slice B m' c'] ⟨R, []⟩ (fun u D hs' => ∃ A m c cs, u = .slice A m c ∧ m = (encRow ps).length ∧ cs = bcells (encRow ps) ∧ hs' = [.row 5 1 A m c cs]) := by
  refine CallJ.of1 Try.func42 rfl Try.ntmps42 rfl (fun W0 => ?_)
  have hl9 := enc_clamp_length (m' : Int)
  have hcl : clamp (m' : Int) = ps.length := by rw [clamp_nat _ (by omega), hm']
  repeat (first
    | refine CodeJ.seq' ?_
    | refine CodeJ.region ?_
    | refine CodeJ.block ?_
    | refine CodeJ.skip ?_
    | refine CodeJ.exit rfl ?_
    | refine CodeJ.ret' ?_
    | (refine OpsJ.put rfl ?_; first
      | refine OpJ.pure (OpP.assign rfl) ?_
      | refine OpJ.pure (OpP.move rfl) ?_
      | refine OpJ.pure (OpP.len rfl) ?_
      | refine OpJ.pure (OpP.len_string rfl) ?_
      | refine OpJ.append rfl rfl (by first | exact List.Perm.refl _ | exact List.Perm.swap _ _ _ | exact permm2 _ _ _ _ | exact permm3 _ _ _ _ _ | exact permm4 _ _ _ _ _ _ | exact permm5 _ _ _ _ _ _ _) (Src.ofRow (by repeat (first | exact List.Mem.head _ | apply List.Mem.tail))) (by exact rfl) (by exact rfl) (by exact rfl) (by exact rfl) (by omega) (by omega) (fun _ _ => ?_))
    | refine OpsJ.nil ?_
    | refine CodeJ.cond_t rfl (by with_reducible assumption) ?_
    | refine CodeJ.cond_f rfl (by with_reducible assumption) ?_
    | refine CodeJ.cond_dt rfl (by omega) ?_
    | refine CodeJ.cond_df rfl (by omega) ?_
    | refine CodeJ.cond_t rfl rfl ?_
    | refine CodeJ.cond_f rfl rfl ?_)
  refine OpsJ.put (d := 5) rfl (OpJ.call (pass := []) rfl Split.nil (fun R' hle hin => refnum_calls R' _ (by omega)) ?_)
  rintro u D hs1 hd ⟨A2, m2, c2, cs2, rfl, hm2, hcs2, rfl⟩
  have hB1 := hB.mono (IM.le_or R D)
  repeat (first
    | (refine OpsJ.put (d := 7) rfl (OpJ.append rfl rfl (by first | exact List.Perm.refl _ | exact List.Perm.swap _ _ _ | exact permm2 _ _ _ _ | exact permm3 _ _ _ _ _ | exact permm4 _ _ _ _ _ _ | exact permm5 _ _ _ _ _ _ _) (Src.ofR hB1) (by rw [bcells_length, hm', Nat.mul_one]) (by exact rfl) (by exact rfl) (bcells_one _) (by omega) (by omega) (fun _ _ => ?_)))
    | refine CodeJ.seq' ?_
    | refine CodeJ.region ?_
    | refine CodeJ.block ?_
    | refine CodeJ.skip ?_
    | refine CodeJ.exit rfl ?_
    | refine CodeJ.ret' ?_
    | (refine OpsJ.put rfl ?_; first
      | refine OpJ.pure (OpP.assign rfl) ?_
      | refine OpJ.pure (OpP.move rfl) ?_
      | refine OpJ.pure (OpP.len rfl) ?_
      | refine OpJ.pure (OpP.len_string rfl) ?_
      | refine OpJ.append rfl rfl (by first | exact List.Perm.refl _ | exact List.Perm.swap _ _ _ | exact permm2 _ _ _ _ | exact permm3 _ _ _ _ _ | exact permm4 _ _ _ _ _ _ | exact permm5 _ _ _ _ _ _ _) (Src.ofRow (by repeat (first | exact List.Mem.head _ | apply List.Mem.tail))) (by exact rfl) (by exact rfl) (by exact rfl) (by exact rfl) (by omega) (by omega) (fun _ _ => ?_))
    | refine OpsJ.nil ?_
    | refine CodeJ.cond_t rfl (by with_reducible assumption) ?_
    | refine CodeJ.cond_f rfl (by with_reducible assumption) ?_
    | refine CodeJ.cond_dt rfl (by omega) ?_
    | refine CodeJ.cond_df rfl (by omega) ?_
    | refine CodeJ.cond_t rfl rfl ?_
    | refine CodeJ.cond_f rfl rfl ?_)
  refine Ret.mk0 ⟨_, _, _, _, rfl, ?_, ?_, rfl⟩ (ResJ.one Try.results42 rfl) (by repeat (first | exact IM.le_refl _ | assumption | refine IM.le_trans ?_ (IM.le_or _ _))) (by repeat (first | exact SubL.nil _ | refine SubL.p0 ?_ | refine SubL.p1 ?_ | refine SubL.p2 ?_ | refine SubL.p3 ?_ | refine SubL.p4 ?_ | refine SubL.p5 ?_ | refine SubL.p6 ?_ | refine SubL.p7 ?_))
  · rw [hm2, hcl, encRow, List.length_append, hm']
  · rw [hcs2, hcl, encRow, bcells_append]
end Go.Proofs.Ytdicpnnmhjgnbaa.FW
