/- octet's Writer: the walks. -/
import Derived.Test.YtdicpnnmhjgnbaaT
import Derived.Test.YtdicpnnmhjgnbaaOc0
namespace Go.Proofs.Ytdicpnnmhjgnbaa.FW
open Go Go.RowKit Go.Proofs
set_option linter.unusedVariables false
set_option linter.unusedSimpArgs false
set_option maxRecDepth 100000
set_option maxHeartbeats 4000000
attribute [local irreducible] OpsJ CodeJ OpJ OpQ OpP QuietJ CallJ Src RC
/-- A Writer that has laid bytes. -/
def WriterC (g : Nat) (bs : List UInt8) (hs : List Chunk) : Prop := ∃ A c m cs, m = bs.length ∧ cs = bcells bs ∧ hs = [.blk g [.slice A m c] 25, .row 5 1 A m c cs]
theorem nums_calls (R : IM) (g : Nat) (B : Option Addr) (c' m' : Nat) (bs : List UInt8) (xs : List Int) (hs : List Chunk) (hB : RC R B (icells xs)) (hm' : m' = xs.length) (hW : WriterC g bs hs) (hb : bs.length + 9 * xs.length ≤ 1000000000) :
    CallJ Try.prog 17 #[.pointer (some ⟨g, 0, none⟩), .slice B m' c'] ⟨R, hs⟩
    (fun v D hs' => v = .tuple #[] ∧ WriterC g (bs ++ encs xs) hs') := by
  obtain ⟨A, c, m, cs, hm, hcs, rfl⟩ := hW
  refine CallJ.of2 Try.func17 rfl Try.ntmps17 rfl (fun W0 => ?_)
  repeat (first
    | refine CodeJ.seq' ?_
    | refine CodeJ.region ?_
    | refine CodeJ.block ?_
    | refine CodeJ.skip ?_
    | refine CodeJ.exit rfl ?_
    | refine CodeJ.ret' ?_
    | (refine OpsJ.put (d := 18) rfl ?_; refine OpJ.conv_bytes rfl (by first | exact List.Perm.refl _ | exact List.Perm.swap _ _ _ | exact permm2 _ _ _ _ | exact permm3 _ _ _ _ _ | exact permm4 _ _ _ _ _ _ | exact permm5 _ _ _ _ _ _ _) (fun D18 hdis18 hrc18 => ?_))
    | (refine OpsJ.put (d := 18) rfl ?_; refine OpJ.conv_string_bytes rfl (fun A18 c18 D18 hdis18 hrc18 hcap18 => ?_))
    | (refine OpsJ.put (d := 29) rfl ?_; refine OpJ.conv_bytes rfl (by first | exact List.Perm.refl _ | exact List.Perm.swap _ _ _ | exact permm2 _ _ _ _ | exact permm3 _ _ _ _ _ | exact permm4 _ _ _ _ _ _ | exact permm5 _ _ _ _ _ _ _) (fun D29 hdis29 hrc29 => ?_))
    | (refine OpsJ.put (d := 29) rfl ?_; refine OpJ.conv_string_bytes rfl (fun A29 c29 D29 hdis29 hrc29 hcap29 => ?_))
    | (refine OpsJ.put (d := 41) rfl ?_; refine OpJ.conv_bytes rfl (by first | exact List.Perm.refl _ | exact List.Perm.swap _ _ _ | exact permm2 _ _ _ _ | exact permm3 _ _ _ _ _ | exact permm4 _ _ _ _ _ _ | exact permm5 _ _ _ _ _ _ _) (fun D41 hdis41 hrc41 => ?_))
    | (refine OpsJ.put (d := 41) rfl ?_; refine OpJ.conv_string_bytes rfl (fun A41 c41 D41 hdis41 hrc41 hcap41 => ?_))
    | (refine OpsJ.put rfl ?_; first
      | refine OpJ.pure (OpP.move rfl) ?_
      | refine OpJ.pure (OpP.eql rfl rfl) ?_
      | refine OpJ.pure (OpP.eql_string rfl rfl) ?_
      | refine OpJ.pure (OpP.eql_bool rfl rfl) ?_
      | refine OpJ.pure (OpP.eql_nil rfl rfl) ?_
      | refine OpJ.pure (OpP.eql_nil_slice rfl rfl) ?_
      | refine OpJ.pure (OpP.len rfl) ?_
      | refine OpJ.pure (OpP.len_string rfl) ?_
      | refine OpJ.pure (OpP.lss rfl rfl) ?_
      | refine OpJ.pure (OpP.idx1 rfl rfl (by omega) (by omega) (Src.ofR (by with_reducible assumption)) (ne_get (by assumption))) ?_
      | refine OpJ.pure (OpP.idx1 rfl rfl (by omega) (by omega) (Src.ofRow (by repeat (first | exact List.Mem.head _ | apply List.Mem.tail))) (ne_get (by assumption))) ?_
      | refine OpJ.pure (OpP.load_blk (by exact rfl) rfl (by repeat (first | exact List.Mem.head _ | apply List.Mem.tail)) rfl) ?_
      | refine OpJ.pure (OpP.loadN_blk (by exact rfl) rfl (by repeat (first | exact List.Mem.head _ | apply List.Mem.tail)) (by exact rfl)) ?_
      | refine OpJ.pure (OpP.load1 (by exact rfl) rfl (Src.ofR (by with_reducible assumption)) rfl (by assumption)) ?_
      | refine OpJ.pure (OpP.load1 (by exact rfl) rfl (Src.ofRow (by repeat (first | exact List.Mem.head _ | apply List.Mem.tail))) rfl (by assumption)) ?_
      | refine OpJ.pure (OpP.assign rfl) ?_
      | refine OpJ.pure (OpP.min rfl rfl) ?_
      | refine OpJ.pure (OpP.max rfl rfl) ?_
      | refine OpJ.pure (OpP.conv_in rfl (by first | exact IntWalk.i64_in _ (by omega) | exact IntWalk.u8_in _ (by omega) | exact IntWalk.u32_in _ (by omega) | exact wrap_u64_in _ (by omega))) ?_
      | refine OpJ.pure (OpP.conv_int rfl) ?_
      | refine OpJ.pure (OpP.conv_string rfl) ?_
      | refine OpJ.pure (OpP.geq rfl rfl) ?_
      | refine OpJ.pure (OpP.nilCheck rfl) ?_
      | refine OpJ.pure (OpP.fldAddr_lit rfl (by exact rfl)) ?_
      | refine OpJ.pure (OpP.fldAddr rfl (by exact rfl)) ?_
      | refine OpJ.pure (OpP.or_nat rfl rfl rfl (by first | with_reducible assumption | assumption | decide | exact lt_b32 (by omega) | exact lt_b8 (by omega) | exact lt_b64 (by omega)) (by first | with_reducible assumption | assumption | decide | exact lt_b32 (by omega) | exact lt_b8 (by omega) | exact lt_b64 (by omega))) ?_
      | refine OpJ.pure (OpP.or rfl rfl) ?_
      | (refine OpJ.buildSlice rfl rfl (by exact rfl) (by exact rfl) rfl (fun _ => ?_); dsimp only [lsplice, take1, take2, take3, take4, drop1, drop2, drop3, drop4, List.take_zero, List.drop_zero, List.cons_append, List.nil_append, List.length_cons, List.length_nil, Nat.reduceAdd, fillL, sliceL, Value.cells, List.toList_toArray, List.append_nil, List.getElem?_cons_zero, get1, get2, get3, Option.getD_some])
      | refine OpJ.append rfl rfl (by first | exact List.Perm.refl _ | exact List.Perm.swap _ _ _ | exact permm2 _ _ _ _ | exact permm3 _ _ _ _ _ | exact permm4 _ _ _ _ _ _ | exact permm5 _ _ _ _ _ _ _) (Src.ofRow (by repeat (first | exact List.Mem.head _ | apply List.Mem.tail))) (by exact rfl) (by exact rfl) (by exact rfl) (by exact rfl) (by omega) (by omega) (fun _ _ => ?_)
      | refine OpJ.pure (OpP.shr_nat rfl rfl rfl) ?_
      | refine OpJ.pure (OpP.shr rfl rfl (by omega)) ?_
      | refine OpJ.pure (OpP.add_in rfl rfl (by omega) (by omega)) ?_
      | refine OpJ.pure (OpP.cat rfl rfl (by omega)) ?_
      | refine OpJ.pure (OpP.add rfl rfl) ?_)
    | (refine OpsJ.act ?_; first
      | (refine OpJ.store rfl rfl rfl (by first | exact List.Perm.refl _ | exact List.Perm.swap _ _ _ | exact permm2 _ _ _ _ | exact permm3 _ _ _ _ _ | exact permm4 _ _ _ _ _ _ | exact permm5 _ _ _ _ _ _ _) (by exact rfl) (by exact rfl) (by exact rfl) ?_; dsimp only [lsplice, take1, take2, take3, take4, drop1, drop2, drop3, drop4, List.take_zero, List.drop_zero, List.cons_append, List.nil_append, List.length_cons, List.length_nil, Nat.reduceAdd, fillL, sliceL, Value.cells, List.toList_toArray, List.append_nil, List.getElem?_cons_zero, get1, get2, get3, Option.getD_some]))
    | refine OpsJ.nil ?_
    | refine CodeJ.cond_t rfl (by with_reducible assumption) ?_
    | refine CodeJ.cond_f rfl (by with_reducible assumption) ?_
    | refine CodeJ.cond_dt rfl (by omega) ?_
    | refine CodeJ.cond_df rfl (by omega) ?_
    | refine CodeJ.cond_t rfl rfl ?_
    | refine CodeJ.cond_f rfl rfl ?_)
  refine CodeJ.loop (fun k e s => ∃ (i : Nat) (A : Option Addr) (c m : Nat) (cs : List Value) (bs1 : List UInt8), i ≤ xs.length ∧ k = xs.length - i ∧ bs1 = bs ++ encs (xs.take i) ∧ m = bs1.length ∧ cs = bcells bs1 ∧
      e = [(0, .pointer (some ⟨g, 0, none⟩)), (9, .slice B m' c'), (10, .int .i64 m'), (11, .int .i64 i)] ∧ s = ⟨R, [.blk g [.slice A m c] 25, .row 5 1 A m c cs]⟩) xs.length
    ⟨0, A, c, m, cs, bs, Nat.zero_le _, rfl, by simp [encs], hm, hcs, rfl, rfl⟩ (by repeat (first | exact SubE.nil _ | refine SubE.cons rfl ?_)) (by repeat (first | exact SubL.nil _ | refine SubL.p0 ?_ | refine SubL.p1 ?_ | refine SubL.p2 ?_ | refine SubL.p3 ?_ | refine SubL.p4 ?_ | refine SubL.p5 ?_ | refine SubL.p6 ?_ | refine SubL.p7 ?_)) ?_
  rintro k e1 s1 ⟨i, A, c, m, cs, bs1, hi, hk, hbs1, hm, hcs, rfl, rfl⟩
  repeat (first
    | refine CodeJ.seq' ?_
    | refine CodeJ.region ?_
    | refine CodeJ.block ?_
    | refine CodeJ.skip ?_
    | refine CodeJ.exit rfl ?_
    | refine CodeJ.ret' ?_
    | (refine OpsJ.put (d := 18) rfl ?_; refine OpJ.conv_bytes rfl (by first | exact List.Perm.refl _ | exact List.Perm.swap _ _ _ | exact permm2 _ _ _ _ | exact permm3 _ _ _ _ _ | exact permm4 _ _ _ _ _ _ | exact permm5 _ _ _ _ _ _ _) (fun D18 hdis18 hrc18 => ?_))
    | (refine OpsJ.put (d := 18) rfl ?_; refine OpJ.conv_string_bytes rfl (fun A18 c18 D18 hdis18 hrc18 hcap18 => ?_))
    | (refine OpsJ.put (d := 29) rfl ?_; refine OpJ.conv_bytes rfl (by first | exact List.Perm.refl _ | exact List.Perm.swap _ _ _ | exact permm2 _ _ _ _ | exact permm3 _ _ _ _ _ | exact permm4 _ _ _ _ _ _ | exact permm5 _ _ _ _ _ _ _) (fun D29 hdis29 hrc29 => ?_))
    | (refine OpsJ.put (d := 29) rfl ?_; refine OpJ.conv_string_bytes rfl (fun A29 c29 D29 hdis29 hrc29 hcap29 => ?_))
    | (refine OpsJ.put (d := 41) rfl ?_; refine OpJ.conv_bytes rfl (by first | exact List.Perm.refl _ | exact List.Perm.swap _ _ _ | exact permm2 _ _ _ _ | exact permm3 _ _ _ _ _ | exact permm4 _ _ _ _ _ _ | exact permm5 _ _ _ _ _ _ _) (fun D41 hdis41 hrc41 => ?_))
    | (refine OpsJ.put (d := 41) rfl ?_; refine OpJ.conv_string_bytes rfl (fun A41 c41 D41 hdis41 hrc41 hcap41 => ?_))
    | (refine OpsJ.put rfl ?_; first
      | refine OpJ.pure (OpP.move rfl) ?_
      | refine OpJ.pure (OpP.eql rfl rfl) ?_
      | refine OpJ.pure (OpP.eql_string rfl rfl) ?_
      | refine OpJ.pure (OpP.eql_bool rfl rfl) ?_
      | refine OpJ.pure (OpP.eql_nil rfl rfl) ?_
      | refine OpJ.pure (OpP.eql_nil_slice rfl rfl) ?_
      | refine OpJ.pure (OpP.len rfl) ?_
      | refine OpJ.pure (OpP.len_string rfl) ?_
      | refine OpJ.pure (OpP.lss rfl rfl) ?_
      | refine OpJ.pure (OpP.idx1 rfl rfl (by omega) (by omega) (Src.ofR (by with_reducible assumption)) (ne_get (by assumption))) ?_
      | refine OpJ.pure (OpP.idx1 rfl rfl (by omega) (by omega) (Src.ofRow (by repeat (first | exact List.Mem.head _ | apply List.Mem.tail))) (ne_get (by assumption))) ?_
      | refine OpJ.pure (OpP.load_blk (by exact rfl) rfl (by repeat (first | exact List.Mem.head _ | apply List.Mem.tail)) rfl) ?_
      | refine OpJ.pure (OpP.loadN_blk (by exact rfl) rfl (by repeat (first | exact List.Mem.head _ | apply List.Mem.tail)) (by exact rfl)) ?_
      | refine OpJ.pure (OpP.load1 (by exact rfl) rfl (Src.ofR (by with_reducible assumption)) rfl (by assumption)) ?_
      | refine OpJ.pure (OpP.load1 (by exact rfl) rfl (Src.ofRow (by repeat (first | exact List.Mem.head _ | apply List.Mem.tail))) rfl (by assumption)) ?_
      | refine OpJ.pure (OpP.assign rfl) ?_
      | refine OpJ.pure (OpP.min rfl rfl) ?_
      | refine OpJ.pure (OpP.max rfl rfl) ?_
      | refine OpJ.pure (OpP.conv_in rfl (by first | exact IntWalk.i64_in _ (by omega) | exact IntWalk.u8_in _ (by omega) | exact IntWalk.u32_in _ (by omega) | exact wrap_u64_in _ (by omega))) ?_
      | refine OpJ.pure (OpP.conv_int rfl) ?_
      | refine OpJ.pure (OpP.conv_string rfl) ?_
      | refine OpJ.pure (OpP.geq rfl rfl) ?_
      | refine OpJ.pure (OpP.nilCheck rfl) ?_
      | refine OpJ.pure (OpP.fldAddr_lit rfl (by exact rfl)) ?_
      | refine OpJ.pure (OpP.fldAddr rfl (by exact rfl)) ?_
      | refine OpJ.pure (OpP.or_nat rfl rfl rfl (by first | with_reducible assumption | assumption | decide | exact lt_b32 (by omega) | exact lt_b8 (by omega) | exact lt_b64 (by omega)) (by first | with_reducible assumption | assumption | decide | exact lt_b32 (by omega) | exact lt_b8 (by omega) | exact lt_b64 (by omega))) ?_
      | refine OpJ.pure (OpP.or rfl rfl) ?_
      | (refine OpJ.buildSlice rfl rfl (by exact rfl) (by exact rfl) rfl (fun _ => ?_); dsimp only [lsplice, take1, take2, take3, take4, drop1, drop2, drop3, drop4, List.take_zero, List.drop_zero, List.cons_append, List.nil_append, List.length_cons, List.length_nil, Nat.reduceAdd, fillL, sliceL, Value.cells, List.toList_toArray, List.append_nil, List.getElem?_cons_zero, get1, get2, get3, Option.getD_some])
      | refine OpJ.append rfl rfl (by first | exact List.Perm.refl _ | exact List.Perm.swap _ _ _ | exact permm2 _ _ _ _ | exact permm3 _ _ _ _ _ | exact permm4 _ _ _ _ _ _ | exact permm5 _ _ _ _ _ _ _) (Src.ofRow (by repeat (first | exact List.Mem.head _ | apply List.Mem.tail))) (by exact rfl) (by exact rfl) (by exact rfl) (by exact rfl) (by omega) (by omega) (fun _ _ => ?_)
      | refine OpJ.pure (OpP.shr_nat rfl rfl rfl) ?_
      | refine OpJ.pure (OpP.shr rfl rfl (by omega)) ?_
      | refine OpJ.pure (OpP.add_in rfl rfl (by omega) (by omega)) ?_
      | refine OpJ.pure (OpP.cat rfl rfl (by omega)) ?_
      | refine OpJ.pure (OpP.add rfl rfl) ?_)
    | (refine OpsJ.act ?_; first
      | (refine OpJ.store rfl rfl rfl (by first | exact List.Perm.refl _ | exact List.Perm.swap _ _ _ | exact permm2 _ _ _ _ | exact permm3 _ _ _ _ _ | exact permm4 _ _ _ _ _ _ | exact permm5 _ _ _ _ _ _ _) (by exact rfl) (by exact rfl) (by exact rfl) ?_; dsimp only [lsplice, take1, take2, take3, take4, drop1, drop2, drop3, drop4, List.take_zero, List.drop_zero, List.cons_append, List.nil_append, List.length_cons, List.length_nil, Nat.reduceAdd, fillL, sliceL, Value.cells, List.toList_toArray, List.append_nil, List.getElem?_cons_zero, get1, get2, get3, Option.getD_some]))
    | refine OpsJ.nil ?_
    | refine CodeJ.cond_t rfl (by with_reducible assumption) ?_
    | refine CodeJ.cond_f rfl (by with_reducible assumption) ?_
    | refine CodeJ.cond_dt rfl (by omega) ?_
    | refine CodeJ.cond_df rfl (by omega) ?_
    | refine CodeJ.cond_t rfl rfl ?_
    | refine CodeJ.cond_f rfl rfl ?_)
  refine CodeJ.cond_d rfl (fun hc => ?_) (fun hc => ?_)
  · repeat (first
      | refine CodeJ.seq' ?_
      | refine CodeJ.region ?_
      | refine CodeJ.block ?_
      | refine CodeJ.skip ?_
      | refine CodeJ.exit rfl ?_
      | refine CodeJ.ret' ?_
      | (refine OpsJ.put (d := 18) rfl ?_; refine OpJ.conv_bytes rfl (by first | exact List.Perm.refl _ | exact List.Perm.swap _ _ _ | exact permm2 _ _ _ _ | exact permm3 _ _ _ _ _ | exact permm4 _ _ _ _ _ _ | exact permm5 _ _ _ _ _ _ _) (fun D18 hdis18 hrc18 => ?_))
      | (refine OpsJ.put (d := 18) rfl ?_; refine OpJ.conv_string_bytes rfl (fun A18 c18 D18 hdis18 hrc18 hcap18 => ?_))
      | (refine OpsJ.put (d := 29) rfl ?_; refine OpJ.conv_bytes rfl (by first | exact List.Perm.refl _ | exact List.Perm.swap _ _ _ | exact permm2 _ _ _ _ | exact permm3 _ _ _ _ _ | exact permm4 _ _ _ _ _ _ | exact permm5 _ _ _ _ _ _ _) (fun D29 hdis29 hrc29 => ?_))
      | (refine OpsJ.put (d := 29) rfl ?_; refine OpJ.conv_string_bytes rfl (fun A29 c29 D29 hdis29 hrc29 hcap29 => ?_))
      | (refine OpsJ.put (d := 41) rfl ?_; refine OpJ.conv_bytes rfl (by first | exact List.Perm.refl _ | exact List.Perm.swap _ _ _ | exact permm2 _ _ _ _ | exact permm3 _ _ _ _ _ | exact permm4 _ _ _ _ _ _ | exact permm5 _ _ _ _ _ _ _) (fun D41 hdis41 hrc41 => ?_))
      | (refine OpsJ.put (d := 41) rfl ?_; refine OpJ.conv_string_bytes rfl (fun A41 c41 D41 hdis41 hrc41 hcap41 => ?_))
      | (refine OpsJ.put rfl ?_; first
        | refine OpJ.pure (OpP.move rfl) ?_
        | refine OpJ.pure (OpP.eql rfl rfl) ?_
        | refine OpJ.pure (OpP.eql_string rfl rfl) ?_
        | refine OpJ.pure (OpP.eql_bool rfl rfl) ?_
        | refine OpJ.pure (OpP.eql_nil rfl rfl) ?_
        | refine OpJ.pure (OpP.eql_nil_slice rfl rfl) ?_
        | refine OpJ.pure (OpP.len rfl) ?_
        | refine OpJ.pure (OpP.len_string rfl) ?_
        | refine OpJ.pure (OpP.lss rfl rfl) ?_
        | refine OpJ.pure (OpP.idx1 rfl rfl (by omega) (by omega) (Src.ofR (by with_reducible assumption)) (ne_get (by assumption))) ?_
        | refine OpJ.pure (OpP.idx1 rfl rfl (by omega) (by omega) (Src.ofRow (by repeat (first | exact List.Mem.head _ | apply List.Mem.tail))) (ne_get (by assumption))) ?_
        | refine OpJ.pure (OpP.load_blk (by exact rfl) rfl (by repeat (first | exact List.Mem.head _ | apply List.Mem.tail)) rfl) ?_
        | refine OpJ.pure (OpP.loadN_blk (by exact rfl) rfl (by repeat (first | exact List.Mem.head _ | apply List.Mem.tail)) (by exact rfl)) ?_
        | refine OpJ.pure (OpP.load1 (by exact rfl) rfl (Src.ofR (by with_reducible assumption)) rfl (by assumption)) ?_
        | refine OpJ.pure (OpP.load1 (by exact rfl) rfl (Src.ofRow (by repeat (first | exact List.Mem.head _ | apply List.Mem.tail))) rfl (by assumption)) ?_
        | refine OpJ.pure (OpP.assign rfl) ?_
        | refine OpJ.pure (OpP.min rfl rfl) ?_
        | refine OpJ.pure (OpP.max rfl rfl) ?_
        | refine OpJ.pure (OpP.conv_in rfl (by first | exact IntWalk.i64_in _ (by omega) | exact IntWalk.u8_in _ (by omega) | exact IntWalk.u32_in _ (by omega) | exact wrap_u64_in _ (by omega))) ?_
        | refine OpJ.pure (OpP.conv_int rfl) ?_
        | refine OpJ.pure (OpP.conv_string rfl) ?_
        | refine OpJ.pure (OpP.geq rfl rfl) ?_
        | refine OpJ.pure (OpP.nilCheck rfl) ?_
        | refine OpJ.pure (OpP.fldAddr_lit rfl (by exact rfl)) ?_
        | refine OpJ.pure (OpP.fldAddr rfl (by exact rfl)) ?_
        | refine OpJ.pure (OpP.or_nat rfl rfl rfl (by first | with_reducible assumption | assumption | decide | exact lt_b32 (by omega) | exact lt_b8 (by omega) | exact lt_b64 (by omega)) (by first | with_reducible assumption | assumption | decide | exact lt_b32 (by omega) | exact lt_b8 (by omega) | exact lt_b64 (by omega))) ?_
        | refine OpJ.pure (OpP.or rfl rfl) ?_
        | (refine OpJ.buildSlice rfl rfl (by exact rfl) (by exact rfl) rfl (fun _ => ?_); dsimp only [lsplice, take1, take2, take3, take4, drop1, drop2, drop3, drop4, List.take_zero, List.drop_zero, List.cons_append, List.nil_append, List.length_cons, List.length_nil, Nat.reduceAdd, fillL, sliceL, Value.cells, List.toList_toArray, List.append_nil, List.getElem?_cons_zero, get1, get2, get3, Option.getD_some])
        | refine OpJ.append rfl rfl (by first | exact List.Perm.refl _ | exact List.Perm.swap _ _ _ | exact permm2 _ _ _ _ | exact permm3 _ _ _ _ _ | exact permm4 _ _ _ _ _ _ | exact permm5 _ _ _ _ _ _ _) (Src.ofRow (by repeat (first | exact List.Mem.head _ | apply List.Mem.tail))) (by exact rfl) (by exact rfl) (by exact rfl) (by exact rfl) (by omega) (by omega) (fun _ _ => ?_)
        | refine OpJ.pure (OpP.shr_nat rfl rfl rfl) ?_
        | refine OpJ.pure (OpP.shr rfl rfl (by omega)) ?_
        | refine OpJ.pure (OpP.add_in rfl rfl (by omega) (by omega)) ?_
        | refine OpJ.pure (OpP.cat rfl rfl (by omega)) ?_
        | refine OpJ.pure (OpP.add rfl rfl) ?_)
      | (refine OpsJ.act ?_; first
        | (refine OpJ.store rfl rfl rfl (by first | exact List.Perm.refl _ | exact List.Perm.swap _ _ _ | exact permm2 _ _ _ _ | exact permm3 _ _ _ _ _ | exact permm4 _ _ _ _ _ _ | exact permm5 _ _ _ _ _ _ _) (by exact rfl) (by exact rfl) (by exact rfl) ?_; dsimp only [lsplice, take1, take2, take3, take4, drop1, drop2, drop3, drop4, List.take_zero, List.drop_zero, List.cons_append, List.nil_append, List.length_cons, List.length_nil, Nat.reduceAdd, fillL, sliceL, Value.cells, List.toList_toArray, List.append_nil, List.getElem?_cons_zero, get1, get2, get3, Option.getD_some]))
      | refine OpsJ.nil ?_
      | refine CodeJ.cond_t rfl (by with_reducible assumption) ?_
      | refine CodeJ.cond_f rfl (by with_reducible assumption) ?_
      | refine CodeJ.cond_dt rfl (by omega) ?_
      | refine CodeJ.cond_df rfl (by omega) ?_
      | refine CodeJ.cond_t rfl rfl ?_
      | refine CodeJ.cond_f rfl rfl ?_)
    have hcell := icells_get (a := xs) (i := i) (by omega)
    repeat (first
      | refine CodeJ.seq' ?_
      | refine CodeJ.region ?_
      | refine CodeJ.block ?_
      | refine CodeJ.skip ?_
      | refine CodeJ.exit rfl ?_
      | refine CodeJ.ret' ?_
      | (refine OpsJ.put (d := 18) rfl ?_; refine OpJ.conv_bytes rfl (by first | exact List.Perm.refl _ | exact List.Perm.swap _ _ _ | exact permm2 _ _ _ _ | exact permm3 _ _ _ _ _ | exact permm4 _ _ _ _ _ _ | exact permm5 _ _ _ _ _ _ _) (fun D18 hdis18 hrc18 => ?_))
      | (refine OpsJ.put (d := 18) rfl ?_; refine OpJ.conv_string_bytes rfl (fun A18 c18 D18 hdis18 hrc18 hcap18 => ?_))
      | (refine OpsJ.put (d := 29) rfl ?_; refine OpJ.conv_bytes rfl (by first | exact List.Perm.refl _ | exact List.Perm.swap _ _ _ | exact permm2 _ _ _ _ | exact permm3 _ _ _ _ _ | exact permm4 _ _ _ _ _ _ | exact permm5 _ _ _ _ _ _ _) (fun D29 hdis29 hrc29 => ?_))
      | (refine OpsJ.put (d := 29) rfl ?_; refine OpJ.conv_string_bytes rfl (fun A29 c29 D29 hdis29 hrc29 hcap29 => ?_))
      | (refine OpsJ.put (d := 41) rfl ?_; refine OpJ.conv_bytes rfl (by first | exact List.Perm.refl _ | exact List.Perm.swap _ _ _ | exact permm2 _ _ _ _ | exact permm3 _ _ _ _ _ | exact permm4 _ _ _ _ _ _ | exact permm5 _ _ _ _ _ _ _) (fun D41 hdis41 hrc41 => ?_))
      | (refine OpsJ.put (d := 41) rfl ?_; refine OpJ.conv_string_bytes rfl (fun A41 c41 D41 hdis41 hrc41 hcap41 => ?_))
      | (refine OpsJ.put rfl ?_; first
        | refine OpJ.pure (OpP.move rfl) ?_
        | refine OpJ.pure (OpP.eql rfl rfl) ?_
        | refine OpJ.pure (OpP.eql_string rfl rfl) ?_
        | refine OpJ.pure (OpP.eql_bool rfl rfl) ?_
        | refine OpJ.pure (OpP.eql_nil rfl rfl) ?_
        | refine OpJ.pure (OpP.eql_nil_slice rfl rfl) ?_
        | refine OpJ.pure (OpP.len rfl) ?_
        | refine OpJ.pure (OpP.len_string rfl) ?_
        | refine OpJ.pure (OpP.lss rfl rfl) ?_
        | refine OpJ.pure (OpP.idx1 rfl rfl (by omega) (by omega) (Src.ofR (by with_reducible assumption)) (ne_get (by assumption))) ?_
        | refine OpJ.pure (OpP.idx1 rfl rfl (by omega) (by omega) (Src.ofRow (by repeat (first | exact List.Mem.head _ | apply List.Mem.tail))) (ne_get (by assumption))) ?_
        | refine OpJ.pure (OpP.load_blk (by exact rfl) rfl (by repeat (first | exact List.Mem.head _ | apply List.Mem.tail)) rfl) ?_
        | refine OpJ.pure (OpP.loadN_blk (by exact rfl) rfl (by repeat (first | exact List.Mem.head _ | apply List.Mem.tail)) (by exact rfl)) ?_
        | refine OpJ.pure (OpP.load1 (by exact rfl) rfl (Src.ofR (by with_reducible assumption)) rfl (by assumption)) ?_
        | refine OpJ.pure (OpP.load1 (by exact rfl) rfl (Src.ofRow (by repeat (first | exact List.Mem.head _ | apply List.Mem.tail))) rfl (by assumption)) ?_
        | refine OpJ.pure (OpP.assign rfl) ?_
        | refine OpJ.pure (OpP.min rfl rfl) ?_
        | refine OpJ.pure (OpP.max rfl rfl) ?_
        | refine OpJ.pure (OpP.conv_in rfl (by first | exact IntWalk.i64_in _ (by omega) | exact IntWalk.u8_in _ (by omega) | exact IntWalk.u32_in _ (by omega) | exact wrap_u64_in _ (by omega))) ?_
        | refine OpJ.pure (OpP.conv_int rfl) ?_
        | refine OpJ.pure (OpP.conv_string rfl) ?_
        | refine OpJ.pure (OpP.geq rfl rfl) ?_
        | refine OpJ.pure (OpP.nilCheck rfl) ?_
        | refine OpJ.pure (OpP.fldAddr_lit rfl (by exact rfl)) ?_
        | refine OpJ.pure (OpP.fldAddr rfl (by exact rfl)) ?_
        | refine OpJ.pure (OpP.or_nat rfl rfl rfl (by first | with_reducible assumption | assumption | decide | exact lt_b32 (by omega) | exact lt_b8 (by omega) | exact lt_b64 (by omega)) (by first | with_reducible assumption | assumption | decide | exact lt_b32 (by omega) | exact lt_b8 (by omega) | exact lt_b64 (by omega))) ?_
        | refine OpJ.pure (OpP.or rfl rfl) ?_
        | (refine OpJ.buildSlice rfl rfl (by exact rfl) (by exact rfl) rfl (fun _ => ?_); dsimp only [lsplice, take1, take2, take3, take4, drop1, drop2, drop3, drop4, List.take_zero, List.drop_zero, List.cons_append, List.nil_append, List.length_cons, List.length_nil, Nat.reduceAdd, fillL, sliceL, Value.cells, List.toList_toArray, List.append_nil, List.getElem?_cons_zero, get1, get2, get3, Option.getD_some])
        | refine OpJ.append rfl rfl (by first | exact List.Perm.refl _ | exact List.Perm.swap _ _ _ | exact permm2 _ _ _ _ | exact permm3 _ _ _ _ _ | exact permm4 _ _ _ _ _ _ | exact permm5 _ _ _ _ _ _ _) (Src.ofRow (by repeat (first | exact List.Mem.head _ | apply List.Mem.tail))) (by exact rfl) (by exact rfl) (by exact rfl) (by exact rfl) (by omega) (by omega) (fun _ _ => ?_)
        | refine OpJ.pure (OpP.shr_nat rfl rfl rfl) ?_
        | refine OpJ.pure (OpP.shr rfl rfl (by omega)) ?_
        | refine OpJ.pure (OpP.add_in rfl rfl (by omega) (by omega)) ?_
        | refine OpJ.pure (OpP.cat rfl rfl (by omega)) ?_
        | refine OpJ.pure (OpP.add rfl rfl) ?_)
      | (refine OpsJ.act ?_; first
        | (refine OpJ.store rfl rfl rfl (by first | exact List.Perm.refl _ | exact List.Perm.swap _ _ _ | exact permm2 _ _ _ _ | exact permm3 _ _ _ _ _ | exact permm4 _ _ _ _ _ _ | exact permm5 _ _ _ _ _ _ _) (by exact rfl) (by exact rfl) (by exact rfl) ?_; dsimp only [lsplice, take1, take2, take3, take4, drop1, drop2, drop3, drop4, List.take_zero, List.drop_zero, List.cons_append, List.nil_append, List.length_cons, List.length_nil, Nat.reduceAdd, fillL, sliceL, Value.cells, List.toList_toArray, List.append_nil, List.getElem?_cons_zero, get1, get2, get3, Option.getD_some]))
      | refine OpsJ.nil ?_
      | refine CodeJ.cond_t rfl (by with_reducible assumption) ?_
      | refine CodeJ.cond_f rfl (by with_reducible assumption) ?_
      | refine CodeJ.cond_dt rfl (by omega) ?_
      | refine CodeJ.cond_df rfl (by omega) ?_
      | refine CodeJ.cond_t rfl rfl ?_
      | refine CodeJ.cond_f rfl rfl ?_)
    rw [clamp_eq]
    have hl : bs1.length ≤ 1000000000 := by
      have := encs_length (xs.take i)
      rw [hbs1, List.length_append]
      simp only [List.length_take] at this
      omega
    refine CodeJ.loop (fun k e s => ∃ (u : Nat) (A : Option Addr) (c m : Nat) (cs : List Value) (b2 : List UInt8), k = u ∧ b2 ++ enc u = bs1 ++ enc (clamp (xs.getD i 0)) ∧ m = b2.length ∧ cs = bcells b2 ∧
      e = [(0, .pointer (some ⟨g, 0, none⟩)), (9, .slice B m' c'), (10, .int .i64 m'), (11, .int .i64 i), (6, .int .u64 u)] ∧ s = ⟨R, [.blk g [.slice A m c] 25, .row 5 1 A m c cs]⟩) (clamp (xs.getD i 0))
      ⟨clamp (xs.getD i 0), A, c, m, cs, bs1, rfl, rfl, hm, hcs, rfl, rfl⟩ (by repeat (first | exact SubE.nil _ | refine SubE.cons rfl ?_)) (by repeat (first | exact SubL.nil _ | refine SubL.p0 ?_ | refine SubL.p1 ?_ | refine SubL.p2 ?_ | refine SubL.p3 ?_ | refine SubL.p4 ?_ | refine SubL.p5 ?_ | refine SubL.p6 ?_ | refine SubL.p7 ?_)) ?_
    clear hm hcs
    rintro k e1 s1 ⟨u, A, c, m, cs, b2, hk, hb2, hm, hcs, rfl, rfl⟩
    have hl2 : b2.length ≤ bs1.length + 9 := by
      have h1 := congrArg List.length hb2
      have h2 := enc_clamp_length (xs.getD i 0)
      simp only [List.length_append] at h1
      omega
    repeat (first
      | refine CodeJ.seq' ?_
      | refine CodeJ.region ?_
      | refine CodeJ.block ?_
      | refine CodeJ.skip ?_
      | refine CodeJ.exit rfl ?_
      | refine CodeJ.ret' ?_
      | (refine OpsJ.put (d := 18) rfl ?_; refine OpJ.conv_bytes rfl (by first | exact List.Perm.refl _ | exact List.Perm.swap _ _ _ | exact permm2 _ _ _ _ | exact permm3 _ _ _ _ _ | exact permm4 _ _ _ _ _ _ | exact permm5 _ _ _ _ _ _ _) (fun D18 hdis18 hrc18 => ?_))
      | (refine OpsJ.put (d := 18) rfl ?_; refine OpJ.conv_string_bytes rfl (fun A18 c18 D18 hdis18 hrc18 hcap18 => ?_))
      | (refine OpsJ.put (d := 29) rfl ?_; refine OpJ.conv_bytes rfl (by first | exact List.Perm.refl _ | exact List.Perm.swap _ _ _ | exact permm2 _ _ _ _ | exact permm3 _ _ _ _ _ | exact permm4 _ _ _ _ _ _ | exact permm5 _ _ _ _ _ _ _) (fun D29 hdis29 hrc29 => ?_))
      | (refine OpsJ.put (d := 29) rfl ?_; refine OpJ.conv_string_bytes rfl (fun A29 c29 D29 hdis29 hrc29 hcap29 => ?_))
      | (refine OpsJ.put (d := 41) rfl ?_; refine OpJ.conv_bytes rfl (by first | exact List.Perm.refl _ | exact List.Perm.swap _ _ _ | exact permm2 _ _ _ _ | exact permm3 _ _ _ _ _ | exact permm4 _ _ _ _ _ _ | exact permm5 _ _ _ _ _ _ _) (fun D41 hdis41 hrc41 => ?_))
      | (refine OpsJ.put (d := 41) rfl ?_; refine OpJ.conv_string_bytes rfl (fun A41 c41 D41 hdis41 hrc41 hcap41 => ?_))
      | (refine OpsJ.put rfl ?_; first
        | refine OpJ.pure (OpP.move rfl) ?_
        | refine OpJ.pure (OpP.eql rfl rfl) ?_
        | refine OpJ.pure (OpP.eql_string rfl rfl) ?_
        | refine OpJ.pure (OpP.eql_bool rfl rfl) ?_
        | refine OpJ.pure (OpP.eql_nil rfl rfl) ?_
        | refine OpJ.pure (OpP.eql_nil_slice rfl rfl) ?_
        | refine OpJ.pure (OpP.len rfl) ?_
        | refine OpJ.pure (OpP.len_string rfl) ?_
        | refine OpJ.pure (OpP.lss rfl rfl) ?_
        | refine OpJ.pure (OpP.idx1 rfl rfl (by omega) (by omega) (Src.ofR (by with_reducible assumption)) (ne_get (by assumption))) ?_
        | refine OpJ.pure (OpP.idx1 rfl rfl (by omega) (by omega) (Src.ofRow (by repeat (first | exact List.Mem.head _ | apply List.Mem.tail))) (ne_get (by assumption))) ?_
        | refine OpJ.pure (OpP.load_blk (by exact rfl) rfl (by repeat (first | exact List.Mem.head _ | apply List.Mem.tail)) rfl) ?_
        | refine OpJ.pure (OpP.loadN_blk (by exact rfl) rfl (by repeat (first | exact List.Mem.head _ | apply List.Mem.tail)) (by exact rfl)) ?_
        | refine OpJ.pure (OpP.load1 (by exact rfl) rfl (Src.ofR (by with_reducible assumption)) rfl (by assumption)) ?_
        | refine OpJ.pure (OpP.load1 (by exact rfl) rfl (Src.ofRow (by repeat (first | exact List.Mem.head _ | apply List.Mem.tail))) rfl (by assumption)) ?_
        | refine OpJ.pure (OpP.assign rfl) ?_
        | refine OpJ.pure (OpP.min rfl rfl) ?_
        | refine OpJ.pure (OpP.max rfl rfl) ?_
        | refine OpJ.pure (OpP.conv_in rfl (by first | exact IntWalk.i64_in _ (by omega) | exact IntWalk.u8_in _ (by omega) | exact IntWalk.u32_in _ (by omega) | exact wrap_u64_in _ (by omega))) ?_
        | refine OpJ.pure (OpP.conv_int rfl) ?_
        | refine OpJ.pure (OpP.conv_string rfl) ?_
        | refine OpJ.pure (OpP.geq rfl rfl) ?_
        | refine OpJ.pure (OpP.nilCheck rfl) ?_
        | refine OpJ.pure (OpP.fldAddr_lit rfl (by exact rfl)) ?_
        | refine OpJ.pure (OpP.fldAddr rfl (by exact rfl)) ?_
        | refine OpJ.pure (OpP.or_nat rfl rfl rfl (by first | with_reducible assumption | assumption | decide | exact lt_b32 (by omega) | exact lt_b8 (by omega) | exact lt_b64 (by omega)) (by first | with_reducible assumption | assumption | decide | exact lt_b32 (by omega) | exact lt_b8 (by omega) | exact lt_b64 (by omega))) ?_
        | refine OpJ.pure (OpP.or rfl rfl) ?_
        | (refine OpJ.buildSlice rfl rfl (by exact rfl) (by exact rfl) rfl (fun _ => ?_); dsimp only [lsplice, take1, take2, take3, take4, drop1, drop2, drop3, drop4, List.take_zero, List.drop_zero, List.cons_append, List.nil_append, List.length_cons, List.length_nil, Nat.reduceAdd, fillL, sliceL, Value.cells, List.toList_toArray, List.append_nil, List.getElem?_cons_zero, get1, get2, get3, Option.getD_some])
        | refine OpJ.append rfl rfl (by first | exact List.Perm.refl _ | exact List.Perm.swap _ _ _ | exact permm2 _ _ _ _ | exact permm3 _ _ _ _ _ | exact permm4 _ _ _ _ _ _ | exact permm5 _ _ _ _ _ _ _) (Src.ofRow (by repeat (first | exact List.Mem.head _ | apply List.Mem.tail))) (by exact rfl) (by exact rfl) (by exact rfl) (by exact rfl) (by omega) (by omega) (fun _ _ => ?_)
        | refine OpJ.pure (OpP.shr_nat rfl rfl rfl) ?_
        | refine OpJ.pure (OpP.shr rfl rfl (by omega)) ?_
        | refine OpJ.pure (OpP.add_in rfl rfl (by omega) (by omega)) ?_
        | refine OpJ.pure (OpP.cat rfl rfl (by omega)) ?_
        | refine OpJ.pure (OpP.add rfl rfl) ?_)
      | (refine OpsJ.act ?_; first
        | (refine OpJ.store rfl rfl rfl (by first | exact List.Perm.refl _ | exact List.Perm.swap _ _ _ | exact permm2 _ _ _ _ | exact permm3 _ _ _ _ _ | exact permm4 _ _ _ _ _ _ | exact permm5 _ _ _ _ _ _ _) (by exact rfl) (by exact rfl) (by exact rfl) ?_; dsimp only [lsplice, take1, take2, take3, take4, drop1, drop2, drop3, drop4, List.take_zero, List.drop_zero, List.cons_append, List.nil_append, List.length_cons, List.length_nil, Nat.reduceAdd, fillL, sliceL, Value.cells, List.toList_toArray, List.append_nil, List.getElem?_cons_zero, get1, get2, get3, Option.getD_some]))
      | refine OpsJ.nil ?_
      | refine CodeJ.cond_t rfl (by with_reducible assumption) ?_
      | refine CodeJ.cond_f rfl (by with_reducible assumption) ?_
      | refine CodeJ.cond_dt rfl (by omega) ?_
      | refine CodeJ.cond_df rfl (by omega) ?_
      | refine CodeJ.cond_t rfl rfl ?_
      | refine CodeJ.cond_f rfl rfl ?_)
    refine CodeJ.cond_d rfl (fun hc => ?_) (fun hc => ?_)
    · repeat (first
        | refine CodeJ.seq' ?_
        | refine CodeJ.region ?_
        | refine CodeJ.block ?_
        | refine CodeJ.skip ?_
        | refine CodeJ.exit rfl ?_
        | refine CodeJ.ret' ?_
        | (refine OpsJ.put (d := 18) rfl ?_; refine OpJ.conv_bytes rfl (by first | exact List.Perm.refl _ | exact List.Perm.swap _ _ _ | exact permm2 _ _ _ _ | exact permm3 _ _ _ _ _ | exact permm4 _ _ _ _ _ _ | exact permm5 _ _ _ _ _ _ _) (fun D18 hdis18 hrc18 => ?_))
        | (refine OpsJ.put (d := 18) rfl ?_; refine OpJ.conv_string_bytes rfl (fun A18 c18 D18 hdis18 hrc18 hcap18 => ?_))
        | (refine OpsJ.put (d := 29) rfl ?_; refine OpJ.conv_bytes rfl (by first | exact List.Perm.refl _ | exact List.Perm.swap _ _ _ | exact permm2 _ _ _ _ | exact permm3 _ _ _ _ _ | exact permm4 _ _ _ _ _ _ | exact permm5 _ _ _ _ _ _ _) (fun D29 hdis29 hrc29 => ?_))
        | (refine OpsJ.put (d := 29) rfl ?_; refine OpJ.conv_string_bytes rfl (fun A29 c29 D29 hdis29 hrc29 hcap29 => ?_))
        | (refine OpsJ.put (d := 41) rfl ?_; refine OpJ.conv_bytes rfl (by first | exact List.Perm.refl _ | exact List.Perm.swap _ _ _ | exact permm2 _ _ _ _ | exact permm3 _ _ _ _ _ | exact permm4 _ _ _ _ _ _ | exact permm5 _ _ _ _ _ _ _) (fun D41 hdis41 hrc41 => ?_))
        | (refine OpsJ.put (d := 41) rfl ?_; refine OpJ.conv_string_bytes rfl (fun A41 c41 D41 hdis41 hrc41 hcap41 => ?_))
        | (refine OpsJ.put rfl ?_; first
          | refine OpJ.pure (OpP.move rfl) ?_
          | refine OpJ.pure (OpP.eql rfl rfl) ?_
          | refine OpJ.pure (OpP.eql_string rfl rfl) ?_
          | refine OpJ.pure (OpP.eql_bool rfl rfl) ?_
          | refine OpJ.pure (OpP.eql_nil rfl rfl) ?_
          | refine OpJ.pure (OpP.eql_nil_slice rfl rfl) ?_
          | refine OpJ.pure (OpP.len rfl) ?_
          | refine OpJ.pure (OpP.len_string rfl) ?_
          | refine OpJ.pure (OpP.lss rfl rfl) ?_
          | refine OpJ.pure (OpP.idx1 rfl rfl (by omega) (by omega) (Src.ofR (by with_reducible assumption)) (ne_get (by assumption))) ?_
          | refine OpJ.pure (OpP.idx1 rfl rfl (by omega) (by omega) (Src.ofRow (by repeat (first | exact List.Mem.head _ | apply List.Mem.tail))) (ne_get (by assumption))) ?_
          | refine OpJ.pure (OpP.load_blk (by exact rfl) rfl (by repeat (first | exact List.Mem.head _ | apply List.Mem.tail)) rfl) ?_
          | refine OpJ.pure (OpP.loadN_blk (by exact rfl) rfl (by repeat (first | exact List.Mem.head _ | apply List.Mem.tail)) (by exact rfl)) ?_
          | refine OpJ.pure (OpP.load1 (by exact rfl) rfl (Src.ofR (by with_reducible assumption)) rfl (by assumption)) ?_
          | refine OpJ.pure (OpP.load1 (by exact rfl) rfl (Src.ofRow (by repeat (first | exact List.Mem.head _ | apply List.Mem.tail))) rfl (by assumption)) ?_
          | refine OpJ.pure (OpP.assign rfl) ?_
          | refine OpJ.pure (OpP.min rfl rfl) ?_
          | refine OpJ.pure (OpP.max rfl rfl) ?_
          | refine OpJ.pure (OpP.conv_in rfl (by first | exact IntWalk.i64_in _ (by omega) | exact IntWalk.u8_in _ (by omega) | exact IntWalk.u32_in _ (by omega) | exact wrap_u64_in _ (by omega))) ?_
          | refine OpJ.pure (OpP.conv_int rfl) ?_
          | refine OpJ.pure (OpP.conv_string rfl) ?_
          | refine OpJ.pure (OpP.geq rfl rfl) ?_
          | refine OpJ.pure (OpP.nilCheck rfl) ?_
          | refine OpJ.pure (OpP.fldAddr_lit rfl (by exact rfl)) ?_
          | refine OpJ.pure (OpP.fldAddr rfl (by exact rfl)) ?_
          | refine OpJ.pure (OpP.or_nat rfl rfl rfl (by first | with_reducible assumption | assumption | decide | exact lt_b32 (by omega) | exact lt_b8 (by omega) | exact lt_b64 (by omega)) (by first | with_reducible assumption | assumption | decide | exact lt_b32 (by omega) | exact lt_b8 (by omega) | exact lt_b64 (by omega))) ?_
          | refine OpJ.pure (OpP.or rfl rfl) ?_
          | (refine OpJ.buildSlice rfl rfl (by exact rfl) (by exact rfl) rfl (fun _ => ?_); dsimp only [lsplice, take1, take2, take3, take4, drop1, drop2, drop3, drop4, List.take_zero, List.drop_zero, List.cons_append, List.nil_append, List.length_cons, List.length_nil, Nat.reduceAdd, fillL, sliceL, Value.cells, List.toList_toArray, List.append_nil, List.getElem?_cons_zero, get1, get2, get3, Option.getD_some])
          | refine OpJ.append rfl rfl (by first | exact List.Perm.refl _ | exact List.Perm.swap _ _ _ | exact permm2 _ _ _ _ | exact permm3 _ _ _ _ _ | exact permm4 _ _ _ _ _ _ | exact permm5 _ _ _ _ _ _ _) (Src.ofRow (by repeat (first | exact List.Mem.head _ | apply List.Mem.tail))) (by exact rfl) (by exact rfl) (by exact rfl) (by exact rfl) (by omega) (by omega) (fun _ _ => ?_)
          | refine OpJ.pure (OpP.shr_nat rfl rfl rfl) ?_
          | refine OpJ.pure (OpP.shr rfl rfl (by omega)) ?_
          | refine OpJ.pure (OpP.add_in rfl rfl (by omega) (by omega)) ?_
          | refine OpJ.pure (OpP.cat rfl rfl (by omega)) ?_
          | refine OpJ.pure (OpP.add rfl rfl) ?_)
        | (refine OpsJ.act ?_; first
          | (refine OpJ.store rfl rfl rfl (by first | exact List.Perm.refl _ | exact List.Perm.swap _ _ _ | exact permm2 _ _ _ _ | exact permm3 _ _ _ _ _ | exact permm4 _ _ _ _ _ _ | exact permm5 _ _ _ _ _ _ _) (by exact rfl) (by exact rfl) (by exact rfl) ?_; dsimp only [lsplice, take1, take2, take3, take4, drop1, drop2, drop3, drop4, List.take_zero, List.drop_zero, List.cons_append, List.nil_append, List.length_cons, List.length_nil, Nat.reduceAdd, fillL, sliceL, Value.cells, List.toList_toArray, List.append_nil, List.getElem?_cons_zero, get1, get2, get3, Option.getD_some]))
        | refine OpsJ.nil ?_
        | refine CodeJ.cond_t rfl (by with_reducible assumption) ?_
        | refine CodeJ.cond_f rfl (by with_reducible assumption) ?_
        | refine CodeJ.cond_dt rfl (by omega) ?_
        | refine CodeJ.cond_df rfl (by omega) ?_
        | refine CodeJ.cond_t rfl rfl ?_
        | refine CodeJ.cond_f rfl rfl ?_)
      refine ⟨u / 2 ^ 7, _, _, _, by omega, ⟨u / 2 ^ 7, _, _, _, _, b2 ++ [UInt8.ofNat (u % 128 + 128)], rfl, ?_, ?_, ?_, rfl, rfl⟩, (by repeat (first | exact IM.le_refl _ | assumption | refine IM.le_trans ?_ (IM.le_or _ _))), (by repeat (first | exact SubE.nil _ | refine SubE.cons rfl ?_)), (by repeat (first | exact SubL.nil _ | refine SubL.p0 ?_ | refine SubL.p1 ?_ | refine SubL.p2 ?_ | refine SubL.p3 ?_ | refine SubL.p4 ?_ | refine SubL.p5 ?_ | refine SubL.p6 ?_ | refine SubL.p7 ?_))⟩
      · rw [← hb2, enc_big (u := u) (by omega)]; simp
      · simp [hm]
      · rw [hcs, bcells_append, byte_more]; rfl
    · repeat (first
        | refine CodeJ.seq' ?_
        | refine CodeJ.region ?_
        | refine CodeJ.block ?_
        | refine CodeJ.skip ?_
        | refine CodeJ.exit rfl ?_
        | refine CodeJ.ret' ?_
        | (refine OpsJ.put (d := 18) rfl ?_; refine OpJ.conv_bytes rfl (by first | exact List.Perm.refl _ | exact List.Perm.swap _ _ _ | exact permm2 _ _ _ _ | exact permm3 _ _ _ _ _ | exact permm4 _ _ _ _ _ _ | exact permm5 _ _ _ _ _ _ _) (fun D18 hdis18 hrc18 => ?_))
        | (refine OpsJ.put (d := 18) rfl ?_; refine OpJ.conv_string_bytes rfl (fun A18 c18 D18 hdis18 hrc18 hcap18 => ?_))
        | (refine OpsJ.put (d := 29) rfl ?_; refine OpJ.conv_bytes rfl (by first | exact List.Perm.refl _ | exact List.Perm.swap _ _ _ | exact permm2 _ _ _ _ | exact permm3 _ _ _ _ _ | exact permm4 _ _ _ _ _ _ | exact permm5 _ _ _ _ _ _ _) (fun D29 hdis29 hrc29 => ?_))
        | (refine OpsJ.put (d := 29) rfl ?_; refine OpJ.conv_string_bytes rfl (fun A29 c29 D29 hdis29 hrc29 hcap29 => ?_))
        | (refine OpsJ.put (d := 41) rfl ?_; refine OpJ.conv_bytes rfl (by first | exact List.Perm.refl _ | exact List.Perm.swap _ _ _ | exact permm2 _ _ _ _ | exact permm3 _ _ _ _ _ | exact permm4 _ _ _ _ _ _ | exact permm5 _ _ _ _ _ _ _) (fun D41 hdis41 hrc41 => ?_))
        | (refine OpsJ.put (d := 41) rfl ?_; refine OpJ.conv_string_bytes rfl (fun A41 c41 D41 hdis41 hrc41 hcap41 => ?_))
        | (refine OpsJ.put rfl ?_; first
          | refine OpJ.pure (OpP.move rfl) ?_
          | refine OpJ.pure (OpP.eql rfl rfl) ?_
          | refine OpJ.pure (OpP.eql_string rfl rfl) ?_
          | refine OpJ.pure (OpP.eql_bool rfl rfl) ?_
          | refine OpJ.pure (OpP.eql_nil rfl rfl) ?_
          | refine OpJ.pure (OpP.eql_nil_slice rfl rfl) ?_
          | refine OpJ.pure (OpP.len rfl) ?_
          | refine OpJ.pure (OpP.len_string rfl) ?_
          | refine OpJ.pure (OpP.lss rfl rfl) ?_
          | refine OpJ.pure (OpP.idx1 rfl rfl (by omega) (by omega) (Src.ofR (by with_reducible assumption)) (ne_get (by assumption))) ?_
          | refine OpJ.pure (OpP.idx1 rfl rfl (by omega) (by omega) (Src.ofRow (by repeat (first | exact List.Mem.head _ | apply List.Mem.tail))) (ne_get (by assumption))) ?_
          | refine OpJ.pure (OpP.load_blk (by exact rfl) rfl (by repeat (first | exact List.Mem.head _ | apply List.Mem.tail)) rfl) ?_
          | refine OpJ.pure (OpP.loadN_blk (by exact rfl) rfl (by repeat (first | exact List.Mem.head _ | apply List.Mem.tail)) (by exact rfl)) ?_
          | refine OpJ.pure (OpP.load1 (by exact rfl) rfl (Src.ofR (by with_reducible assumption)) rfl (by assumption)) ?_
          | refine OpJ.pure (OpP.load1 (by exact rfl) rfl (Src.ofRow (by repeat (first | exact List.Mem.head _ | apply List.Mem.tail))) rfl (by assumption)) ?_
          | refine OpJ.pure (OpP.assign rfl) ?_
          | refine OpJ.pure (OpP.min rfl rfl) ?_
          | refine OpJ.pure (OpP.max rfl rfl) ?_
          | refine OpJ.pure (OpP.conv_in rfl (by first | exact IntWalk.i64_in _ (by omega) | exact IntWalk.u8_in _ (by omega) | exact IntWalk.u32_in _ (by omega) | exact wrap_u64_in _ (by omega))) ?_
          | refine OpJ.pure (OpP.conv_int rfl) ?_
          | refine OpJ.pure (OpP.conv_string rfl) ?_
          | refine OpJ.pure (OpP.geq rfl rfl) ?_
          | refine OpJ.pure (OpP.nilCheck rfl) ?_
          | refine OpJ.pure (OpP.fldAddr_lit rfl (by exact rfl)) ?_
          | refine OpJ.pure (OpP.fldAddr rfl (by exact rfl)) ?_
          | refine OpJ.pure (OpP.or_nat rfl rfl rfl (by first | with_reducible assumption | assumption | decide | exact lt_b32 (by omega) | exact lt_b8 (by omega) | exact lt_b64 (by omega)) (by first | with_reducible assumption | assumption | decide | exact lt_b32 (by omega) | exact lt_b8 (by omega) | exact lt_b64 (by omega))) ?_
          | refine OpJ.pure (OpP.or rfl rfl) ?_
          | (refine OpJ.buildSlice rfl rfl (by exact rfl) (by exact rfl) rfl (fun _ => ?_); dsimp only [lsplice, take1, take2, take3, take4, drop1, drop2, drop3, drop4, List.take_zero, List.drop_zero, List.cons_append, List.nil_append, List.length_cons, List.length_nil, Nat.reduceAdd, fillL, sliceL, Value.cells, List.toList_toArray, List.append_nil, List.getElem?_cons_zero, get1, get2, get3, Option.getD_some])
          | refine OpJ.append rfl rfl (by first | exact List.Perm.refl _ | exact List.Perm.swap _ _ _ | exact permm2 _ _ _ _ | exact permm3 _ _ _ _ _ | exact permm4 _ _ _ _ _ _ | exact permm5 _ _ _ _ _ _ _) (Src.ofRow (by repeat (first | exact List.Mem.head _ | apply List.Mem.tail))) (by exact rfl) (by exact rfl) (by exact rfl) (by exact rfl) (by omega) (by omega) (fun _ _ => ?_)
          | refine OpJ.pure (OpP.shr_nat rfl rfl rfl) ?_
          | refine OpJ.pure (OpP.shr rfl rfl (by omega)) ?_
          | refine OpJ.pure (OpP.add_in rfl rfl (by omega) (by omega)) ?_
          | refine OpJ.pure (OpP.cat rfl rfl (by omega)) ?_
          | refine OpJ.pure (OpP.add rfl rfl) ?_)
        | (refine OpsJ.act ?_; first
          | (refine OpJ.store rfl rfl rfl (by first | exact List.Perm.refl _ | exact List.Perm.swap _ _ _ | exact permm2 _ _ _ _ | exact permm3 _ _ _ _ _ | exact permm4 _ _ _ _ _ _ | exact permm5 _ _ _ _ _ _ _) (by exact rfl) (by exact rfl) (by exact rfl) ?_; dsimp only [lsplice, take1, take2, take3, take4, drop1, drop2, drop3, drop4, List.take_zero, List.drop_zero, List.cons_append, List.nil_append, List.length_cons, List.length_nil, Nat.reduceAdd, fillL, sliceL, Value.cells, List.toList_toArray, List.append_nil, List.getElem?_cons_zero, get1, get2, get3, Option.getD_some]))
        | refine OpsJ.nil ?_
        | refine CodeJ.cond_t rfl (by with_reducible assumption) ?_
        | refine CodeJ.cond_f rfl (by with_reducible assumption) ?_
        | refine CodeJ.cond_dt rfl (by omega) ?_
        | refine CodeJ.cond_df rfl (by omega) ?_
        | refine CodeJ.cond_t rfl rfl ?_
        | refine CodeJ.cond_f rfl rfl ?_)
      refine ⟨xs.length - (i + 1), _, _, _, by omega, ⟨i + 1, _, _, _, _, bs1 ++ enc (clamp (xs.getD i 0)), by omega, rfl, ?_, ?_, ?_, rfl, rfl⟩, (by repeat (first | exact IM.le_refl _ | assumption | refine IM.le_trans ?_ (IM.le_or _ _))), (by repeat (first | exact SubE.nil _ | refine SubE.cons rfl ?_)), (by repeat (first | exact SubL.nil _ | refine SubL.p0 ?_ | refine SubL.p1 ?_ | refine SubL.p2 ?_ | refine SubL.p3 ?_ | refine SubL.p4 ?_ | refine SubL.p5 ?_ | refine SubL.p6 ?_ | refine SubL.p7 ?_))⟩
      · rw [encs_take_succ (by omega), hbs1, List.append_assoc]
      · rw [← hb2, enc_small (u := u) (by omega)]; simp [hm]
      · rw [hcs, ← hb2, enc_small (u := u) (by omega), bcells_append, bcells_small (by omega)]
  · repeat (first
      | refine CodeJ.seq' ?_
      | refine CodeJ.region ?_
      | refine CodeJ.block ?_
      | refine CodeJ.skip ?_
      | refine CodeJ.exit rfl ?_
      | refine CodeJ.ret' ?_
      | (refine OpsJ.put (d := 18) rfl ?_; refine OpJ.conv_bytes rfl (by first | exact List.Perm.refl _ | exact List.Perm.swap _ _ _ | exact permm2 _ _ _ _ | exact permm3 _ _ _ _ _ | exact permm4 _ _ _ _ _ _ | exact permm5 _ _ _ _ _ _ _) (fun D18 hdis18 hrc18 => ?_))
      | (refine OpsJ.put (d := 18) rfl ?_; refine OpJ.conv_string_bytes rfl (fun A18 c18 D18 hdis18 hrc18 hcap18 => ?_))
      | (refine OpsJ.put (d := 29) rfl ?_; refine OpJ.conv_bytes rfl (by first | exact List.Perm.refl _ | exact List.Perm.swap _ _ _ | exact permm2 _ _ _ _ | exact permm3 _ _ _ _ _ | exact permm4 _ _ _ _ _ _ | exact permm5 _ _ _ _ _ _ _) (fun D29 hdis29 hrc29 => ?_))
      | (refine OpsJ.put (d := 29) rfl ?_; refine OpJ.conv_string_bytes rfl (fun A29 c29 D29 hdis29 hrc29 hcap29 => ?_))
      | (refine OpsJ.put (d := 41) rfl ?_; refine OpJ.conv_bytes rfl (by first | exact List.Perm.refl _ | exact List.Perm.swap _ _ _ | exact permm2 _ _ _ _ | exact permm3 _ _ _ _ _ | exact permm4 _ _ _ _ _ _ | exact permm5 _ _ _ _ _ _ _) (fun D41 hdis41 hrc41 => ?_))
      | (refine OpsJ.put (d := 41) rfl ?_; refine OpJ.conv_string_bytes rfl (fun A41 c41 D41 hdis41 hrc41 hcap41 => ?_))
      | (refine OpsJ.put rfl ?_; first
        | refine OpJ.pure (OpP.move rfl) ?_
        | refine OpJ.pure (OpP.eql rfl rfl) ?_
        | refine OpJ.pure (OpP.eql_string rfl rfl) ?_
        | refine OpJ.pure (OpP.eql_bool rfl rfl) ?_
        | refine OpJ.pure (OpP.eql_nil rfl rfl) ?_
        | refine OpJ.pure (OpP.eql_nil_slice rfl rfl) ?_
        | refine OpJ.pure (OpP.len rfl) ?_
        | refine OpJ.pure (OpP.len_string rfl) ?_
        | refine OpJ.pure (OpP.lss rfl rfl) ?_
        | refine OpJ.pure (OpP.idx1 rfl rfl (by omega) (by omega) (Src.ofR (by with_reducible assumption)) (ne_get (by assumption))) ?_
        | refine OpJ.pure (OpP.idx1 rfl rfl (by omega) (by omega) (Src.ofRow (by repeat (first | exact List.Mem.head _ | apply List.Mem.tail))) (ne_get (by assumption))) ?_
        | refine OpJ.pure (OpP.load_blk (by exact rfl) rfl (by repeat (first | exact List.Mem.head _ | apply List.Mem.tail)) rfl) ?_
        | refine OpJ.pure (OpP.loadN_blk (by exact rfl) rfl (by repeat (first | exact List.Mem.head _ | apply List.Mem.tail)) (by exact rfl)) ?_
        | refine OpJ.pure (OpP.load1 (by exact rfl) rfl (Src.ofR (by with_reducible assumption)) rfl (by assumption)) ?_
        | refine OpJ.pure (OpP.load1 (by exact rfl) rfl (Src.ofRow (by repeat (first | exact List.Mem.head _ | apply List.Mem.tail))) rfl (by assumption)) ?_
        | refine OpJ.pure (OpP.assign rfl) ?_
        | refine OpJ.pure (OpP.min rfl rfl) ?_
        | refine OpJ.pure (OpP.max rfl rfl) ?_
        | refine OpJ.pure (OpP.conv_in rfl (by first | exact IntWalk.i64_in _ (by omega) | exact IntWalk.u8_in _ (by omega) | exact IntWalk.u32_in _ (by omega) | exact wrap_u64_in _ (by omega))) ?_
        | refine OpJ.pure (OpP.conv_int rfl) ?_
        | refine OpJ.pure (OpP.conv_string rfl) ?_
        | refine OpJ.pure (OpP.geq rfl rfl) ?_
        | refine OpJ.pure (OpP.nilCheck rfl) ?_
        | refine OpJ.pure (OpP.fldAddr_lit rfl (by exact rfl)) ?_
        | refine OpJ.pure (OpP.fldAddr rfl (by exact rfl)) ?_
        | refine OpJ.pure (OpP.or_nat rfl rfl rfl (by first | with_reducible assumption | assumption | decide | exact lt_b32 (by omega) | exact lt_b8 (by omega) | exact lt_b64 (by omega)) (by first | with_reducible assumption | assumption | decide | exact lt_b32 (by omega) | exact lt_b8 (by omega) | exact lt_b64 (by omega))) ?_
        | refine OpJ.pure (OpP.or rfl rfl) ?_
        | (refine OpJ.buildSlice rfl rfl (by exact rfl) (by exact rfl) rfl (fun _ => ?_); dsimp only [lsplice, take1, take2, take3, take4, drop1, drop2, drop3, drop4, List.take_zero, List.drop_zero, List.cons_append, List.nil_append, List.length_cons, List.length_nil, Nat.reduceAdd, fillL, sliceL, Value.cells, List.toList_toArray, List.append_nil, List.getElem?_cons_zero, get1, get2, get3, Option.getD_some])
        | refine OpJ.append rfl rfl (by first | exact List.Perm.refl _ | exact List.Perm.swap _ _ _ | exact permm2 _ _ _ _ | exact permm3 _ _ _ _ _ | exact permm4 _ _ _ _ _ _ | exact permm5 _ _ _ _ _ _ _) (Src.ofRow (by repeat (first | exact List.Mem.head _ | apply List.Mem.tail))) (by exact rfl) (by exact rfl) (by exact rfl) (by exact rfl) (by omega) (by omega) (fun _ _ => ?_)
        | refine OpJ.pure (OpP.shr_nat rfl rfl rfl) ?_
        | refine OpJ.pure (OpP.shr rfl rfl (by omega)) ?_
        | refine OpJ.pure (OpP.add_in rfl rfl (by omega) (by omega)) ?_
        | refine OpJ.pure (OpP.cat rfl rfl (by omega)) ?_
        | refine OpJ.pure (OpP.add rfl rfl) ?_)
      | (refine OpsJ.act ?_; first
        | (refine OpJ.store rfl rfl rfl (by first | exact List.Perm.refl _ | exact List.Perm.swap _ _ _ | exact permm2 _ _ _ _ | exact permm3 _ _ _ _ _ | exact permm4 _ _ _ _ _ _ | exact permm5 _ _ _ _ _ _ _) (by exact rfl) (by exact rfl) (by exact rfl) ?_; dsimp only [lsplice, take1, take2, take3, take4, drop1, drop2, drop3, drop4, List.take_zero, List.drop_zero, List.cons_append, List.nil_append, List.length_cons, List.length_nil, Nat.reduceAdd, fillL, sliceL, Value.cells, List.toList_toArray, List.append_nil, List.getElem?_cons_zero, get1, get2, get3, Option.getD_some]))
      | refine OpsJ.nil ?_
      | refine CodeJ.cond_t rfl (by with_reducible assumption) ?_
      | refine CodeJ.cond_f rfl (by with_reducible assumption) ?_
      | refine CodeJ.cond_dt rfl (by omega) ?_
      | refine CodeJ.cond_df rfl (by omega) ?_
      | refine CodeJ.cond_t rfl rfl ?_
      | refine CodeJ.cond_f rfl rfl ?_)
    have hi2 : i = xs.length := by omega
    refine Ret.mk0 ⟨rfl, A, c, m, cs, ?_, ?_, rfl⟩ (ResJ.none Try.results17) (by repeat (first | exact IM.le_refl _ | assumption | refine IM.le_trans ?_ (IM.le_or _ _))) (by repeat (first | exact SubL.nil _ | refine SubL.p0 ?_ | refine SubL.p1 ?_ | refine SubL.p2 ?_ | refine SubL.p3 ?_ | refine SubL.p4 ?_ | refine SubL.p5 ?_ | refine SubL.p6 ?_ | refine SubL.p7 ?_))
    · rw [hm, hbs1, hi2, List.take_length]
    · rw [hcs, hbs1, hi2, List.take_length]
end Go.Proofs.Ytdicpnnmhjgnbaa.FW
