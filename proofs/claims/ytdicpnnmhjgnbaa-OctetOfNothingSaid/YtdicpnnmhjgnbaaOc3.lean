/- octet: the check sum; rows that are the same; what is known. -/
import Derived.Test.YtdicpnnmhjgnbaaOc2
namespace Go.Proofs.Ytdicpnnmhjgnbaa.FW
open Go Go.RowKit Go.Proofs
set_option linter.unusedVariables false
set_option linter.unusedSimpArgs false
set_option maxRecDepth 100000
set_option maxHeartbeats 4000000
attribute [local irreducible] OpsJ CodeJ OpJ OpQ OpP QuietJ CallJ Src RC
/-- One round of the check sum. -/
def crc1 (v : Nat) : Nat := v / 2 ^^^ (0xedb88320 &&& (if v % 2 = 1 then 0xffffffff else 0))
def crcN : Nat → Nat → Nat
  | 0, v => v
  | m + 1, v => crcN m (crc1 v)
def crcByte (v : Nat) (b : UInt8) : Nat := crcN 8 (v ^^^ b.toNat)
def crcBytes (v : Nat) (l : List UInt8) : Nat := l.foldl crcByte v
def crcSum (l : List UInt8) : Nat := crcBytes 0xffffffff l ^^^ 0xffffffff
theorem crc1_lt {v : Nat} (h : v < 2 ^ 32) : crc1 v < 2 ^ 32 := by
  unfold crc1
  refine Nat.xor_lt_two_pow (by omega) (Nat.lt_of_le_of_lt Nat.and_le_left (by decide))
theorem crcN_lt : ∀ (m : Nat) {v : Nat}, v < 2 ^ 32 → crcN m v < 2 ^ 32
  | 0, _, h => h
  | m + 1, _, h => crcN_lt m (crc1_lt h)
theorem crcByte_lt {v : Nat} (h : v < 2 ^ 32) (b : UInt8) : crcByte v b < 2 ^ 32 := crcN_lt 8 (Nat.xor_lt_two_pow h (Nat.lt_trans b.toNat_lt (by decide)))
theorem crcBytes_lt : ∀ (l : List UInt8) {v : Nat}, v < 2 ^ 32 → crcBytes v l < 2 ^ 32
  | [], _, h => h
  | b :: r, _, h => crcBytes_lt r (crcByte_lt h b)
theorem crcBytes_append (v : Nat) (a b : List UInt8) : crcBytes v (a ++ b) = crcBytes (crcBytes v a) b := by simp [crcBytes]
theorem crcN_succ (m v : Nat) : crcN (m + 1) v = crc1 (crcN m v) := by
  induction m generalizing v with
  | zero => rfl
  | succ m ih => rw [crcN, ih, crcN]
theorem crcBytes_take_succ (v : Nat) (l : List UInt8) {i : Nat} (h : i < l.length) : crcBytes v (l.take (i + 1)) = crcByte (crcBytes v (l.take i)) (l.getD i 0) := by
  rw [List.take_succ_eq_append_getElem h, crcBytes_append]
  have h2 : l.getD i 0 = l[i] := by simp [List.getD_eq_getElem?_getD, h]
  rw [h2]; rfl
theorem sum_calls (R : IM) (B : Option Addr) (m' c' : Nat) (vs : List Value) (rows : List (List UInt8)) (hB : RC R B vs) (hR : Rows8 R vs rows) (hm' : m' = rows.length)
    (hlen : ∀ i, i < rows.length → (rows.getD i []).length ≤ 100000000) (hn : rows.length ≤ 100000000) :
    CallJ Try.prog 28 #[.slice B m' c'] ⟨R, []⟩ (fun v D hs' => v = .int .u32 ((crcSum rows.flatten : Nat) : Int) ∧ hs' = []) := by
  refine CallJ.of1 Try.func28 rfl Try.ntmps28 rfl (fun W0 => ?_)
  repeat (first
    | refine CodeJ.seq' ?_
    | refine CodeJ.region ?_
    | refine CodeJ.block ?_
    | refine CodeJ.skip ?_
    | refine CodeJ.exit rfl ?_
    | refine CodeJ.ret' ?_
    | (refine OpsJ.put (d := 22) rfl ?_; refine OpJ.conv_bytes rfl (by first | exact List.Perm.refl _ | exact List.Perm.swap _ _ _ | exact permm2 _ _ _ _ | exact permm3 _ _ _ _ _ | exact permm4 _ _ _ _ _ _ | exact permm5 _ _ _ _ _ _ _) (fun D22 hdis22 hrc22 => ?_))
    | (refine OpsJ.put (d := 22) rfl ?_; refine OpJ.conv_string_bytes rfl (fun A22 c22 D22 hdis22 hrc22 hcap22 => ?_))
    | (refine OpsJ.put rfl ?_; first
      | refine OpJ.pure (OpP.assign rfl) ?_
      | refine OpJ.pure (OpP.move rfl) ?_
      | refine OpJ.pure (OpP.len rfl) ?_
      | refine OpJ.pure (OpP.len_string rfl) ?_
      | refine OpJ.pure (OpP.lss rfl rfl) ?_
      | refine OpJ.pure (OpP.idx1 rfl rfl (by omega) (by omega) (Src.ofR (by with_reducible assumption)) (ne_get (by assumption))) ?_
      | refine OpJ.pure (OpP.idx1 rfl rfl (by omega) (by omega) (Src.ofRow (by repeat (first | exact List.Mem.head _ | apply List.Mem.tail))) (ne_get (by assumption))) ?_
      | refine OpJ.pure (OpP.load_blk (by exact rfl) rfl (by repeat (first | exact List.Mem.head _ | apply List.Mem.tail)) rfl) ?_
      | refine OpJ.pure (OpP.loadN_blk (by exact rfl) rfl (by repeat (first | exact List.Mem.head _ | apply List.Mem.tail)) (by exact rfl)) ?_
      | refine OpJ.pure (OpP.load1 (by exact rfl) rfl (Src.ofR (by with_reducible assumption)) rfl (by assumption)) ?_
      | refine OpJ.pure (OpP.load1 (by exact rfl) rfl (Src.ofRow (by repeat (first | exact List.Mem.head _ | apply List.Mem.tail))) rfl (by assumption)) ?_
      | refine OpJ.pure (OpP.conv_in rfl (by first | exact IntWalk.i64_in _ (by omega) | exact IntWalk.u8_in _ (by omega) | exact IntWalk.u32_in _ (by omega) | exact wrap_u64_in _ (by omega))) ?_
      | refine OpJ.pure (OpP.conv_int rfl) ?_
      | refine OpJ.pure (OpP.conv_string rfl) ?_
      | refine OpJ.pure (OpP.xor_nat rfl rfl rfl (by first | with_reducible assumption | assumption | decide | exact lt_b32 (by omega) | exact lt_b8 (by omega) | exact lt_b64 (by omega)) (by first | with_reducible assumption | assumption | decide | exact lt_b32 (by omega) | exact lt_b8 (by omega) | exact lt_b64 (by omega))) ?_
      | refine OpJ.pure (OpP.xor rfl rfl) ?_
      | refine OpJ.pure (OpP.shr_nat rfl rfl rfl) ?_
      | refine OpJ.pure (OpP.shr rfl rfl (by omega)) ?_
      | refine OpJ.pure (OpP.and_nat rfl rfl rfl (by first | with_reducible assumption | assumption | decide | exact lt_b32 (by omega) | exact lt_b8 (by omega) | exact lt_b64 (by omega)) (by first | with_reducible assumption | assumption | decide | exact lt_b32 (by omega) | exact lt_b8 (by omega) | exact lt_b64 (by omega))) ?_
      | refine OpJ.pure (OpP.and rfl rfl) ?_
      | refine OpJ.pure (OpP.neg rfl) ?_
      | refine OpJ.pure (OpP.add_in rfl rfl (by omega) (by omega)) ?_
      | refine OpJ.pure (OpP.cat rfl rfl (by omega)) ?_
      | refine OpJ.pure (OpP.add rfl rfl) ?_
      | refine OpJ.pure (OpP.compl_u32 rfl (by first | with_reducible assumption | assumption | decide | exact lt_b32 (by omega) | exact lt_b8 (by omega) | exact lt_b64 (by omega))) ?_
      | refine OpJ.pure (OpP.compl rfl) ?_)
    | refine OpsJ.nil ?_
    | refine CodeJ.cond_t rfl (by with_reducible assumption) ?_
    | refine CodeJ.cond_f rfl (by with_reducible assumption) ?_
    | refine CodeJ.cond_dt rfl (by omega) ?_
    | refine CodeJ.cond_df rfl (by omega) ?_
    | refine CodeJ.cond_t rfl rfl ?_
    | refine CodeJ.cond_f rfl rfl ?_)
  refine CodeJ.loop (fun k e s => ∃ (i v : Nat), i ≤ rows.length ∧ k = rows.length - i ∧ v = crcBytes 0xffffffff (rows.take i).flatten ∧
      e = [(3, .int .u32 (v : Int)), (8, .slice B m' c'), (9, .int .i64 m'), (10, .int .i64 i)] ∧ s = ⟨R, []⟩) rows.length
    ⟨0, 0xffffffff, Nat.zero_le _, rfl, by simp [crcBytes], rfl, rfl⟩ (by repeat (first | exact SubE.nil _ | refine SubE.cons rfl ?_)) (by repeat (first | exact SubL.nil _ | refine SubL.p0 ?_ | refine SubL.p1 ?_ | refine SubL.p2 ?_ | refine SubL.p3 ?_ | refine SubL.p4 ?_ | refine SubL.p5 ?_ | refine SubL.p6 ?_ | refine SubL.p7 ?_)) ?_
  rintro k e1 s1 ⟨i, v, hi, hk, hv, rfl, rfl⟩
  have hv32 : v < 2 ^ 32 := by rw [hv]; exact crcBytes_lt _ (by decide)
  repeat (first
    | refine CodeJ.seq' ?_
    | refine CodeJ.region ?_
    | refine CodeJ.block ?_
    | refine CodeJ.skip ?_
    | refine CodeJ.exit rfl ?_
    | refine CodeJ.ret' ?_
    | (refine OpsJ.put (d := 22) rfl ?_; refine OpJ.conv_bytes rfl (by first | exact List.Perm.refl _ | exact List.Perm.swap _ _ _ | exact permm2 _ _ _ _ | exact permm3 _ _ _ _ _ | exact permm4 _ _ _ _ _ _ | exact permm5 _ _ _ _ _ _ _) (fun D22 hdis22 hrc22 => ?_))
    | (refine OpsJ.put (d := 22) rfl ?_; refine OpJ.conv_string_bytes rfl (fun A22 c22 D22 hdis22 hrc22 hcap22 => ?_))
    | (refine OpsJ.put rfl ?_; first
      | refine OpJ.pure (OpP.assign rfl) ?_
      | refine OpJ.pure (OpP.move rfl) ?_
      | refine OpJ.pure (OpP.len rfl) ?_
      | refine OpJ.pure (OpP.len_string rfl) ?_
      | refine OpJ.pure (OpP.lss rfl rfl) ?_
      | refine OpJ.pure (OpP.idx1 rfl rfl (by omega) (by omega) (Src.ofR (by with_reducible assumption)) (ne_get (by assumption))) ?_
      | refine OpJ.pure (OpP.idx1 rfl rfl (by omega) (by omega) (Src.ofRow (by repeat (first | exact List.Mem.head _ | apply List.Mem.tail))) (ne_get (by assumption))) ?_
      | refine OpJ.pure (OpP.load_blk (by exact rfl) rfl (by repeat (first | exact List.Mem.head _ | apply List.Mem.tail)) rfl) ?_
      | refine OpJ.pure (OpP.loadN_blk (by exact rfl) rfl (by repeat (first | exact List.Mem.head _ | apply List.Mem.tail)) (by exact rfl)) ?_
      | refine OpJ.pure (OpP.load1 (by exact rfl) rfl (Src.ofR (by with_reducible assumption)) rfl (by assumption)) ?_
      | refine OpJ.pure (OpP.load1 (by exact rfl) rfl (Src.ofRow (by repeat (first | exact List.Mem.head _ | apply List.Mem.tail))) rfl (by assumption)) ?_
      | refine OpJ.pure (OpP.conv_in rfl (by first | exact IntWalk.i64_in _ (by omega) | exact IntWalk.u8_in _ (by omega) | exact IntWalk.u32_in _ (by omega) | exact wrap_u64_in _ (by omega))) ?_
      | refine OpJ.pure (OpP.conv_int rfl) ?_
      | refine OpJ.pure (OpP.conv_string rfl) ?_
      | refine OpJ.pure (OpP.xor_nat rfl rfl rfl (by first | with_reducible assumption | assumption | decide | exact lt_b32 (by omega) | exact lt_b8 (by omega) | exact lt_b64 (by omega)) (by first | with_reducible assumption | assumption | decide | exact lt_b32 (by omega) | exact lt_b8 (by omega) | exact lt_b64 (by omega))) ?_
      | refine OpJ.pure (OpP.xor rfl rfl) ?_
      | refine OpJ.pure (OpP.shr_nat rfl rfl rfl) ?_
      | refine OpJ.pure (OpP.shr rfl rfl (by omega)) ?_
      | refine OpJ.pure (OpP.and_nat rfl rfl rfl (by first | with_reducible assumption | assumption | decide | exact lt_b32 (by omega) | exact lt_b8 (by omega) | exact lt_b64 (by omega)) (by first | with_reducible assumption | assumption | decide | exact lt_b32 (by omega) | exact lt_b8 (by omega) | exact lt_b64 (by omega))) ?_
      | refine OpJ.pure (OpP.and rfl rfl) ?_
      | refine OpJ.pure (OpP.neg rfl) ?_
      | refine OpJ.pure (OpP.add_in rfl rfl (by omega) (by omega)) ?_
      | refine OpJ.pure (OpP.cat rfl rfl (by omega)) ?_
      | refine OpJ.pure (OpP.add rfl rfl) ?_
      | refine OpJ.pure (OpP.compl_u32 rfl (by first | with_reducible assumption | assumption | decide | exact lt_b32 (by omega) | exact lt_b8 (by omega) | exact lt_b64 (by omega))) ?_
      | refine OpJ.pure (OpP.compl rfl) ?_)
    | refine OpsJ.nil ?_
    | refine CodeJ.cond_t rfl (by with_reducible assumption) ?_
    | refine CodeJ.cond_f rfl (by with_reducible assumption) ?_
    | refine CodeJ.cond_dt rfl (by omega) ?_
    | refine CodeJ.cond_df rfl (by omega) ?_
    | refine CodeJ.cond_t rfl rfl ?_
    | refine CodeJ.cond_f rfl rfl ?_)
  refine CodeJ.cond_d rfl (fun hc => ?_) (fun hc => ?_)
  · obtain ⟨A, c, hcell, hA⟩ := hR.2 i (by omega)
    have hl := hlen i (by omega)
    generalize hrow : rows.getD i [] = row at *
    repeat (first
      | refine CodeJ.seq' ?_
      | refine CodeJ.region ?_
      | refine CodeJ.block ?_
      | refine CodeJ.skip ?_
      | refine CodeJ.exit rfl ?_
      | refine CodeJ.ret' ?_
      | (refine OpsJ.put (d := 22) rfl ?_; refine OpJ.conv_bytes rfl (by first | exact List.Perm.refl _ | exact List.Perm.swap _ _ _ | exact permm2 _ _ _ _ | exact permm3 _ _ _ _ _ | exact permm4 _ _ _ _ _ _ | exact permm5 _ _ _ _ _ _ _) (fun D22 hdis22 hrc22 => ?_))
      | (refine OpsJ.put (d := 22) rfl ?_; refine OpJ.conv_string_bytes rfl (fun A22 c22 D22 hdis22 hrc22 hcap22 => ?_))
      | (refine OpsJ.put rfl ?_; first
        | refine OpJ.pure (OpP.assign rfl) ?_
        | refine OpJ.pure (OpP.move rfl) ?_
        | refine OpJ.pure (OpP.len rfl) ?_
        | refine OpJ.pure (OpP.len_string rfl) ?_
        | refine OpJ.pure (OpP.lss rfl rfl) ?_
        | refine OpJ.pure (OpP.idx1 rfl rfl (by omega) (by omega) (Src.ofR (by with_reducible assumption)) (ne_get (by assumption))) ?_
        | refine OpJ.pure (OpP.idx1 rfl rfl (by omega) (by omega) (Src.ofRow (by repeat (first | exact List.Mem.head _ | apply List.Mem.tail))) (ne_get (by assumption))) ?_
        | refine OpJ.pure (OpP.load_blk (by exact rfl) rfl (by repeat (first | exact List.Mem.head _ | apply List.Mem.tail)) rfl) ?_
        | refine OpJ.pure (OpP.loadN_blk (by exact rfl) rfl (by repeat (first | exact List.Mem.head _ | apply List.Mem.tail)) (by exact rfl)) ?_
        | refine OpJ.pure (OpP.load1 (by exact rfl) rfl (Src.ofR (by with_reducible assumption)) rfl (by assumption)) ?_
        | refine OpJ.pure (OpP.load1 (by exact rfl) rfl (Src.ofRow (by repeat (first | exact List.Mem.head _ | apply List.Mem.tail))) rfl (by assumption)) ?_
        | refine OpJ.pure (OpP.conv_in rfl (by first | exact IntWalk.i64_in _ (by omega) | exact IntWalk.u8_in _ (by omega) | exact IntWalk.u32_in _ (by omega) | exact wrap_u64_in _ (by omega))) ?_
        | refine OpJ.pure (OpP.conv_int rfl) ?_
        | refine OpJ.pure (OpP.conv_string rfl) ?_
        | refine OpJ.pure (OpP.xor_nat rfl rfl rfl (by first | with_reducible assumption | assumption | decide | exact lt_b32 (by omega) | exact lt_b8 (by omega) | exact lt_b64 (by omega)) (by first | with_reducible assumption | assumption | decide | exact lt_b32 (by omega) | exact lt_b8 (by omega) | exact lt_b64 (by omega))) ?_
        | refine OpJ.pure (OpP.xor rfl rfl) ?_
        | refine OpJ.pure (OpP.shr_nat rfl rfl rfl) ?_
        | refine OpJ.pure (OpP.shr rfl rfl (by omega)) ?_
        | refine OpJ.pure (OpP.and_nat rfl rfl rfl (by first | with_reducible assumption | assumption | decide | exact lt_b32 (by omega) | exact lt_b8 (by omega) | exact lt_b64 (by omega)) (by first | with_reducible assumption | assumption | decide | exact lt_b32 (by omega) | exact lt_b8 (by omega) | exact lt_b64 (by omega))) ?_
        | refine OpJ.pure (OpP.and rfl rfl) ?_
        | refine OpJ.pure (OpP.neg rfl) ?_
        | refine OpJ.pure (OpP.add_in rfl rfl (by omega) (by omega)) ?_
        | refine OpJ.pure (OpP.cat rfl rfl (by omega)) ?_
        | refine OpJ.pure (OpP.add rfl rfl) ?_
        | refine OpJ.pure (OpP.compl_u32 rfl (by first | with_reducible assumption | assumption | decide | exact lt_b32 (by omega) | exact lt_b8 (by omega) | exact lt_b64 (by omega))) ?_
        | refine OpJ.pure (OpP.compl rfl) ?_)
      | refine OpsJ.nil ?_
      | refine CodeJ.cond_t rfl (by with_reducible assumption) ?_
      | refine CodeJ.cond_f rfl (by with_reducible assumption) ?_
      | refine CodeJ.cond_dt rfl (by omega) ?_
      | refine CodeJ.cond_df rfl (by omega) ?_
      | refine CodeJ.cond_t rfl rfl ?_
      | refine CodeJ.cond_f rfl rfl ?_)
    clear hcell
    refine CodeJ.loop (fun k e s => ∃ (j u : Nat), j ≤ row.length ∧ k = row.length - j ∧ u = crcBytes v (row.take j) ∧
      e = [(3, .int .u32 (u : Int)), (8, .slice B m' c'), (9, .int .i64 m'), (10, .int .i64 i), (14, .slice A row.length c), (15, .int .i64 row.length), (16, .int .i64 j)] ∧ s = ⟨R, []⟩) row.length
      ⟨0, v, Nat.zero_le _, rfl, by simp [crcBytes], rfl, rfl⟩ (by repeat (first | exact SubE.nil _ | refine SubE.cons rfl ?_)) (by repeat (first | exact SubL.nil _ | refine SubL.p0 ?_ | refine SubL.p1 ?_ | refine SubL.p2 ?_ | refine SubL.p3 ?_ | refine SubL.p4 ?_ | refine SubL.p5 ?_ | refine SubL.p6 ?_ | refine SubL.p7 ?_)) ?_
    rintro k1 e1 s1 ⟨j, u, hj, hk1, hu, rfl, rfl⟩
    have hu32 : u < 2 ^ 32 := by rw [hu]; exact crcBytes_lt _ hv32
    repeat (first
      | refine CodeJ.seq' ?_
      | refine CodeJ.region ?_
      | refine CodeJ.block ?_
      | refine CodeJ.skip ?_
      | refine CodeJ.exit rfl ?_
      | refine CodeJ.ret' ?_
      | (refine OpsJ.put (d := 22) rfl ?_; refine OpJ.conv_bytes rfl (by first | exact List.Perm.refl _ | exact List.Perm.swap _ _ _ | exact permm2 _ _ _ _ | exact permm3 _ _ _ _ _ | exact permm4 _ _ _ _ _ _ | exact permm5 _ _ _ _ _ _ _) (fun D22 hdis22 hrc22 => ?_))
      | (refine OpsJ.put (d := 22) rfl ?_; refine OpJ.conv_string_bytes rfl (fun A22 c22 D22 hdis22 hrc22 hcap22 => ?_))
      | (refine OpsJ.put rfl ?_; first
        | refine OpJ.pure (OpP.assign rfl) ?_
        | refine OpJ.pure (OpP.move rfl) ?_
        | refine OpJ.pure (OpP.len rfl) ?_
        | refine OpJ.pure (OpP.len_string rfl) ?_
        | refine OpJ.pure (OpP.lss rfl rfl) ?_
        | refine OpJ.pure (OpP.idx1 rfl rfl (by omega) (by omega) (Src.ofR (by with_reducible assumption)) (ne_get (by assumption))) ?_
        | refine OpJ.pure (OpP.idx1 rfl rfl (by omega) (by omega) (Src.ofRow (by repeat (first | exact List.Mem.head _ | apply List.Mem.tail))) (ne_get (by assumption))) ?_
        | refine OpJ.pure (OpP.load_blk (by exact rfl) rfl (by repeat (first | exact List.Mem.head _ | apply List.Mem.tail)) rfl) ?_
        | refine OpJ.pure (OpP.loadN_blk (by exact rfl) rfl (by repeat (first | exact List.Mem.head _ | apply List.Mem.tail)) (by exact rfl)) ?_
        | refine OpJ.pure (OpP.load1 (by exact rfl) rfl (Src.ofR (by with_reducible assumption)) rfl (by assumption)) ?_
        | refine OpJ.pure (OpP.load1 (by exact rfl) rfl (Src.ofRow (by repeat (first | exact List.Mem.head _ | apply List.Mem.tail))) rfl (by assumption)) ?_
        | refine OpJ.pure (OpP.conv_in rfl (by first | exact IntWalk.i64_in _ (by omega) | exact IntWalk.u8_in _ (by omega) | exact IntWalk.u32_in _ (by omega) | exact wrap_u64_in _ (by omega))) ?_
        | refine OpJ.pure (OpP.conv_int rfl) ?_
        | refine OpJ.pure (OpP.conv_string rfl) ?_
        | refine OpJ.pure (OpP.xor_nat rfl rfl rfl (by first | with_reducible assumption | assumption | decide | exact lt_b32 (by omega) | exact lt_b8 (by omega) | exact lt_b64 (by omega)) (by first | with_reducible assumption | assumption | decide | exact lt_b32 (by omega) | exact lt_b8 (by omega) | exact lt_b64 (by omega))) ?_
        | refine OpJ.pure (OpP.xor rfl rfl) ?_
        | refine OpJ.pure (OpP.shr_nat rfl rfl rfl) ?_
        | refine OpJ.pure (OpP.shr rfl rfl (by omega)) ?_
        | refine OpJ.pure (OpP.and_nat rfl rfl rfl (by first | with_reducible assumption | assumption | decide | exact lt_b32 (by omega) | exact lt_b8 (by omega) | exact lt_b64 (by omega)) (by first | with_reducible assumption | assumption | decide | exact lt_b32 (by omega) | exact lt_b8 (by omega) | exact lt_b64 (by omega))) ?_
        | refine OpJ.pure (OpP.and rfl rfl) ?_
        | refine OpJ.pure (OpP.neg rfl) ?_
        | refine OpJ.pure (OpP.add_in rfl rfl (by omega) (by omega)) ?_
        | refine OpJ.pure (OpP.cat rfl rfl (by omega)) ?_
        | refine OpJ.pure (OpP.add rfl rfl) ?_
        | refine OpJ.pure (OpP.compl_u32 rfl (by first | with_reducible assumption | assumption | decide | exact lt_b32 (by omega) | exact lt_b8 (by omega) | exact lt_b64 (by omega))) ?_
        | refine OpJ.pure (OpP.compl rfl) ?_)
      | refine OpsJ.nil ?_
      | refine CodeJ.cond_t rfl (by with_reducible assumption) ?_
      | refine CodeJ.cond_f rfl (by with_reducible assumption) ?_
      | refine CodeJ.cond_dt rfl (by omega) ?_
      | refine CodeJ.cond_df rfl (by omega) ?_
      | refine CodeJ.cond_t rfl rfl ?_
      | refine CodeJ.cond_f rfl rfl ?_)
    refine CodeJ.cond_d rfl (fun hc => ?_) (fun hc => ?_)
    · have hcell := bcells_get (a := row) (i := j) (by omega)
      have hbt : (row.getD j 0).toNat < 256 := (row.getD j 0).toNat_lt
      generalize hbb : row.getD j 0 = bb at *
      repeat (first
        | refine CodeJ.seq' ?_
        | refine CodeJ.region ?_
        | refine CodeJ.block ?_
        | refine CodeJ.skip ?_
        | refine CodeJ.exit rfl ?_
        | refine CodeJ.ret' ?_
        | (refine OpsJ.put (d := 22) rfl ?_; refine OpJ.conv_bytes rfl (by first | exact List.Perm.refl _ | exact List.Perm.swap _ _ _ | exact permm2 _ _ _ _ | exact permm3 _ _ _ _ _ | exact permm4 _ _ _ _ _ _ | exact permm5 _ _ _ _ _ _ _) (fun D22 hdis22 hrc22 => ?_))
        | (refine OpsJ.put (d := 22) rfl ?_; refine OpJ.conv_string_bytes rfl (fun A22 c22 D22 hdis22 hrc22 hcap22 => ?_))
        | (refine OpsJ.put rfl ?_; first
          | refine OpJ.pure (OpP.assign rfl) ?_
          | refine OpJ.pure (OpP.move rfl) ?_
          | refine OpJ.pure (OpP.len rfl) ?_
          | refine OpJ.pure (OpP.len_string rfl) ?_
          | refine OpJ.pure (OpP.lss rfl rfl) ?_
          | refine OpJ.pure (OpP.idx1 rfl rfl (by omega) (by omega) (Src.ofR (by with_reducible assumption)) (ne_get (by assumption))) ?_
          | refine OpJ.pure (OpP.idx1 rfl rfl (by omega) (by omega) (Src.ofRow (by repeat (first | exact List.Mem.head _ | apply List.Mem.tail))) (ne_get (by assumption))) ?_
          | refine OpJ.pure (OpP.load_blk (by exact rfl) rfl (by repeat (first | exact List.Mem.head _ | apply List.Mem.tail)) rfl) ?_
          | refine OpJ.pure (OpP.loadN_blk (by exact rfl) rfl (by repeat (first | exact List.Mem.head _ | apply List.Mem.tail)) (by exact rfl)) ?_
          | refine OpJ.pure (OpP.load1 (by exact rfl) rfl (Src.ofR (by with_reducible assumption)) rfl (by assumption)) ?_
          | refine OpJ.pure (OpP.load1 (by exact rfl) rfl (Src.ofRow (by repeat (first | exact List.Mem.head _ | apply List.Mem.tail))) rfl (by assumption)) ?_
          | refine OpJ.pure (OpP.conv_in rfl (by first | exact IntWalk.i64_in _ (by omega) | exact IntWalk.u8_in _ (by omega) | exact IntWalk.u32_in _ (by omega) | exact wrap_u64_in _ (by omega))) ?_
          | refine OpJ.pure (OpP.conv_int rfl) ?_
          | refine OpJ.pure (OpP.conv_string rfl) ?_
          | refine OpJ.pure (OpP.xor_nat rfl rfl rfl (by first | with_reducible assumption | assumption | decide | exact lt_b32 (by omega) | exact lt_b8 (by omega) | exact lt_b64 (by omega)) (by first | with_reducible assumption | assumption | decide | exact lt_b32 (by omega) | exact lt_b8 (by omega) | exact lt_b64 (by omega))) ?_
          | refine OpJ.pure (OpP.xor rfl rfl) ?_
          | refine OpJ.pure (OpP.shr_nat rfl rfl rfl) ?_
          | refine OpJ.pure (OpP.shr rfl rfl (by omega)) ?_
          | refine OpJ.pure (OpP.and_nat rfl rfl rfl (by first | with_reducible assumption | assumption | decide | exact lt_b32 (by omega) | exact lt_b8 (by omega) | exact lt_b64 (by omega)) (by first | with_reducible assumption | assumption | decide | exact lt_b32 (by omega) | exact lt_b8 (by omega) | exact lt_b64 (by omega))) ?_
          | refine OpJ.pure (OpP.and rfl rfl) ?_
          | refine OpJ.pure (OpP.neg rfl) ?_
          | refine OpJ.pure (OpP.add_in rfl rfl (by omega) (by omega)) ?_
          | refine OpJ.pure (OpP.cat rfl rfl (by omega)) ?_
          | refine OpJ.pure (OpP.add rfl rfl) ?_
          | refine OpJ.pure (OpP.compl_u32 rfl (by first | with_reducible assumption | assumption | decide | exact lt_b32 (by omega) | exact lt_b8 (by omega) | exact lt_b64 (by omega))) ?_
          | refine OpJ.pure (OpP.compl rfl) ?_)
        | refine OpsJ.nil ?_
        | refine CodeJ.cond_t rfl (by with_reducible assumption) ?_
        | refine CodeJ.cond_f rfl (by with_reducible assumption) ?_
        | refine CodeJ.cond_dt rfl (by omega) ?_
        | refine CodeJ.cond_df rfl (by omega) ?_
        | refine CodeJ.cond_t rfl rfl ?_
        | refine CodeJ.cond_f rfl rfl ?_)
      refine CodeJ.loop (fun k e s => ∃ (q u1 : Nat), q ≤ 8 ∧ k = 8 - q ∧ u1 = crcN q (u ^^^ bb.toNat) ∧
        e = [(3, .int .u32 (u1 : Int)), (8, .slice B m' c'), (9, .int .i64 m'), (10, .int .i64 i), (14, .slice A row.length c), (15, .int .i64 row.length), (16, .int .i64 j), (24, .int .i64 q)] ∧ s = ⟨R, []⟩) 8
        ⟨0, _, Nat.zero_le _, rfl, rfl, rfl, rfl⟩ (by repeat (first | exact SubE.nil _ | refine SubE.cons rfl ?_)) (by repeat (first | exact SubL.nil _ | refine SubL.p0 ?_ | refine SubL.p1 ?_ | refine SubL.p2 ?_ | refine SubL.p3 ?_ | refine SubL.p4 ?_ | refine SubL.p5 ?_ | refine SubL.p6 ?_ | refine SubL.p7 ?_)) ?_
      rintro k2 e1 s1 ⟨q, u1, hq, hk2, hu1, rfl, rfl⟩
      have hx32 : u ^^^ bb.toNat < 2 ^ 32 := Nat.xor_lt_two_pow hu32 (by omega)
      have hu132 : u1 < 2 ^ 32 := by rw [hu1]; exact crcN_lt _ hx32
      repeat (first
        | refine CodeJ.seq' ?_
        | refine CodeJ.region ?_
        | refine CodeJ.block ?_
        | refine CodeJ.skip ?_
        | refine CodeJ.exit rfl ?_
        | refine CodeJ.ret' ?_
        | (refine OpsJ.put (d := 22) rfl ?_; refine OpJ.conv_bytes rfl (by first | exact List.Perm.refl _ | exact List.Perm.swap _ _ _ | exact permm2 _ _ _ _ | exact permm3 _ _ _ _ _ | exact permm4 _ _ _ _ _ _ | exact permm5 _ _ _ _ _ _ _) (fun D22 hdis22 hrc22 => ?_))
        | (refine OpsJ.put (d := 22) rfl ?_; refine OpJ.conv_string_bytes rfl (fun A22 c22 D22 hdis22 hrc22 hcap22 => ?_))
        | (refine OpsJ.put rfl ?_; first
          | refine OpJ.pure (OpP.assign rfl) ?_
          | refine OpJ.pure (OpP.move rfl) ?_
          | refine OpJ.pure (OpP.len rfl) ?_
          | refine OpJ.pure (OpP.len_string rfl) ?_
          | refine OpJ.pure (OpP.lss rfl rfl) ?_
          | refine OpJ.pure (OpP.idx1 rfl rfl (by omega) (by omega) (Src.ofR (by with_reducible assumption)) (ne_get (by assumption))) ?_
          | refine OpJ.pure (OpP.idx1 rfl rfl (by omega) (by omega) (Src.ofRow (by repeat (first | exact List.Mem.head _ | apply List.Mem.tail))) (ne_get (by assumption))) ?_
          | refine OpJ.pure (OpP.load_blk (by exact rfl) rfl (by repeat (first | exact List.Mem.head _ | apply List.Mem.tail)) rfl) ?_
          | refine OpJ.pure (OpP.loadN_blk (by exact rfl) rfl (by repeat (first | exact List.Mem.head _ | apply List.Mem.tail)) (by exact rfl)) ?_
          | refine OpJ.pure (OpP.load1 (by exact rfl) rfl (Src.ofR (by with_reducible assumption)) rfl (by assumption)) ?_
          | refine OpJ.pure (OpP.load1 (by exact rfl) rfl (Src.ofRow (by repeat (first | exact List.Mem.head _ | apply List.Mem.tail))) rfl (by assumption)) ?_
          | refine OpJ.pure (OpP.conv_in rfl (by first | exact IntWalk.i64_in _ (by omega) | exact IntWalk.u8_in _ (by omega) | exact IntWalk.u32_in _ (by omega) | exact wrap_u64_in _ (by omega))) ?_
          | refine OpJ.pure (OpP.conv_int rfl) ?_
          | refine OpJ.pure (OpP.conv_string rfl) ?_
          | refine OpJ.pure (OpP.xor_nat rfl rfl rfl (by first | with_reducible assumption | assumption | decide | exact lt_b32 (by omega) | exact lt_b8 (by omega) | exact lt_b64 (by omega)) (by first | with_reducible assumption | assumption | decide | exact lt_b32 (by omega) | exact lt_b8 (by omega) | exact lt_b64 (by omega))) ?_
          | refine OpJ.pure (OpP.xor rfl rfl) ?_
          | refine OpJ.pure (OpP.shr_nat rfl rfl rfl) ?_
          | refine OpJ.pure (OpP.shr rfl rfl (by omega)) ?_
          | refine OpJ.pure (OpP.and_nat rfl rfl rfl (by first | with_reducible assumption | assumption | decide | exact lt_b32 (by omega) | exact lt_b8 (by omega) | exact lt_b64 (by omega)) (by first | with_reducible assumption | assumption | decide | exact lt_b32 (by omega) | exact lt_b8 (by omega) | exact lt_b64 (by omega))) ?_
          | refine OpJ.pure (OpP.and rfl rfl) ?_
          | refine OpJ.pure (OpP.neg rfl) ?_
          | refine OpJ.pure (OpP.add_in rfl rfl (by omega) (by omega)) ?_
          | refine OpJ.pure (OpP.cat rfl rfl (by omega)) ?_
          | refine OpJ.pure (OpP.add rfl rfl) ?_
          | refine OpJ.pure (OpP.compl_u32 rfl (by first | with_reducible assumption | assumption | decide | exact lt_b32 (by omega) | exact lt_b8 (by omega) | exact lt_b64 (by omega))) ?_
          | refine OpJ.pure (OpP.compl rfl) ?_)
        | refine OpsJ.nil ?_
        | refine CodeJ.cond_t rfl (by with_reducible assumption) ?_
        | refine CodeJ.cond_f rfl (by with_reducible assumption) ?_
        | refine CodeJ.cond_dt rfl (by omega) ?_
        | refine CodeJ.cond_df rfl (by omega) ?_
        | refine CodeJ.cond_t rfl rfl ?_
        | refine CodeJ.cond_f rfl rfl ?_)
      refine CodeJ.cond_d rfl (fun hc => ?_) (fun hc => ?_)
      · have h30 : (if u1 % 2 = 1 then 0xffffffff else 0) < 2 ^ 32 := by split <;> decide
        have h31 : (0xedb88320 &&& (if u1 % 2 = 1 then 0xffffffff else 0)) < 2 ^ 32 := Nat.lt_of_le_of_lt Nat.and_le_left (by decide)
        have h27 : u1 / 2 ^ 1 < 2 ^ 32 := by omega
        repeat (first
          | (refine OpsJ.put (d := 30) rfl (OpJ.pure (OpP.neg_bit rfl) ?_))
          | (refine OpsJ.put (d := 29) rfl (OpJ.pure (OpP.and_nat (q := 1) rfl rfl rfl hu132 (by decide)) ?_))
          | (refine OpsJ.put (d := 31) rfl (OpJ.pure (OpP.and_nat (p := 0xedb88320) rfl rfl rfl (by decide) h30) ?_))
          | refine CodeJ.seq' ?_
          | refine CodeJ.region ?_
          | refine CodeJ.block ?_
          | refine CodeJ.skip ?_
          | refine CodeJ.exit rfl ?_
          | refine CodeJ.ret' ?_
          | (refine OpsJ.put (d := 22) rfl ?_; refine OpJ.conv_bytes rfl (by first | exact List.Perm.refl _ | exact List.Perm.swap _ _ _ | exact permm2 _ _ _ _ | exact permm3 _ _ _ _ _ | exact permm4 _ _ _ _ _ _ | exact permm5 _ _ _ _ _ _ _) (fun D22 hdis22 hrc22 => ?_))
          | (refine OpsJ.put (d := 22) rfl ?_; refine OpJ.conv_string_bytes rfl (fun A22 c22 D22 hdis22 hrc22 hcap22 => ?_))
          | (refine OpsJ.put rfl ?_; first
            | refine OpJ.pure (OpP.assign rfl) ?_
            | refine OpJ.pure (OpP.move rfl) ?_
            | refine OpJ.pure (OpP.len rfl) ?_
            | refine OpJ.pure (OpP.len_string rfl) ?_
            | refine OpJ.pure (OpP.lss rfl rfl) ?_
            | refine OpJ.pure (OpP.idx1 rfl rfl (by omega) (by omega) (Src.ofR (by with_reducible assumption)) (ne_get (by assumption))) ?_
            | refine OpJ.pure (OpP.idx1 rfl rfl (by omega) (by omega) (Src.ofRow (by repeat (first | exact List.Mem.head _ | apply List.Mem.tail))) (ne_get (by assumption))) ?_
            | refine OpJ.pure (OpP.load_blk (by exact rfl) rfl (by repeat (first | exact List.Mem.head _ | apply List.Mem.tail)) rfl) ?_
            | refine OpJ.pure (OpP.loadN_blk (by exact rfl) rfl (by repeat (first | exact List.Mem.head _ | apply List.Mem.tail)) (by exact rfl)) ?_
            | refine OpJ.pure (OpP.load1 (by exact rfl) rfl (Src.ofR (by with_reducible assumption)) rfl (by assumption)) ?_
            | refine OpJ.pure (OpP.load1 (by exact rfl) rfl (Src.ofRow (by repeat (first | exact List.Mem.head _ | apply List.Mem.tail))) rfl (by assumption)) ?_
            | refine OpJ.pure (OpP.conv_in rfl (by first | exact IntWalk.i64_in _ (by omega) | exact IntWalk.u8_in _ (by omega) | exact IntWalk.u32_in _ (by omega) | exact wrap_u64_in _ (by omega))) ?_
            | refine OpJ.pure (OpP.conv_int rfl) ?_
            | refine OpJ.pure (OpP.conv_string rfl) ?_
            | refine OpJ.pure (OpP.xor_nat rfl rfl rfl (by first | with_reducible assumption | assumption | decide | exact lt_b32 (by omega) | exact lt_b8 (by omega) | exact lt_b64 (by omega)) (by first | with_reducible assumption | assumption | decide | exact lt_b32 (by omega) | exact lt_b8 (by omega) | exact lt_b64 (by omega))) ?_
            | refine OpJ.pure (OpP.xor rfl rfl) ?_
            | refine OpJ.pure (OpP.shr_nat rfl rfl rfl) ?_
            | refine OpJ.pure (OpP.shr rfl rfl (by omega)) ?_
            | refine OpJ.pure (OpP.and_nat rfl rfl rfl (by first | with_reducible assumption | assumption | decide | exact lt_b32 (by omega) | exact lt_b8 (by omega) | exact lt_b64 (by omega)) (by first | with_reducible assumption | assumption | decide | exact lt_b32 (by omega) | exact lt_b8 (by omega) | exact lt_b64 (by omega))) ?_
            | refine OpJ.pure (OpP.and rfl rfl) ?_
            | refine OpJ.pure (OpP.neg rfl) ?_
            | refine OpJ.pure (OpP.add_in rfl rfl (by omega) (by omega)) ?_
            | refine OpJ.pure (OpP.cat rfl rfl (by omega)) ?_
            | refine OpJ.pure (OpP.add rfl rfl) ?_
            | refine OpJ.pure (OpP.compl_u32 rfl (by first | with_reducible assumption | assumption | decide | exact lt_b32 (by omega) | exact lt_b8 (by omega) | exact lt_b64 (by omega))) ?_
            | refine OpJ.pure (OpP.compl rfl) ?_)
          | refine OpsJ.nil ?_
          | refine CodeJ.cond_t rfl (by with_reducible assumption) ?_
          | refine CodeJ.cond_f rfl (by with_reducible assumption) ?_
          | refine CodeJ.cond_dt rfl (by omega) ?_
          | refine CodeJ.cond_df rfl (by omega) ?_
          | refine CodeJ.cond_t rfl rfl ?_
          | refine CodeJ.cond_f rfl rfl ?_)
        refine ⟨8 - (q + 1), _, _, _, by omega, ⟨q + 1, crc1 u1, by omega, rfl, ?_, rfl, rfl⟩, (by repeat (first | exact IM.le_refl _ | assumption | refine IM.le_trans ?_ (IM.le_or _ _))), (by repeat (first | exact SubE.nil _ | refine SubE.cons rfl ?_)), (by repeat (first | exact SubL.nil _ | refine SubL.p0 ?_ | refine SubL.p1 ?_ | refine SubL.p2 ?_ | refine SubL.p3 ?_ | refine SubL.p4 ?_ | refine SubL.p5 ?_ | refine SubL.p6 ?_ | refine SubL.p7 ?_))⟩
        rw [crcN_succ, hu1]
      · repeat (first
          | refine CodeJ.seq' ?_
          | refine CodeJ.region ?_
          | refine CodeJ.block ?_
          | refine CodeJ.skip ?_
          | refine CodeJ.exit rfl ?_
          | refine CodeJ.ret' ?_
          | (refine OpsJ.put (d := 22) rfl ?_; refine OpJ.conv_bytes rfl (by first | exact List.Perm.refl _ | exact List.Perm.swap _ _ _ | exact permm2 _ _ _ _ | exact permm3 _ _ _ _ _ | exact permm4 _ _ _ _ _ _ | exact permm5 _ _ _ _ _ _ _) (fun D22 hdis22 hrc22 => ?_))
          | (refine OpsJ.put (d := 22) rfl ?_; refine OpJ.conv_string_bytes rfl (fun A22 c22 D22 hdis22 hrc22 hcap22 => ?_))
          | (refine OpsJ.put rfl ?_; first
            | refine OpJ.pure (OpP.assign rfl) ?_
            | refine OpJ.pure (OpP.move rfl) ?_
            | refine OpJ.pure (OpP.len rfl) ?_
            | refine OpJ.pure (OpP.len_string rfl) ?_
            | refine OpJ.pure (OpP.lss rfl rfl) ?_
            | refine OpJ.pure (OpP.idx1 rfl rfl (by omega) (by omega) (Src.ofR (by with_reducible assumption)) (ne_get (by assumption))) ?_
            | refine OpJ.pure (OpP.idx1 rfl rfl (by omega) (by omega) (Src.ofRow (by repeat (first | exact List.Mem.head _ | apply List.Mem.tail))) (ne_get (by assumption))) ?_
            | refine OpJ.pure (OpP.load_blk (by exact rfl) rfl (by repeat (first | exact List.Mem.head _ | apply List.Mem.tail)) rfl) ?_
            | refine OpJ.pure (OpP.loadN_blk (by exact rfl) rfl (by repeat (first | exact List.Mem.head _ | apply List.Mem.tail)) (by exact rfl)) ?_
            | refine OpJ.pure (OpP.load1 (by exact rfl) rfl (Src.ofR (by with_reducible assumption)) rfl (by assumption)) ?_
            | refine OpJ.pure (OpP.load1 (by exact rfl) rfl (Src.ofRow (by repeat (first | exact List.Mem.head _ | apply List.Mem.tail))) rfl (by assumption)) ?_
            | refine OpJ.pure (OpP.conv_in rfl (by first | exact IntWalk.i64_in _ (by omega) | exact IntWalk.u8_in _ (by omega) | exact IntWalk.u32_in _ (by omega) | exact wrap_u64_in _ (by omega))) ?_
            | refine OpJ.pure (OpP.conv_int rfl) ?_
            | refine OpJ.pure (OpP.conv_string rfl) ?_
            | refine OpJ.pure (OpP.xor_nat rfl rfl rfl (by first | with_reducible assumption | assumption | decide | exact lt_b32 (by omega) | exact lt_b8 (by omega) | exact lt_b64 (by omega)) (by first | with_reducible assumption | assumption | decide | exact lt_b32 (by omega) | exact lt_b8 (by omega) | exact lt_b64 (by omega))) ?_
            | refine OpJ.pure (OpP.xor rfl rfl) ?_
            | refine OpJ.pure (OpP.shr_nat rfl rfl rfl) ?_
            | refine OpJ.pure (OpP.shr rfl rfl (by omega)) ?_
            | refine OpJ.pure (OpP.and_nat rfl rfl rfl (by first | with_reducible assumption | assumption | decide | exact lt_b32 (by omega) | exact lt_b8 (by omega) | exact lt_b64 (by omega)) (by first | with_reducible assumption | assumption | decide | exact lt_b32 (by omega) | exact lt_b8 (by omega) | exact lt_b64 (by omega))) ?_
            | refine OpJ.pure (OpP.and rfl rfl) ?_
            | refine OpJ.pure (OpP.neg rfl) ?_
            | refine OpJ.pure (OpP.add_in rfl rfl (by omega) (by omega)) ?_
            | refine OpJ.pure (OpP.cat rfl rfl (by omega)) ?_
            | refine OpJ.pure (OpP.add rfl rfl) ?_
            | refine OpJ.pure (OpP.compl_u32 rfl (by first | with_reducible assumption | assumption | decide | exact lt_b32 (by omega) | exact lt_b8 (by omega) | exact lt_b64 (by omega))) ?_
            | refine OpJ.pure (OpP.compl rfl) ?_)
          | refine OpsJ.nil ?_
          | refine CodeJ.cond_t rfl (by with_reducible assumption) ?_
          | refine CodeJ.cond_f rfl (by with_reducible assumption) ?_
          | refine CodeJ.cond_dt rfl (by omega) ?_
          | refine CodeJ.cond_df rfl (by omega) ?_
          | refine CodeJ.cond_t rfl rfl ?_
          | refine CodeJ.cond_f rfl rfl ?_)
        have hq8 : q = 8 := by omega
        refine ⟨row.length - (j + 1), _, _, _, by omega, ⟨j + 1, u1, by omega, rfl, ?_, rfl, rfl⟩, (by repeat (first | exact IM.le_refl _ | assumption | refine IM.le_trans ?_ (IM.le_or _ _))), (by repeat (first | exact SubE.nil _ | refine SubE.cons rfl ?_)), (by repeat (first | exact SubL.nil _ | refine SubL.p0 ?_ | refine SubL.p1 ?_ | refine SubL.p2 ?_ | refine SubL.p3 ?_ | refine SubL.p4 ?_ | refine SubL.p5 ?_ | refine SubL.p6 ?_ | refine SubL.p7 ?_))⟩
        rw [crcBytes_take_succ v row (by omega), hbb, hu1, hu, hq8]; rfl
    · repeat (first
        | refine CodeJ.seq' ?_
        | refine CodeJ.region ?_
        | refine CodeJ.block ?_
        | refine CodeJ.skip ?_
        | refine CodeJ.exit rfl ?_
        | refine CodeJ.ret' ?_
        | (refine OpsJ.put (d := 22) rfl ?_; refine OpJ.conv_bytes rfl (by first | exact List.Perm.refl _ | exact List.Perm.swap _ _ _ | exact permm2 _ _ _ _ | exact permm3 _ _ _ _ _ | exact permm4 _ _ _ _ _ _ | exact permm5 _ _ _ _ _ _ _) (fun D22 hdis22 hrc22 => ?_))
        | (refine OpsJ.put (d := 22) rfl ?_; refine OpJ.conv_string_bytes rfl (fun A22 c22 D22 hdis22 hrc22 hcap22 => ?_))
        | (refine OpsJ.put rfl ?_; first
          | refine OpJ.pure (OpP.assign rfl) ?_
          | refine OpJ.pure (OpP.move rfl) ?_
          | refine OpJ.pure (OpP.len rfl) ?_
          | refine OpJ.pure (OpP.len_string rfl) ?_
          | refine OpJ.pure (OpP.lss rfl rfl) ?_
          | refine OpJ.pure (OpP.idx1 rfl rfl (by omega) (by omega) (Src.ofR (by with_reducible assumption)) (ne_get (by assumption))) ?_
          | refine OpJ.pure (OpP.idx1 rfl rfl (by omega) (by omega) (Src.ofRow (by repeat (first | exact List.Mem.head _ | apply List.Mem.tail))) (ne_get (by assumption))) ?_
          | refine OpJ.pure (OpP.load_blk (by exact rfl) rfl (by repeat (first | exact List.Mem.head _ | apply List.Mem.tail)) rfl) ?_
          | refine OpJ.pure (OpP.loadN_blk (by exact rfl) rfl (by repeat (first | exact List.Mem.head _ | apply List.Mem.tail)) (by exact rfl)) ?_
          | refine OpJ.pure (OpP.load1 (by exact rfl) rfl (Src.ofR (by with_reducible assumption)) rfl (by assumption)) ?_
          | refine OpJ.pure (OpP.load1 (by exact rfl) rfl (Src.ofRow (by repeat (first | exact List.Mem.head _ | apply List.Mem.tail))) rfl (by assumption)) ?_
          | refine OpJ.pure (OpP.conv_in rfl (by first | exact IntWalk.i64_in _ (by omega) | exact IntWalk.u8_in _ (by omega) | exact IntWalk.u32_in _ (by omega) | exact wrap_u64_in _ (by omega))) ?_
          | refine OpJ.pure (OpP.conv_int rfl) ?_
          | refine OpJ.pure (OpP.conv_string rfl) ?_
          | refine OpJ.pure (OpP.xor_nat rfl rfl rfl (by first | with_reducible assumption | assumption | decide | exact lt_b32 (by omega) | exact lt_b8 (by omega) | exact lt_b64 (by omega)) (by first | with_reducible assumption | assumption | decide | exact lt_b32 (by omega) | exact lt_b8 (by omega) | exact lt_b64 (by omega))) ?_
          | refine OpJ.pure (OpP.xor rfl rfl) ?_
          | refine OpJ.pure (OpP.shr_nat rfl rfl rfl) ?_
          | refine OpJ.pure (OpP.shr rfl rfl (by omega)) ?_
          | refine OpJ.pure (OpP.and_nat rfl rfl rfl (by first | with_reducible assumption | assumption | decide | exact lt_b32 (by omega) | exact lt_b8 (by omega) | exact lt_b64 (by omega)) (by first | with_reducible assumption | assumption | decide | exact lt_b32 (by omega) | exact lt_b8 (by omega) | exact lt_b64 (by omega))) ?_
          | refine OpJ.pure (OpP.and rfl rfl) ?_
          | refine OpJ.pure (OpP.neg rfl) ?_
          | refine OpJ.pure (OpP.add_in rfl rfl (by omega) (by omega)) ?_
          | refine OpJ.pure (OpP.cat rfl rfl (by omega)) ?_
          | refine OpJ.pure (OpP.add rfl rfl) ?_
          | refine OpJ.pure (OpP.compl_u32 rfl (by first | with_reducible assumption | assumption | decide | exact lt_b32 (by omega) | exact lt_b8 (by omega) | exact lt_b64 (by omega))) ?_
          | refine OpJ.pure (OpP.compl rfl) ?_)
        | refine OpsJ.nil ?_
        | refine CodeJ.cond_t rfl (by with_reducible assumption) ?_
        | refine CodeJ.cond_f rfl (by with_reducible assumption) ?_
        | refine CodeJ.cond_dt rfl (by omega) ?_
        | refine CodeJ.cond_df rfl (by omega) ?_
        | refine CodeJ.cond_t rfl rfl ?_
        | refine CodeJ.cond_f rfl rfl ?_)
      have hj2 : j = row.length := by omega
      refine ⟨rows.length - (i + 1), _, _, _, by omega, ⟨i + 1, u, by omega, rfl, ?_, rfl, rfl⟩, (by repeat (first | exact IM.le_refl _ | assumption | refine IM.le_trans ?_ (IM.le_or _ _))), (by repeat (first | exact SubE.nil _ | refine SubE.cons rfl ?_)), (by repeat (first | exact SubL.nil _ | refine SubL.p0 ?_ | refine SubL.p1 ?_ | refine SubL.p2 ?_ | refine SubL.p3 ?_ | refine SubL.p4 ?_ | refine SubL.p5 ?_ | refine SubL.p6 ?_ | refine SubL.p7 ?_))⟩
      rw [hu, hj2, List.take_length, hv, ← crcBytes_append]
      rw [flatten_take_succ rows (by omega), hrow]
  · repeat (first
      | refine CodeJ.seq' ?_
      | refine CodeJ.region ?_
      | refine CodeJ.block ?_
      | refine CodeJ.skip ?_
      | refine CodeJ.exit rfl ?_
      | refine CodeJ.ret' ?_
      | (refine OpsJ.put (d := 22) rfl ?_; refine OpJ.conv_bytes rfl (by first | exact List.Perm.refl _ | exact List.Perm.swap _ _ _ | exact permm2 _ _ _ _ | exact permm3 _ _ _ _ _ | exact permm4 _ _ _ _ _ _ | exact permm5 _ _ _ _ _ _ _) (fun D22 hdis22 hrc22 => ?_))
      | (refine OpsJ.put (d := 22) rfl ?_; refine OpJ.conv_string_bytes rfl (fun A22 c22 D22 hdis22 hrc22 hcap22 => ?_))
      | (refine OpsJ.put rfl ?_; first
        | refine OpJ.pure (OpP.assign rfl) ?_
        | refine OpJ.pure (OpP.move rfl) ?_
        | refine OpJ.pure (OpP.len rfl) ?_
        | refine OpJ.pure (OpP.len_string rfl) ?_
        | refine OpJ.pure (OpP.lss rfl rfl) ?_
        | refine OpJ.pure (OpP.idx1 rfl rfl (by omega) (by omega) (Src.ofR (by with_reducible assumption)) (ne_get (by assumption))) ?_
        | refine OpJ.pure (OpP.idx1 rfl rfl (by omega) (by omega) (Src.ofRow (by repeat (first | exact List.Mem.head _ | apply List.Mem.tail))) (ne_get (by assumption))) ?_
        | refine OpJ.pure (OpP.load_blk (by exact rfl) rfl (by repeat (first | exact List.Mem.head _ | apply List.Mem.tail)) rfl) ?_
        | refine OpJ.pure (OpP.loadN_blk (by exact rfl) rfl (by repeat (first | exact List.Mem.head _ | apply List.Mem.tail)) (by exact rfl)) ?_
        | refine OpJ.pure (OpP.load1 (by exact rfl) rfl (Src.ofR (by with_reducible assumption)) rfl (by assumption)) ?_
        | refine OpJ.pure (OpP.load1 (by exact rfl) rfl (Src.ofRow (by repeat (first | exact List.Mem.head _ | apply List.Mem.tail))) rfl (by assumption)) ?_
        | refine OpJ.pure (OpP.conv_in rfl (by first | exact IntWalk.i64_in _ (by omega) | exact IntWalk.u8_in _ (by omega) | exact IntWalk.u32_in _ (by omega) | exact wrap_u64_in _ (by omega))) ?_
        | refine OpJ.pure (OpP.conv_int rfl) ?_
        | refine OpJ.pure (OpP.conv_string rfl) ?_
        | refine OpJ.pure (OpP.xor_nat rfl rfl rfl (by first | with_reducible assumption | assumption | decide | exact lt_b32 (by omega) | exact lt_b8 (by omega) | exact lt_b64 (by omega)) (by first | with_reducible assumption | assumption | decide | exact lt_b32 (by omega) | exact lt_b8 (by omega) | exact lt_b64 (by omega))) ?_
        | refine OpJ.pure (OpP.xor rfl rfl) ?_
        | refine OpJ.pure (OpP.shr_nat rfl rfl rfl) ?_
        | refine OpJ.pure (OpP.shr rfl rfl (by omega)) ?_
        | refine OpJ.pure (OpP.and_nat rfl rfl rfl (by first | with_reducible assumption | assumption | decide | exact lt_b32 (by omega) | exact lt_b8 (by omega) | exact lt_b64 (by omega)) (by first | with_reducible assumption | assumption | decide | exact lt_b32 (by omega) | exact lt_b8 (by omega) | exact lt_b64 (by omega))) ?_
        | refine OpJ.pure (OpP.and rfl rfl) ?_
        | refine OpJ.pure (OpP.neg rfl) ?_
        | refine OpJ.pure (OpP.add_in rfl rfl (by omega) (by omega)) ?_
        | refine OpJ.pure (OpP.cat rfl rfl (by omega)) ?_
        | refine OpJ.pure (OpP.add rfl rfl) ?_
        | refine OpJ.pure (OpP.compl_u32 rfl (by first | with_reducible assumption | assumption | decide | exact lt_b32 (by omega) | exact lt_b8 (by omega) | exact lt_b64 (by omega))) ?_
        | refine OpJ.pure (OpP.compl rfl) ?_)
      | refine OpsJ.nil ?_
      | refine CodeJ.cond_t rfl (by with_reducible assumption) ?_
      | refine CodeJ.cond_f rfl (by with_reducible assumption) ?_
      | refine CodeJ.cond_dt rfl (by omega) ?_
      | refine CodeJ.cond_df rfl (by omega) ?_
      | refine CodeJ.cond_t rfl rfl ?_
      | refine CodeJ.cond_f rfl rfl ?_)
    have hi2 : i = rows.length := by omega
    refine Ret.mk0 ⟨?_, rfl⟩ (ResJ.one Try.results28 rfl) (by repeat (first | exact IM.le_refl _ | assumption | refine IM.le_trans ?_ (IM.le_or _ _))) (by repeat (first | exact SubL.nil _ | refine SubL.p0 ?_ | refine SubL.p1 ?_ | refine SubL.p2 ?_ | refine SubL.p3 ?_ | refine SubL.p4 ?_ | refine SubL.p5 ?_ | refine SubL.p6 ?_ | refine SubL.p7 ?_))
    rw [hv, hi2, List.take_length]; rfl
end Go.Proofs.Ytdicpnnmhjgnbaa.FW
