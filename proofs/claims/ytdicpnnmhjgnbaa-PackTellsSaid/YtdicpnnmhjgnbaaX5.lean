/- Rules for strings, bytes, numbers of no sign; objects handed to calls; what is told of what a call freezes. -/
import Derived.Test.YtdicpnnmhjgnbaaX4
import Derived.Test.YtdicpnnmhjgnbaaP2
import Derived.Laws.MakeOwn
namespace Go.Proofs.Ytdicpnnmhjgnbaa.FW
open Go Go.RowKit
set_option linter.unusedVariables false
set_option linter.unusedSimpArgs false
section
variable {P : Program} {n : Nat} {W0 : World} {e : Env} {s : St} {R R' : IM} {hs hs' : List Chunk} {op : Op} {ty : TypeId} {v : Value} {K : Value → St → Prop}
variable {x y z : Operand} {t t' : TypeId} {k : IntKind} {i j : Int}
theorem OpP.to {v v' : Value} (h : OpP P n W0 op ty e s v) (hv : v = v') : OpP P n W0 op ty e s v' := hv ▸ h
theorem OpP.quo64 {q : Int} (h : quo? i j = some q) (hx : ev e x = some (.int .i64 i)) (hy : ev e y = some (.int .i64 j)) : OpP P n W0 (.binOp .quo t x y t') ty e s (.int .i64 q) := by
  unfold quo? at h
  split at h
  · cases h
  · rename_i hj
    obtain rfl := Option.some.inj h
    have := OpP.quo (P := P) (n := n) (W0 := W0) (s := s) (ty := ty) (t := t) (t' := t') hx hy hj
    rwa [w64_wrap] at this
theorem OpP.rem64 {q : Int} (h : rem? i j = some q) (hx : ev e x = some (.int .i64 i)) (hy : ev e y = some (.int .i64 j)) : OpP P n W0 (.binOp .rem t x y t') ty e s (.int .i64 q) := by
  unfold rem? at h
  split at h
  · cases h
  · rename_i hj
    obtain rfl := Option.some.inj h
    exact OpP.rem (P := P) (n := n) (W0 := W0) (s := s) (ty := ty) (t := t) (t' := t') hx hy hj
theorem wrap_bv (b : BitVec 64) : IntKind.i64.wrap ((b.toNat : Nat) : Int) = b.toInt := by
  rw [w64_wrap, BitVec.toInt_eq_toNat_bmod]
  unfold w64 Int.bmod
  have := b.isLt
  simp only [Nat.reducePow] at *
  omega
theorem OpP.iand (hx : ev e x = some (.int .i64 i)) (hy : ev e y = some (.int .i64 j)) : OpP P n W0 (.binOp .and t x y t') ty e s (.int .i64 (FW.iand i j)) :=
  (OpP.and hx hy).to (congrArg _ (wrap_bv _))
theorem OpP.ior (hx : ev e x = some (.int .i64 i)) (hy : ev e y = some (.int .i64 j)) : OpP P n W0 (.binOp .or t x y t') ty e s (.int .i64 (FW.ior i j)) :=
  (OpP.or hx hy).to (congrArg _ (wrap_bv _))
theorem OpP.ixor (hx : ev e x = some (.int .i64 i)) (hy : ev e y = some (.int .i64 j)) : OpP P n W0 (.binOp .xor t x y t') ty e s (.int .i64 (FW.ixor i j)) :=
  (OpP.xor hx hy).to (congrArg _ (wrap_bv _))
theorem OpP.ishl {yk : IntKind} {m : Nat} (hm : j = (m : Int)) (hx : ev e x = some (.int .i64 i)) (hy : ev e y = some (.int yk j)) : OpP P n W0 (.binOp .shl t x y t') ty e s (.int .i64 (FW.ishl i m)) := by
  subst hm
  have := OpP.shl (P := P) (n := n) (W0 := W0) (s := s) (ty := ty) (t := t) (t' := t') hx hy (by omega)
  rwa [w64_wrap] at this
theorem OpP.ishr {yk : IntKind} {m : Nat} (hm : j = (m : Int)) (hx : ev e x = some (.int .i64 i)) (hy : ev e y = some (.int yk j)) : OpP P n W0 (.binOp .shr t x y t') ty e s (.int .i64 (FW.ishr i m)) := by
  subst hm
  exact OpP.shr (P := P) (n := n) (W0 := W0) (s := s) (ty := ty) (t := t) (t' := t') hx hy (by omega)
theorem OpP.neg64' (hx : ev e x = some (.int .i64 i)) : OpP P n W0 (.unOp .neg t x) ty e s (.int .i64 (w64 (0 - i))) := by
  have := OpP.neg (P := P) (n := n) (W0 := W0) (s := s) (ty := ty) (t := t) hx
  rwa [w64_wrap] at this
theorem OpP.compl64 (hx : ev e x = some (.int .i64 i)) : OpP P n W0 (.unOp .xor t x) ty e s (.int .i64 (FW.ixor (-1) i)) :=
  (OpP.compl hx).to (congrArg _ (wrap_bv _))
theorem OpP.conv64' {src dst : TypeId} {d : TypeDesc} {k : IntKind} {sz bt sz' bt' : Nat} {zr zr' : List Value} [hs : Ty P src d sz bt zr] [hd : Ty P dst (.int .i64) sz' bt' zr'] (hx : ev e x = some (.int k i)) :
    OpP P n W0 (.convert src dst x) ty e s (.int .i64 (w64 i)) := by
  have := OpP.conv_int (P := P) (n := n) (W0 := W0) (s := s) (ty := ty) (src := src) (dst := dst) hx
  rwa [w64_wrap] at this
theorem wrap8 (m : Nat) : IntKind.u8.wrap (m : Int) = (((m % 256 : Nat)) : Int) := by
  simp [IntKind.wrap, IntKind.signed, IntKind.bits]
theorem un8 (m : Nat) : ((UInt8.ofNat m).toNat : Int) = ((m % 256 : Nat) : Int) := by rw [UInt8.toNat_ofNat']
theorem bv8 (a : UInt8) : BitVec.ofInt 8 (a.toNat : Int) = a.toBitVec := by
  apply BitVec.eq_of_toNat_eq
  have := a.toNat_lt
  simp
theorem OpP.addU8 {a b : UInt8} (hx : ev e x = some (.int .u8 (a.toNat : Int))) (hy : ev e y = some (.int .u8 (b.toNat : Int))) : OpP P n W0 (.binOp .add t x y t') ty e s (.int .u8 ((a + b).toNat : Int)) := by
  refine (OpP.add hx hy).to (congrArg _ ?_)
  rw [show ((a.toNat : Int) + (b.toNat : Int)) = ((a.toNat + b.toNat : Nat) : Int) by omega, wrap8, UInt8.toNat_add]
theorem OpP.subU8 {a b : UInt8} (hx : ev e x = some (.int .u8 (a.toNat : Int))) (hy : ev e y = some (.int .u8 (b.toNat : Int))) : OpP P n W0 (.binOp .sub t x y t') ty e s (.int .u8 ((a - b).toNat : Int)) := by
  refine (OpP.sub hx hy).to (congrArg _ ?_)
  have h1 := a.toNat_lt
  have h2 := b.toNat_lt
  rw [UInt8.toNat_sub]
  simp only [IntKind.wrap, IntKind.signed, IntKind.bits, Nat.reducePow] at *
  simp
  omega
theorem OpP.mulU8 {a b : UInt8} (hx : ev e x = some (.int .u8 (a.toNat : Int))) (hy : ev e y = some (.int .u8 (b.toNat : Int))) : OpP P n W0 (.binOp .mul t x y t') ty e s (.int .u8 ((a * b).toNat : Int)) := by
  refine (OpP.mul hx hy).to (congrArg _ ?_)
  rw [show ((a.toNat : Int) * (b.toNat : Int)) = ((a.toNat * b.toNat : Nat) : Int) by push_cast; rfl, wrap8, UInt8.toNat_mul]
theorem OpP.andU8 {a b : UInt8} (hx : ev e x = some (.int .u8 (a.toNat : Int))) (hy : ev e y = some (.int .u8 (b.toNat : Int))) : OpP P n W0 (.binOp .and t x y t') ty e s (.int .u8 ((a &&& b).toNat : Int)) :=
  (OpP.and_nat hx hy rfl a.toNat_lt b.toNat_lt).to (by rw [UInt8.toNat_and])
theorem OpP.orU8 {a b : UInt8} (hx : ev e x = some (.int .u8 (a.toNat : Int))) (hy : ev e y = some (.int .u8 (b.toNat : Int))) : OpP P n W0 (.binOp .or t x y t') ty e s (.int .u8 ((a ||| b).toNat : Int)) :=
  (OpP.or_nat hx hy rfl a.toNat_lt b.toNat_lt).to (by rw [UInt8.toNat_or])
theorem OpP.xorU8 {a b : UInt8} (hx : ev e x = some (.int .u8 (a.toNat : Int))) (hy : ev e y = some (.int .u8 (b.toNat : Int))) : OpP P n W0 (.binOp .xor t x y t') ty e s (.int .u8 ((a ^^^ b).toNat : Int)) :=
  (OpP.xor_nat hx hy rfl a.toNat_lt b.toNat_lt).to (by rw [UInt8.toNat_xor])
theorem OpP.shlU8 {a : UInt8} {yk : IntKind} {m : Nat} (hm : j = (m : Int)) (hx : ev e x = some (.int .u8 (a.toNat : Int))) (hy : ev e y = some (.int yk j)) : OpP P n W0 (.binOp .shl t x y t') ty e s (.int .u8 ((FW.shl8 a m).toNat : Int)) := by
  subst hm
  refine (OpP.shl hx hy (by omega)).to (congrArg _ ?_)
  rw [Int.toNat_natCast, show ((a.toNat : Int) * 2 ^ (Nat.min m IntKind.u8.bits)) = ((a.toNat * 2 ^ (Nat.min m IntKind.u8.bits) : Nat) : Int) by push_cast; rfl, wrap8]
  unfold FW.shl8
  rw [un8, Nat.mod_mod]; rfl
theorem OpP.shrU8 {a : UInt8} {yk : IntKind} {m : Nat} (hm : j = (m : Int)) (hx : ev e x = some (.int .u8 (a.toNat : Int))) (hy : ev e y = some (.int yk j)) : OpP P n W0 (.binOp .shr t x y t') ty e s (.int .u8 ((FW.shr8 a m).toNat : Int)) := by
  subst hm
  refine (OpP.shr hx hy (by omega)).to (congrArg _ ?_)
  rw [Int.toNat_natCast, Int.fdiv_eq_ediv_of_nonneg _ (by exact Int.le_of_lt (Int.pow_pos (by decide))), show ((a.toNat : Int) / 2 ^ (Nat.min m IntKind.u8.bits)) = ((a.toNat / 2 ^ (Nat.min m IntKind.u8.bits) : Nat) : Int) by push_cast; rfl]
  unfold FW.shr8
  rw [un8, Nat.mod_eq_of_lt (Nat.lt_of_le_of_lt (Nat.div_le_self _ _) a.toNat_lt)]; rfl
theorem OpP.negU8 {a : UInt8} (hx : ev e x = some (.int .u8 (a.toNat : Int))) : OpP P n W0 (.unOp .neg t x) ty e s (.int .u8 ((0 - a).toNat : Int)) := by
  refine (OpP.neg hx).to (congrArg _ ?_)
  have h1 := a.toNat_lt
  rw [UInt8.toNat_sub]
  simp only [IntKind.wrap, IntKind.signed, IntKind.bits, Nat.reducePow] at *
  simp
  omega
theorem OpP.complU8 {a : UInt8} (hx : ev e x = some (.int .u8 (a.toNat : Int))) : OpP P n W0 (.unOp .xor t x) ty e s (.int .u8 ((~~~ a).toNat : Int)) := by
  refine (OpP.compl hx).to (congrArg _ ?_)
  show IntKind.u8.wrap (((BitVec.ofInt 8 (256 - 1) ^^^ BitVec.ofInt 8 (a.toNat : Int)).toNat : Nat) : Int) = ((~~~ a).toNat : Int)
  rw [bv8, show BitVec.ofInt 8 (256 - 1) = BitVec.allOnes 8 by rfl, BitVec.allOnes_xor, wrap8, Nat.mod_eq_of_lt (~~~ a.toBitVec).isLt]; rfl
theorem OpP.toU8 {src dst : TypeId} {d : TypeDesc} {k : IntKind} {sz bt sz' bt' : Nat} {zr zr' : List Value} [hs : Ty P src d sz bt zr] [hd : Ty P dst (.int .u8) sz' bt' zr'] (hx : ev e x = some (.int k i)) :
    OpP P n W0 (.convert src dst x) ty e s (.int .u8 ((ofI8 i).toNat : Int)) := by
  refine (OpP.conv_int hx).to (congrArg _ ?_)
  unfold ofI8
  rw [un8]
  simp only [IntKind.wrap, IntKind.signed, IntKind.bits, Nat.reducePow]
  simp
  omega
theorem wrap32 (m : Nat) : IntKind.u32.wrap (m : Int) = (((m % 4294967296 : Nat)) : Int) := by
  simp [IntKind.wrap, IntKind.signed, IntKind.bits]
theorem un32 (m : Nat) : ((UInt32.ofNat m).toNat : Int) = ((m % 4294967296 : Nat) : Int) := by rw [UInt32.toNat_ofNat']
theorem bv32 (a : UInt32) : BitVec.ofInt 32 (a.toNat : Int) = a.toBitVec := by
  apply BitVec.eq_of_toNat_eq
  have := a.toNat_lt
  simp
theorem OpP.addU32 {a b : UInt32} (hx : ev e x = some (.int .u32 (a.toNat : Int))) (hy : ev e y = some (.int .u32 (b.toNat : Int))) : OpP P n W0 (.binOp .add t x y t') ty e s (.int .u32 ((a + b).toNat : Int)) := by
  refine (OpP.add hx hy).to (congrArg _ ?_)
  rw [show ((a.toNat : Int) + (b.toNat : Int)) = ((a.toNat + b.toNat : Nat) : Int) by omega, wrap32, UInt32.toNat_add]
theorem OpP.subU32 {a b : UInt32} (hx : ev e x = some (.int .u32 (a.toNat : Int))) (hy : ev e y = some (.int .u32 (b.toNat : Int))) : OpP P n W0 (.binOp .sub t x y t') ty e s (.int .u32 ((a - b).toNat : Int)) := by
  refine (OpP.sub hx hy).to (congrArg _ ?_)
  have h1 := a.toNat_lt
  have h2 := b.toNat_lt
  rw [UInt32.toNat_sub]
  simp only [IntKind.wrap, IntKind.signed, IntKind.bits, Nat.reducePow] at *
  simp
  omega
theorem OpP.mulU32 {a b : UInt32} (hx : ev e x = some (.int .u32 (a.toNat : Int))) (hy : ev e y = some (.int .u32 (b.toNat : Int))) : OpP P n W0 (.binOp .mul t x y t') ty e s (.int .u32 ((a * b).toNat : Int)) := by
  refine (OpP.mul hx hy).to (congrArg _ ?_)
  rw [show ((a.toNat : Int) * (b.toNat : Int)) = ((a.toNat * b.toNat : Nat) : Int) by push_cast; rfl, wrap32, UInt32.toNat_mul]
theorem OpP.andU32 {a b : UInt32} (hx : ev e x = some (.int .u32 (a.toNat : Int))) (hy : ev e y = some (.int .u32 (b.toNat : Int))) : OpP P n W0 (.binOp .and t x y t') ty e s (.int .u32 ((a &&& b).toNat : Int)) :=
  (OpP.and_nat hx hy rfl a.toNat_lt b.toNat_lt).to (by rw [UInt32.toNat_and])
theorem OpP.orU32 {a b : UInt32} (hx : ev e x = some (.int .u32 (a.toNat : Int))) (hy : ev e y = some (.int .u32 (b.toNat : Int))) : OpP P n W0 (.binOp .or t x y t') ty e s (.int .u32 ((a ||| b).toNat : Int)) :=
  (OpP.or_nat hx hy rfl a.toNat_lt b.toNat_lt).to (by rw [UInt32.toNat_or])
theorem OpP.xorU32 {a b : UInt32} (hx : ev e x = some (.int .u32 (a.toNat : Int))) (hy : ev e y = some (.int .u32 (b.toNat : Int))) : OpP P n W0 (.binOp .xor t x y t') ty e s (.int .u32 ((a ^^^ b).toNat : Int)) :=
  (OpP.xor_nat hx hy rfl a.toNat_lt b.toNat_lt).to (by rw [UInt32.toNat_xor])
theorem OpP.shlU32 {a : UInt32} {yk : IntKind} {m : Nat} (hm : j = (m : Int)) (hx : ev e x = some (.int .u32 (a.toNat : Int))) (hy : ev e y = some (.int yk j)) : OpP P n W0 (.binOp .shl t x y t') ty e s (.int .u32 ((FW.shl32 a m).toNat : Int)) := by
  subst hm
  refine (OpP.shl hx hy (by omega)).to (congrArg _ ?_)
  rw [Int.toNat_natCast, show ((a.toNat : Int) * 2 ^ (Nat.min m IntKind.u32.bits)) = ((a.toNat * 2 ^ (Nat.min m IntKind.u32.bits) : Nat) : Int) by push_cast; rfl, wrap32]
  unfold FW.shl32
  rw [un32, Nat.mod_mod]; rfl
theorem OpP.shrU32 {a : UInt32} {yk : IntKind} {m : Nat} (hm : j = (m : Int)) (hx : ev e x = some (.int .u32 (a.toNat : Int))) (hy : ev e y = some (.int yk j)) : OpP P n W0 (.binOp .shr t x y t') ty e s (.int .u32 ((FW.shr32 a m).toNat : Int)) := by
  subst hm
  refine (OpP.shr hx hy (by omega)).to (congrArg _ ?_)
  rw [Int.toNat_natCast, Int.fdiv_eq_ediv_of_nonneg _ (by exact Int.le_of_lt (Int.pow_pos (by decide))), show ((a.toNat : Int) / 2 ^ (Nat.min m IntKind.u32.bits)) = ((a.toNat / 2 ^ (Nat.min m IntKind.u32.bits) : Nat) : Int) by push_cast; rfl]
  unfold FW.shr32
  rw [un32, Nat.mod_eq_of_lt (Nat.lt_of_le_of_lt (Nat.div_le_self _ _) a.toNat_lt)]; rfl
theorem OpP.negU32 {a : UInt32} (hx : ev e x = some (.int .u32 (a.toNat : Int))) : OpP P n W0 (.unOp .neg t x) ty e s (.int .u32 ((0 - a).toNat : Int)) := by
  refine (OpP.neg hx).to (congrArg _ ?_)
  have h1 := a.toNat_lt
  rw [UInt32.toNat_sub]
  simp only [IntKind.wrap, IntKind.signed, IntKind.bits, Nat.reducePow] at *
  simp
  omega
theorem OpP.complU32 {a : UInt32} (hx : ev e x = some (.int .u32 (a.toNat : Int))) : OpP P n W0 (.unOp .xor t x) ty e s (.int .u32 ((~~~ a).toNat : Int)) := by
  refine (OpP.compl hx).to (congrArg _ ?_)
  show IntKind.u32.wrap (((BitVec.ofInt 32 (4294967296 - 1) ^^^ BitVec.ofInt 32 (a.toNat : Int)).toNat : Nat) : Int) = ((~~~ a).toNat : Int)
  rw [bv32, show BitVec.ofInt 32 (4294967296 - 1) = BitVec.allOnes 32 by rfl, BitVec.allOnes_xor, wrap32, Nat.mod_eq_of_lt (~~~ a.toBitVec).isLt]; rfl
theorem OpP.toU32 {src dst : TypeId} {d : TypeDesc} {k : IntKind} {sz bt sz' bt' : Nat} {zr zr' : List Value} [hs : Ty P src d sz bt zr] [hd : Ty P dst (.int .u32) sz' bt' zr'] (hx : ev e x = some (.int k i)) :
    OpP P n W0 (.convert src dst x) ty e s (.int .u32 ((ofI32 i).toNat : Int)) := by
  refine (OpP.conv_int hx).to (congrArg _ ?_)
  unfold ofI32
  rw [un32]
  simp only [IntKind.wrap, IntKind.signed, IntKind.bits, Nat.reducePow]
  simp
  omega
theorem wrap64 (m : Nat) : IntKind.u64.wrap (m : Int) = (((m % 18446744073709551616 : Nat)) : Int) := by
  simp [IntKind.wrap, IntKind.signed, IntKind.bits]
theorem un64 (m : Nat) : ((UInt64.ofNat m).toNat : Int) = ((m % 18446744073709551616 : Nat) : Int) := by rw [UInt64.toNat_ofNat']
theorem bv64 (a : UInt64) : BitVec.ofInt 64 (a.toNat : Int) = a.toBitVec := by
  apply BitVec.eq_of_toNat_eq
  have := a.toNat_lt
  simp
theorem OpP.addU64 {a b : UInt64} (hx : ev e x = some (.int .u64 (a.toNat : Int))) (hy : ev e y = some (.int .u64 (b.toNat : Int))) : OpP P n W0 (.binOp .add t x y t') ty e s (.int .u64 ((a + b).toNat : Int)) := by
  refine (OpP.add hx hy).to (congrArg _ ?_)
  rw [show ((a.toNat : Int) + (b.toNat : Int)) = ((a.toNat + b.toNat : Nat) : Int) by omega, wrap64, UInt64.toNat_add]
theorem OpP.subU64 {a b : UInt64} (hx : ev e x = some (.int .u64 (a.toNat : Int))) (hy : ev e y = some (.int .u64 (b.toNat : Int))) : OpP P n W0 (.binOp .sub t x y t') ty e s (.int .u64 ((a - b).toNat : Int)) := by
  refine (OpP.sub hx hy).to (congrArg _ ?_)
  have h1 := a.toNat_lt
  have h2 := b.toNat_lt
  rw [UInt64.toNat_sub]
  simp only [IntKind.wrap, IntKind.signed, IntKind.bits, Nat.reducePow] at *
  simp
  omega
theorem OpP.mulU64 {a b : UInt64} (hx : ev e x = some (.int .u64 (a.toNat : Int))) (hy : ev e y = some (.int .u64 (b.toNat : Int))) : OpP P n W0 (.binOp .mul t x y t') ty e s (.int .u64 ((a * b).toNat : Int)) := by
  refine (OpP.mul hx hy).to (congrArg _ ?_)
  rw [show ((a.toNat : Int) * (b.toNat : Int)) = ((a.toNat * b.toNat : Nat) : Int) by push_cast; rfl, wrap64, UInt64.toNat_mul]
theorem OpP.andU64 {a b : UInt64} (hx : ev e x = some (.int .u64 (a.toNat : Int))) (hy : ev e y = some (.int .u64 (b.toNat : Int))) : OpP P n W0 (.binOp .and t x y t') ty e s (.int .u64 ((a &&& b).toNat : Int)) :=
  (OpP.and_nat hx hy rfl a.toNat_lt b.toNat_lt).to (by rw [UInt64.toNat_and])
theorem OpP.orU64 {a b : UInt64} (hx : ev e x = some (.int .u64 (a.toNat : Int))) (hy : ev e y = some (.int .u64 (b.toNat : Int))) : OpP P n W0 (.binOp .or t x y t') ty e s (.int .u64 ((a ||| b).toNat : Int)) :=
  (OpP.or_nat hx hy rfl a.toNat_lt b.toNat_lt).to (by rw [UInt64.toNat_or])
theorem OpP.xorU64 {a b : UInt64} (hx : ev e x = some (.int .u64 (a.toNat : Int))) (hy : ev e y = some (.int .u64 (b.toNat : Int))) : OpP P n W0 (.binOp .xor t x y t') ty e s (.int .u64 ((a ^^^ b).toNat : Int)) :=
  (OpP.xor_nat hx hy rfl a.toNat_lt b.toNat_lt).to (by rw [UInt64.toNat_xor])
theorem OpP.shlU64 {a : UInt64} {yk : IntKind} {m : Nat} (hm : j = (m : Int)) (hx : ev e x = some (.int .u64 (a.toNat : Int))) (hy : ev e y = some (.int yk j)) : OpP P n W0 (.binOp .shl t x y t') ty e s (.int .u64 ((FW.shl64 a m).toNat : Int)) := by
  subst hm
  refine (OpP.shl hx hy (by omega)).to (congrArg _ ?_)
  rw [Int.toNat_natCast, show ((a.toNat : Int) * 2 ^ (Nat.min m IntKind.u64.bits)) = ((a.toNat * 2 ^ (Nat.min m IntKind.u64.bits) : Nat) : Int) by push_cast; rfl, wrap64]
  unfold FW.shl64
  rw [un64, Nat.mod_mod]; rfl
theorem OpP.shrU64 {a : UInt64} {yk : IntKind} {m : Nat} (hm : j = (m : Int)) (hx : ev e x = some (.int .u64 (a.toNat : Int))) (hy : ev e y = some (.int yk j)) : OpP P n W0 (.binOp .shr t x y t') ty e s (.int .u64 ((FW.shr64 a m).toNat : Int)) := by
  subst hm
  refine (OpP.shr hx hy (by omega)).to (congrArg _ ?_)
  rw [Int.toNat_natCast, Int.fdiv_eq_ediv_of_nonneg _ (by exact Int.le_of_lt (Int.pow_pos (by decide))), show ((a.toNat : Int) / 2 ^ (Nat.min m IntKind.u64.bits)) = ((a.toNat / 2 ^ (Nat.min m IntKind.u64.bits) : Nat) : Int) by push_cast; rfl]
  unfold FW.shr64
  rw [un64, Nat.mod_eq_of_lt (Nat.lt_of_le_of_lt (Nat.div_le_self _ _) a.toNat_lt)]; rfl
theorem OpP.negU64 {a : UInt64} (hx : ev e x = some (.int .u64 (a.toNat : Int))) : OpP P n W0 (.unOp .neg t x) ty e s (.int .u64 ((0 - a).toNat : Int)) := by
  refine (OpP.neg hx).to (congrArg _ ?_)
  have h1 := a.toNat_lt
  rw [UInt64.toNat_sub]
  simp only [IntKind.wrap, IntKind.signed, IntKind.bits, Nat.reducePow] at *
  simp
  omega
theorem OpP.complU64 {a : UInt64} (hx : ev e x = some (.int .u64 (a.toNat : Int))) : OpP P n W0 (.unOp .xor t x) ty e s (.int .u64 ((~~~ a).toNat : Int)) := by
  refine (OpP.compl hx).to (congrArg _ ?_)
  show IntKind.u64.wrap (((BitVec.ofInt 64 (18446744073709551616 - 1) ^^^ BitVec.ofInt 64 (a.toNat : Int)).toNat : Nat) : Int) = ((~~~ a).toNat : Int)
  rw [bv64, show BitVec.ofInt 64 (18446744073709551616 - 1) = BitVec.allOnes 64 by rfl, BitVec.allOnes_xor, wrap64, Nat.mod_eq_of_lt (~~~ a.toBitVec).isLt]; rfl
theorem OpP.toU64 {src dst : TypeId} {d : TypeDesc} {k : IntKind} {sz bt sz' bt' : Nat} {zr zr' : List Value} [hs : Ty P src d sz bt zr] [hd : Ty P dst (.int .u64) sz' bt' zr'] (hx : ev e x = some (.int k i)) :
    OpP P n W0 (.convert src dst x) ty e s (.int .u64 ((ofI64 i).toNat : Int)) := by
  refine (OpP.conv_int hx).to (congrArg _ ?_)
  unfold ofI64
  rw [un64]
  simp only [IntKind.wrap, IntKind.signed, IntKind.bits, Nat.reducePow]
  simp
  omega
theorem rep_repl {α : Type} [Dat α] {u : Value} {z : α} (h : Dat.rep IM.nil [u] z) : ∀ m : Nat, repL IM.nil (List.replicate m u) (List.replicate m z)
  | 0 => rfl
  | m + 1 => ⟨[u], List.replicate m u, by rw [List.replicate_succ]; rfl, h, rep_repl h m⟩
/-- A new slice, of elements of one cell. -/
theorem OpJ.makeS {α : Type} [Dat α] {d : TypeDesc} {u : TypeId} {sz bt bytes : Nat} {zr : List Value} {zv : Value} [ht : Ty P t (.slice u) sz bt zr] [hu : Ty P u d 1 bytes [zv]] {q : List α} {z0 : α}
    (h : mk? bytes i z0 = some q) (hx : ev e x = some (.int .i64 i)) (hy : ev e y = some (.int .i64 i)) (hz : Dat.rep IM.nil [zv] z0) (hb : Nat.blt 0 bytes = true)
    (hk : ∀ A c cs, repL IM.nil cs q → K (.slice A q.length c) ⟨R, .row u 1 A q.length c cs :: hs⟩) : OpJ P n W0 (.makeSlice t x y) ty e ⟨R, hs⟩ K := by
  obtain ⟨h0, h1, rfl⟩ := mk?_ok h
  intro o ho hty a w ha hw next Q hn
  obtain ⟨i', zv', hi1, hi2, hi3, hi4, hi5⟩ := hu.info
  have hb' : 0 < bytes := by simpa using hb
  have h2 : i ≤ 140737488355328 := by
    have : i * 1 ≤ i * bytes := Int.mul_le_mul_of_nonneg_left (by omega) h0
    omega
  have hrun := run_make (P := P) w t u i' zv' ht.und hi1 hi4 .i64 .i64 i i h0 (Int.le_refl _) (by rw [hi3, Int.mul_comm]; omega) (by omega)
  have hcells : (madeCells zv'.cells (i.toNat * i'.size)).toList = List.replicate i.toNat zv := by
    rw [hi2, Nat.mul_one, hi5]
    refine List.ext_getElem (by simp [size_madeCells]) fun j h3 h4 => ?_
    simp [madeCells, Nat.mod_one]
  unfold Oper.wp
  have h3 : (execOp a.eval o).run P w = .ok (.value (.slice (some ⟨w.heap.size, 0, none⟩) i.toNat i.toNat)) (w.alloc (.cells (madeCells zv'.cells (i.toNat * i'.size)) u)) := by
    simp [execOp, ho, ha.ev hx, ha.ev hy, hrun]
  rw [h3]
  have hlen : (List.replicate i.toNat z0).length = i.toNat := List.length_replicate
  refine hn _ _ _ (hw.alloc (c := .row u 1 (some ⟨w.heap.size, 0, none⟩) i.toNat i.toNat (madeCells zv'.cells (i.toNat * i'.size)).toList) rfl ?_) (by rw [hcells]; have := hk (some ⟨w.heap.size, 0, none⟩) i.toNat _ (rep_repl hz i.toNat); rwa [hlen] at this)
  refine ⟨by rw [Array.length_toList, size_madeCells, hi2], .inr ⟨w.heap.size, _, _, rfl, Nat.zero_le _, heap_alloc_new w _, Nat.le_refl _, by unfold maxLen; omega, ?_, ?_⟩⟩
  · rw [size_madeCells, hi2]
  · rw [List.take_of_length_le (by rw [Array.length_toList, size_madeCells, hi2]; exact Nat.le_refl _)]
/-! ### Arrays, fields of elements -/
theorem OpP.buildA {m : Nat} {u : TypeId} {d : TypeDesc} {sz bt size bt2 : Nat} {zr zr2 cs : List Value} [ht : Ty P t (.array m u) sz bt zr] [hu : Ty P u d size bt2 zr2] {ps : List (Nat × Operand)} {vs : List (Nat × Value)} (hps : evs e ps = some vs)
    (hok : fillOk (fun i => some (i * size, size)) zr.length vs = true) (hcs : fillL (fun i => some (i * size, size)) zr vs = cs) : OpP P n W0 (.build t ps.toArray) ty e s (.agg cs.toArray) := by
  subst hcs
  intro o ho hty a w ha hw
  obtain ⟨i, z, h1, _, _, h2, h3⟩ := ht.info
  have h4 := ha.evs hps
  have h6 := fill_eq vs zr hok
  have h5 := hu.size_run w
  simp [execOp, ho, Instr.build, zeroValue, typeInfo, h1, h2, run_underlying ht.und, h3, h5, h4, h6]
theorem OpP.ixA {m o i0 : Nat} {u : TypeId} {d : TypeDesc} {sz bt size bt2 : Nat} {zr zr2 : List Value} {ad : Addr} [ht : Ty P t (.array m u) sz bt zr] [hu : Ty P u d size bt2 zr2] (hi : j = (i0 : Int)) (ho : i0 * size = o) (h1 : i0 < m) (h2 : 1 < m) (hx : ev e x = some (.pointer (some ad)))
    (hy : ev e y = some (.int k j) := by rfl) : OpP P n W0 (.indexAddr t x y) ty e s (.pointer (some (ad.add o))) := by
  subst hi ho
  intro op hop hty a w ha hw
  have h5 := hu.size_run w
  have h6 : (i0 : Int) < (m : Int) := by omega
  simp [execOp, hop, ha.ev hx, ha.ev hy, Instr.indexAt, asIntOf, run_underlying ht.und, Instr.sureAddr, h5, h1]
theorem repL_setF {α : Type} [Dat α] {enc : α → List Value} [hf : Flat α enc] {R : IM} {x0 x1 : α} {c1 mid us c2 : List Value} (he : enc x0 = c1 ++ (mid ++ c2)) (hm : mid.length = us.length) (he1 : enc x1 = c1 ++ (us ++ c2)) :
    ∀ {l : List α} {es : List Value} {i : Nat}, repL R es l → l[i]? = some x0 → repL R (lsplice es (i * Dat.size α + c1.length) us) (l.set i x1)
  | [], es, i, h, hi => by simp at hi
  | y :: l, es, 0, ⟨e1, e2, h0, h1, h2⟩, hi => by
    have hy : y = x0 := by simpa using hi
    subst hy
    rw [hf.is.1 h1, he] at h0
    refine ⟨c1 ++ (us ++ c2), e2, ?_, hf.is.2 he1.symm, h2⟩
    subst h0
    unfold lsplice
    rw [Nat.zero_mul, Nat.zero_add, show c1 ++ (mid ++ c2) ++ e2 = c1 ++ (mid ++ (c2 ++ e2)) by simp only [List.append_assoc], List.take_left, ← hm, List.drop_length_add_append, List.drop_left]
    simp only [List.append_assoc]
  | y :: l, es, i + 1, ⟨e1, e2, h0, h1, h2⟩, hi => by
    have ih := repL_setF he hm he1 h2 (by simpa using hi)
    have hl := Dat.len h1
    refine ⟨e1, lsplice e2 (i * Dat.size α + c1.length) us, ?_, h1, ih⟩
    subst h0
    unfold lsplice
    rw [show (i + 1) * Dat.size α + c1.length = e1.length + (i * Dat.size α + c1.length) by rw [hl, Nat.succ_mul]; omega, List.take_length_add_append, show e1.length + (i * Dat.size α + c1.length) + us.length = e1.length + (i * Dat.size α + c1.length + us.length) by omega, List.drop_length_add_append]
    simp
theorem setF_rep {α : Type} [Dat α] {enc : α → List Value} [hf : Flat α enc] {l l' : List α} {x0 x1 : α} {c1 mid us c2 cur : List Value} (ha : set? l i x1 = some l') (hat : at? l i = some x0) (he : enc x0 = c1 ++ (mid ++ c2)) (hm : mid.length = us.length) (he1 : enc x1 = c1 ++ (us ++ c2))
    (hl : repL IM.nil cur l) {o : Nat} (ho : c1.length = o := by rfl) : repL IM.nil (lsplice cur (i.toNat * Dat.size α + o) us) l' := by
  obtain ⟨_, _, rfl⟩ := set?_ok ha
  subst ho
  exact repL_setF he hm he1 hl (at?_ok hat).2.2
/-- A field of an element of an own row is written. -/
theorem OpJ.stWf {α : Type} [Dat α] {enc : α → List Value} [hf : Flat α enc] {d : TypeDesc} {sz bt : Nat} {zr : List Value} [ht : Ty P t d sz bt zr] {A : Option Addr} {m c size o : Nat} {t' : TypeId} {l l' : List α} {x0 x1 : α} {c1 mid us c2 cur : List Value} {u : Value}
    (ha : set? l i x1 = some l') (hat : at? l i = some x0) (he : enc x0 = c1 ++ (mid ++ c2)) (hm : mid.length = us.length) (he1 : enc x1 = c1 ++ (us ++ c2)) (hl : repL IM.nil cur l) (hus : us.length = sz) (hu : u.cells = us.toArray)
    (hp : hs.Perm (.row t' size A m c cur :: hs')) (hx : ev e x = some (.pointer (some (((adr A).add (i.toNat * Dat.size α)).add o)))) (hy : ev e y = some u) (ho : c1.length = o)
    (hk : K undef ⟨R, .row t' size A m c (lsplice cur (i.toNat * Dat.size α + o) us) :: hs'⟩) (h1 : us.all (·.oneCell') = true := by rfl) (h0 : Nat.blt 0 us.length = true := by rfl) : OpJ P n W0 (.store t x y) ty e ⟨R, hs⟩ K := by
  obtain ⟨k1, k2, _⟩ := set?_ok ha
  have h3 := repL_len hl
  have h5 : (enc x0).length = Dat.size α := Dat.len (R := IM.nil) (hf.is.2 rfl)
  rw [he] at h5
  simp only [List.length_append] at h5
  have h0' : 0 < us.length := by simpa using h0
  have h6 : i.toNat + 1 ≤ l.length := by omega
  have h7 : (i.toNat + 1) * Dat.size α ≤ l.length * Dat.size α := Nat.mul_le_mul_right _ h6
  rw [Nat.succ_mul] at h7
  refine OpJ.store_row hx hy hu hp (add_add _ _ _) (fun e => ?_) hus (by rw [h3]; omega) h1 hk
  rw [e] at h3; simp at h3; omega
/-! ### Strings -/
theorem OpP.ixS {q : UInt8} {b : ByteArray} {sz bt : Nat} {zr : List Value} [ht : Ty P t .string sz bt zr] (h : bat? b i = some q) (hx : ev e x = some (.string b)) (hy : ev e y = some (.int k i)) : OpP P n W0 (.index t x y) ty e s (.int .u8 (q.toNat : Int)) := by
  obtain ⟨h1, h2, rfl⟩ := bat?_ok h
  have := OpP.index_string (P := P) (n := n) (W0 := W0) (s := s) (ty := ty) (t := t) hx hy h1 h2
  rwa [ByteArray.toList_eq] at this
theorem bytes_cells {R : IM} : ∀ {l : List UInt8} {cs : List Value}, repL R cs l → cs = bcells l
  | [], cs, h => h
  | x :: l, cs, ⟨c1, c2, h0, h1, h2⟩ => by
    have e1 : c1 = [.int .u8 (x.toNat : Int)] := h1
    rw [h0, e1, bytes_cells h2]; rfl
theorem OpP.strR {src dst u : TypeId} {sz bt sz' bt' sz2 bt2 : Nat} {zr zr' zr2 : List Value} [hs1 : Ty P src (.slice u) sz bt zr] [hu : Ty P u (.int .u8) sz' bt' zr'] [hd : Ty P dst .string sz2 bt2 zr2] {A : Option Addr} {m c : Nat} {l : List UInt8}
    (hA : SlR R' A l) (hr : IM.le R' R) (hn : l.length = m) (hx : ev e x = some (.slice A m c)) : OpP P n W0 (.convert src dst x) ty e ⟨R, hs⟩ (.string (strOf l)) := by
  obtain ⟨es, h1, h2⟩ := SlR.out hA
  rw [bytes_cells h2] at h1
  exact OpP.conv_bytes_string hx (Src.ofR (h1.mono hr)) hn
theorem OpP.strW {src dst u : TypeId} {sz bt sz' bt' sz2 bt2 size c0 : Nat} {zr zr' zr2 cs : List Value} [hs1 : Ty P src (.slice u) sz bt zr] [hu : Ty P u (.int .u8) sz' bt' zr'] [hd : Ty P dst .string sz2 bt2 zr2] {A : Option Addr} {m c : Nat} {l : List UInt8} {t0 : TypeId}
    (hm : .row t0 size A m c0 cs ∈ hs) (hl : repL R' cs l) (hn : l.length = m) (hx : ev e x = some (.slice A m c)) : OpP P n W0 (.convert src dst x) ty e ⟨R, hs⟩ (.string (strOf l)) := by
  have h1 := bytes_cells hl
  subst h1
  exact OpP.conv_bytes_string hx (Src.ofRow hm) hn
theorem bytes_rep {R : IM} : ∀ l : List UInt8, repL R (bcells l) l
  | [] => rfl
  | x :: l => ⟨[.int .u8 (x.toNat : Int)], bcells l, rfl, rfl, bytes_rep l⟩
theorem OpJ.bytesS {src dst u : TypeId} {sz bt sz' bt' sz2 bt2 : Nat} {zr zr' zr2 : List Value} [hs1 : Ty P src .string sz bt zr] [hu : Ty P u (.int .u8) sz' bt' zr'] [hd : Ty P dst (.slice u) sz2 bt2 zr2] {b : ByteArray}
    (hx : ev e x = some (.string b)) (hk : ∀ A c D, IM.dis R D → SlR D A b.data.toList → b.size ≤ c → K (.slice A b.size c) ⟨R.or D, hs⟩) : OpJ P n W0 (.convert src dst x) ty e ⟨R, hs⟩ K :=
  OpJ.conv_string_bytes hx fun A c D h1 h2 h3 => hk A c D h1 ⟨_, h2, bytes_rep _⟩ h3
/-! ### Calls that are handed objects -/
/-- A call that is handed chunks and hands chunks back. -/
theorem OpJ.callP {f : FuncId} [hf : Fn1 P f] {xs : List Operand} {vs : List Value} {ats : Array TypeId} {pass keep : List Chunk} {post : Value → IM → List Chunk → Prop} (hp : Split pass hs keep) (hxs : opts e xs = some vs)
    (hc : ∀ R', IM.le R R' → (∀ c ∈ keep, c.inR R') → CallJ P f vs.toArray ⟨R', pass⟩ post)
    (hk : ∀ v D hs1, post v D hs1 → K v ⟨R, hs1 ++ keep⟩) : OpJ P n W0 (.call ⟨.value (.func f), xs.toArray, ats⟩) ty e ⟨R, hs⟩ K := by
  intro o ho hty a w ha hw next Q hn
  exact (OpJ.call (P := P) (n := n) (W0 := W0) (K := fun v s' => ∃ D hs1, post v D hs1 ∧ IM.le R s'.R ∧ s'.hs = hs1 ++ keep) (pass := pass) (ats := ats) (ty := ty) hxs hp hc
    (fun v D hs1 hd hp => ⟨D, hs1, hp, IM.le_or _ _, rfl⟩)) o ho hty a w ha hw next Q
    (fun v s' w' hs' hk' => by
      obtain ⟨D, hs1, hp, h1, h2⟩ := hk'
      have h3 : Sat W0 ⟨s'.R, hs1 ++ keep⟩ w' := by rw [← h2]; exact hs'
      exact hn v ⟨R, hs1 ++ keep⟩ w' (h3.le h1) (hk v D hs1 hp))
/-- A call that freezes. -/
theorem OpJ.callD {f : FuncId} [hf : Fn1 P f] {xs : List Operand} {vs : List Value} {ats : Array TypeId} {pass keep : List Chunk} {post : Value → IM → List Chunk → Prop} (hp : Split pass hs keep) (hxs : opts e xs = some vs)
    (hc : ∀ R', IM.le R R' → (∀ c ∈ keep, c.inR R') → CallJ P f vs.toArray ⟨R', pass⟩ post)
    (hk : ∀ v D hs1, post v D hs1 → IM.dis R D → K v ⟨R.or D, hs1 ++ keep⟩) : OpJ P n W0 (.call ⟨.value (.func f), xs.toArray, ats⟩) ty e ⟨R, hs⟩ K :=
  OpJ.call hxs hp hc (fun v D hs1 hd hpost => hk v D hs1 hpost hd)
/-! ### What is new of what never changes -/
/-- R1 is R and what a call has frozen; L1 is L and the same. -/
def Fr (R L R1 L1 : IM) : Prop := ∃ D, IM.le D R1 ∧ IM.dis R D ∧ IM.le L1 (L.or D)
theorem Fr.refl (R L : IM) : Fr R L R L := ⟨IM.nil, IM.le_nil _, IM.dis_nil _, IM.le_or _ _⟩
theorem SubL.len {t size m m' c : Nat} {A : Option Addr} {cs : List Value} {r l : List Chunk} (h : m' = m) (k : SubL (.row t size A m c cs :: r) l) : SubL (.row t size A m' c cs :: r) l := h ▸ k
theorem slot_len {A : Option Addr} {c m m' : Nat} (h : m' = m) : some (Value.slice A m c) = some (.slice A m' c) := by rw [h]
/-- The end of a function that falls off its text. -/
def FinJ (n : Nat) (W0 : World) (Q : Env → St → Prop) (e : Env) (s : St) : Prop := ∀ a w, Sub n e a → Sat W0 s w → ∃ e' s', Sub n e' a ∧ Sat W0 s' w ∧ Q e' s'
theorem FinJ.ret' {Q : Env → St → Prop} (h : Q e s) : FinJ n W0 Q e s := fun a w ha hw => ⟨e, s, ha, hw, h⟩
theorem FinJ.freeze {Q : Env → St → Prop} {ch : Chunk} (hp : hs.Perm (ch :: hs')) (h : ∀ D, IM.dis R D → ch.inR D → FinJ n W0 Q e ⟨R.or D, hs'⟩) : FinJ n W0 Q e ⟨R, hs⟩ := by
  intro a w ha hw
  obtain ⟨D, h1, h2, h3⟩ := (hw.perm hp).freeze
  exact h D h1 h2 a w ha h3
theorem FinJ.nilrow {Q : Env → St → Prop} (t size : Nat) (h : FinJ n W0 Q e ⟨R, .row t size none 0 0 [] :: hs⟩) : FinJ n W0 Q e ⟨R, hs⟩ := fun a w ha hw => h a w ha (hw.nilrow t size)
theorem FinJ.rowle {Q : Env → St → Prop} {t size m c : Nat} {A : Option Addr} {cs : List Value} (hp : hs.Perm (.row t size A m c cs :: hs')) (h : m ≤ c → cs.length = m * size → FinJ n W0 Q e ⟨R, hs⟩) : FinJ n W0 Q e ⟨R, hs⟩ :=
  fun a w ha hw => h (hw.perm hp).row_le.1 (hw.perm hp).row_le.2 a w ha hw
theorem CodeJ.tail {c : Code} {ret : Env → St → Prop} (h : CodeJ P n W0 c e s ⟨FinJ n W0 ret, ret, []⟩) : CodeJ P n W0 c e s ⟨ret, ret, []⟩ := by
  intro a w ha hw
  refine wp_mono (h a w ha hw) ?_
  rintro z a' w' ⟨e', s', ha', hs', hk⟩
  cases z with
  | normal =>
    obtain ⟨e2, s2, h1, h2, h3⟩ := hk a' w' ha' hs'
    exact ⟨e2, s2, h1, h2, h3⟩
  | exit id => exact ⟨e', s', ha', hs', hk⟩
  | goto l => exact ⟨e', s', ha', hs', hk⟩
  | ret => exact ⟨e', s', ha', hs', hk⟩
  | panic ch => exact ⟨e', s', ha', hs', hk⟩
  | outgrown => exact ⟨e', s', ha', hs', hk⟩
theorem CodeJ.midF {x : Code} {ret Q : Env → St → Prop} {exi : List (Nat × (Env → St → Prop))} (I : Env → St → Prop)
    (h : CodeJ P n W0 x e s ⟨fun e' s' => ∃ e1 R1 hs1, I e1 ⟨R1, hs1⟩ ∧ IM.le R1 s'.R ∧ SubE e1 e' ∧ SubL hs1 s'.hs, ret, exi⟩) (k : ∀ e1 s1, I e1 s1 → FinJ n W0 Q e1 s1) :
    CodeJ P n W0 x e s ⟨FinJ n W0 Q, ret, exi⟩ := by
  intro a w ha hw
  refine wp_mono (h a w ha hw) ?_
  rintro z a' w' ⟨e', s', ha', hs', hk⟩
  refine ⟨e', s', ha', hs', ?_⟩
  cases z with
  | normal =>
    obtain ⟨e1, R1, hs1, h1, h2, h3, h4⟩ := hk
    intro a2 w2 ha2 hw2
    exact k e1 ⟨R1, hs1⟩ h1 a2 w2 (ha2.weaken h3) (Sat.sub (R := R1) (hs := s'.hs) (Sat.le (R' := s'.R) hw2 h2) h4)
  | exit id => exact hk
  | goto l => exact hk
  | ret => exact hk
  | panic ch => exact hk
  | outgrown => exact hk
theorem IM.dis_le {L R D : IM} (h : IM.le L R) (hd : IM.dis R D) : IM.dis L D := fun b o hb => by
  have := hd b o hb
  cases hL : L b with
  | none => rfl
  | some u => rw [h b u hL] at this; cases this
theorem bytes_len (b : ByteArray) : b.data.toList.length = b.size := Array.length_toList
theorem HoldJ.nilrow {l : List Oper} {s0 : St} {done : List Nat} {KK : Env → St → Prop} (t size : Nat) (h : HoldJ P n W0 l s0 done e ⟨R, .row t size none 0 0 [] :: hs⟩ KK) : HoldJ P n W0 l s0 done e ⟨R, hs⟩ KK := by
  intro f hf a w ha hw
  exact h f hf a w ha (hw.nilrow t size)
theorem IM.or_mono {A B D : IM} (h : IM.le A B) (hd : IM.dis B D) : IM.le (A.or D) (B.or D) := by
  intro b o hb
  simp only [IM.or] at hb ⊢
  cases hA : A b with
  | some u => rw [hA] at hb; rw [h b u hA]; exact hb
  | none =>
    rw [hA] at hb
    have hD : D b = some o := by simpa using hb
    rw [hd b o hD]; exact hD
theorem Fr.step {R L R1 L1 D : IM} (h : Fr R L R1 L1) (hR : IM.le R R1) (hL : IM.le L R) (hd : IM.dis R1 D) : Fr R L (R1.or D) (L1.or D) := by
  obtain ⟨D0, h1, h2, h3⟩ := h
  refine ⟨D0.or D, IM.or_mono h1 hd, fun b o hb => ?_, fun b o hb => ?_⟩
  · simp only [IM.or] at hb
    cases h0 : D0 b with
    | some u => exact h2 b u h0
    | none =>
      rw [h0] at hb
      have hD : D b = some o := by simpa using hb
      have := hd b o hD
      cases hR0 : R b with
      | none => rfl
      | some u => rw [hR b u hR0] at this; cases this
  · simp only [IM.or] at hb ⊢
    cases hL1 : L1 b with
    | some u =>
      rw [hL1] at hb
      have h4 := h3 b u hL1
      simp only [IM.or] at h4
      obtain rfl : u = o := by simpa using hb
      cases hL0 : L b with
      | some q => rw [hL0] at h4; exact h4
      | none =>
        rw [hL0] at h4
        have h5 : D0 b = some u := by simpa using h4
        simp [h5]
    | none =>
      rw [hL1] at hb
      have hD : D b = some o := by simpa using hb
      have hn := hd b o hD
      have hL0 : L b = none := by
        cases hq : L b with
        | none => rfl
        | some q => rw [hR b q (hL b q hq)] at hn; cases hn
      have hD0 : D0 b = none := by
        cases hq : D0 b with
        | none => rfl
        | some q => rw [h1 b q hq] at hn; cases hn
      rw [hL0, hD0]; exact hD
theorem Ret.mkF {fn : Func} {R0 L0 L1 : IM} {post : Value → IM → List Chunk → Prop} {v : Value} {hs2 : List Chunk} (hf : Fr R0 L0 s.R L1) (hpost : ∀ D, IM.le L1 (L0.or D) → post v D hs2) (hres : ResJ P n fn e s v) (hle : IM.le R0 s.R) (hsub : SubL hs2 s.hs) : Ret P n fn R0 post e s := by
  obtain ⟨D, h1, h2, h3⟩ := hf
  exact ⟨v, D, hs2, hres, hle, h1, h2, hsub, hpost D h3⟩
end
end Go.Proofs.Ytdicpnnmhjgnbaa.FW
