/- The operations that leave the world as it is: a rule each. -/
import Derived.Test.YtdicpnnmhjgnbaaF1
import Derived.Laws.Cover3
import Derived.Laws.Pointers
import Derived.Laws.Small
import Derived.Laws.Strings
namespace Go.Proofs.Ytdicpnnmhjgnbaa.FW
open Go Go.RowKit
set_option linter.unusedVariables false
set_option linter.unusedSimpArgs false

/-- A type, as the program's tables have it. -/
class Ty (P : Program) (t : TypeId) (d : outParam TypeDesc) (size bytes : outParam Nat) (zero : outParam (List Value)) : Prop where
  und : P.underlying t = some d
  info : ∃ i z, P.info? t = some i ∧ i.size = size ∧ i.bytes = bytes ∧ i.zero = some z ∧ z.cells = zero.toArray
def OpP (P : Program) (n : Nat) (W0 : World) (op : Op) (ty : TypeId) (e : Env) (s : St) (v : Value) : Prop :=
  ∀ o : Oper, o.op = op → o.type = ty → ∀ a w, Sub n e a → Sat W0 s w → (execOp a.eval o).run P w = .ok (.value v) w
section
variable {P : Program} {n : Nat} {W0 : World} {e : Env} {s : St} {op : Op} {ty : TypeId} {v : Value}
theorem OpJ.pure {K : Value → St → Prop} (h : OpP P n W0 op ty e s v) (k : K v s) : OpJ P n W0 op ty e s K := by
  intro o ho hty a w ha hw next Q hn
  unfold Oper.wp
  rw [h o ho hty a w ha hw]
  exact hn v s w hw k
theorem OpQ.pure {K : Value → Prop} (h : OpP P n W0 op ty e s v) (k : K v) : OpQ P n W0 op ty e s K := by
  intro o ho hty a ha
  refine ⟨v, k, fun w hw => ?_⟩
  unfold Oper.quietAt
  rw [h o ho hty a w ha hw]
  exact ⟨rfl, rfl⟩
theorem Ty.size_run {t : TypeId} {d : TypeDesc} {size bytes : Nat} {zero : List Value} (h : Ty P t d size bytes zero) (w : World) : (sizeOf t).run P w = .ok size w := by
  obtain ⟨i, z, h1, h2, _⟩ := h.info
  simp [sizeOf, typeInfo, h1, h2]

theorem beq_dec (i j : Int) : (i == j) = decide (i = j) := by rw [Bool.eq_iff_iff]; simp
theorem bytes_dec (b b' : ByteArray) : (b.toList == b'.toList) = decide (b = b') := by
  rw [Bool.eq_iff_iff]
  simp only [beq_iff_eq, decide_eq_true_eq]
  refine ⟨fun h => ?_, fun h => by rw [h]⟩
  rw [ByteArray.toList_eq, ByteArray.toList_eq] at h
  exact ByteArray.ext (Array.toList_inj.1 h)
/-! ### Values -/
variable {x y z : Operand} {t t' : TypeId} {k : IntKind} {i j : Int}
theorem OpP.move (hx : ev e x = some v) : OpP P n W0 (.move x) ty e s v := by
  intro o ho hty a w ha hw
  simp [execOp, ho, ha.ev hx]
theorem OpP.assign (hx : ev e x = some v) : OpP P n W0 (.assign x) ty e s v := by
  intro o ho hty a w ha hw
  simp [execOp, ho, ha.ev hx]
theorem OpP.pick {b : Bool} {u u' : Value} (hz : ev e z = some (.bool b)) (hx : ev e x = some u) (hy : ev e y = some u') : OpP P n W0 (.pick z x y) ty e s (if b then u else u') := by
  intro o ho hty a w ha hw
  simp [execOp, ho, ha.ev hx, ha.ev hy, ha.ev hz, asBool]
theorem OpP.pick_t {b : Bool} {u : Value} (hz : ev e z = some (.bool b)) (hb : b = true) (hx : ev e x = some u) : OpP P n W0 (.pick z x y) ty e s u := by
  intro o ho hty a w ha hw
  simp [execOp, ho, ha.ev hx, ha.ev hz, asBool, hb]
theorem OpP.pick_f {b : Bool} {u : Value} (hz : ev e z = some (.bool b)) (hb : b = false) (hy : ev e y = some u) : OpP P n W0 (.pick z x y) ty e s u := by
  intro o ho hty a w ha hw
  simp [execOp, ho, ha.ev hy, ha.ev hz, asBool, hb]
theorem OpP.extract {vs : List Value} {m : Nat} (hx : ev e x = some (.tuple vs.toArray)) (hm : vs[m]? = some v) : OpP P n W0 (.extract x m) ty e s v := by
  intro o ho hty a w ha hw
  simp [execOp, ho, ha.ev hx, Instr.extract, hm]
theorem OpP.nilCheck {ad : Addr} (hx : ev e x = some (.pointer (some ad))) : OpP P n W0 (.nilCheck x) ty e s (.pointer (some ad)) := by
  intro o ho hty a w ha hw
  simp [execOp, ho, ha.ev hx]

/-! ### Whole numbers -/
theorem OpP.eql (hx : ev e x = some (.int k i)) (hy : ev e y = some (.int k j)) : OpP P n W0 (.binOp .eql t x y t') ty e s (.bool (decide (i = j))) := by
  intro o ho hty a w ha hw
  simp [execOp, ho, ha.ev hx, ha.ev hy, eqGuard_at_int, binOp_eql, beq_dec]
theorem OpP.neq (hx : ev e x = some (.int k i)) (hy : ev e y = some (.int k j)) : OpP P n W0 (.binOp .neq t x y t') ty e s (.bool (decide (i ≠ j))) := by
  intro o ho hty a w ha hw
  simp [execOp, ho, ha.ev hx, ha.ev hy, eqGuard_at_int, binOp_neq, bne, beq_dec]
theorem OpP.lss (hx : ev e x = some (.int k i)) (hy : ev e y = some (.int k j)) : OpP P n W0 (.binOp .lss t x y t') ty e s (.bool (decide (i < j))) := by
  intro o ho hty a w ha hw
  simp [execOp, ho, ha.ev hx, ha.ev hy, eqGuard_at_int, binOp_lss]
theorem OpP.leq (hx : ev e x = some (.int k i)) (hy : ev e y = some (.int k j)) : OpP P n W0 (.binOp .leq t x y t') ty e s (.bool (decide (i ≤ j))) := by
  intro o ho hty a w ha hw
  simp [execOp, ho, ha.ev hx, ha.ev hy, eqGuard_at_int, binOp_leq]
theorem OpP.gtr (hx : ev e x = some (.int k i)) (hy : ev e y = some (.int k j)) : OpP P n W0 (.binOp .gtr t x y t') ty e s (.bool (decide (i > j))) := by
  intro o ho hty a w ha hw
  simp [execOp, ho, ha.ev hx, ha.ev hy, eqGuard_at_int, binOp_gtr]
theorem OpP.geq (hx : ev e x = some (.int k i)) (hy : ev e y = some (.int k j)) : OpP P n W0 (.binOp .geq t x y t') ty e s (.bool (decide (i ≥ j))) := by
  intro o ho hty a w ha hw
  simp [execOp, ho, ha.ev hx, ha.ev hy, eqGuard_at_int, binOp_geq]
theorem OpP.add (hx : ev e x = some (.int k i)) (hy : ev e y = some (.int k j)) : OpP P n W0 (.binOp .add t x y t') ty e s (.int k (k.wrap (i + j))) := by
  intro o ho hty a w ha hw
  simp [execOp, ho, ha.ev hx, ha.ev hy, binOp_add, eqGuard_add, Op.intArith]
theorem OpP.sub (hx : ev e x = some (.int k i)) (hy : ev e y = some (.int k j)) : OpP P n W0 (.binOp .sub t x y t') ty e s (.int k (k.wrap (i - j))) := by
  intro o ho hty a w ha hw
  simp [execOp, ho, ha.ev hx, ha.ev hy, binOp_sub, eqGuard_sub, Op.intArith]
theorem OpP.mul (hx : ev e x = some (.int k i)) (hy : ev e y = some (.int k j)) : OpP P n W0 (.binOp .mul t x y t') ty e s (.int k (k.wrap (i * j))) := by
  intro o ho hty a w ha hw
  simp [execOp, ho, ha.ev hx, ha.ev hy, binOp_mul, eqGuard_mul, Op.intArith]
theorem OpP.quo (hx : ev e x = some (.int k i)) (hy : ev e y = some (.int k j)) (hj : j ≠ 0) : OpP P n W0 (.binOp .quo t x y t') ty e s (.int k (k.wrap (i.tdiv j))) := by
  intro o ho hty a w ha hw
  simp [execOp, ho, ha.ev hx, ha.ev hy, binOp_quo, eqGuard_quo, Op.intDiv, hj]
theorem OpP.rem (hx : ev e x = some (.int k i)) (hy : ev e y = some (.int k j)) (hj : j ≠ 0) : OpP P n W0 (.binOp .rem t x y t') ty e s (.int k (i.tmod j)) := by
  intro o ho hty a w ha hw
  simp [execOp, ho, ha.ev hx, ha.ev hy, binOp_rem, eqGuard_rem, Op.intDiv, hj]
theorem OpP.and (hx : ev e x = some (.int k i)) (hy : ev e y = some (.int k j)) : OpP P n W0 (.binOp .and t x y t') ty e s (.int k (k.wrap (BitVec.ofInt k.bits i &&& BitVec.ofInt k.bits j).toNat)) := by
  intro o ho hty a w ha hw
  simp [execOp, ho, ha.ev hx, ha.ev hy, binOp_and, eqGuard_and, Op.intBits]
theorem OpP.or (hx : ev e x = some (.int k i)) (hy : ev e y = some (.int k j)) : OpP P n W0 (.binOp .or t x y t') ty e s (.int k (k.wrap (BitVec.ofInt k.bits i ||| BitVec.ofInt k.bits j).toNat)) := by
  intro o ho hty a w ha hw
  simp [execOp, ho, ha.ev hx, ha.ev hy, binOp_or, eqGuard_or, Op.intBits]
theorem OpP.xor (hx : ev e x = some (.int k i)) (hy : ev e y = some (.int k j)) : OpP P n W0 (.binOp .xor t x y t') ty e s (.int k (k.wrap (BitVec.ofInt k.bits i ^^^ BitVec.ofInt k.bits j).toNat)) := by
  intro o ho hty a w ha hw
  simp [execOp, ho, ha.ev hx, ha.ev hy, binOp_xor, eqGuard_xor, Op.intBits]
theorem OpP.shl {yk : IntKind} (hx : ev e x = some (.int k i)) (hy : ev e y = some (.int yk j)) (hj : 0 ≤ j) : OpP P n W0 (.binOp .shl t x y t') ty e s (.int k (k.wrap (i * 2 ^ (min j.toNat k.bits)))) := by
  intro o ho hty a w ha hw
  have h' : ¬ j < 0 := by omega
  simp [execOp, ho, ha.ev hx, ha.ev hy, binOp_shl, eqGuard_shl, Op.shift, h']
theorem OpP.shr {yk : IntKind} (hx : ev e x = some (.int k i)) (hy : ev e y = some (.int yk j)) (hj : 0 ≤ j) : OpP P n W0 (.binOp .shr t x y t') ty e s (.int k (i.fdiv (2 ^ (min j.toNat k.bits)))) := by
  intro o ho hty a w ha hw
  have h' : ¬ j < 0 := by omega
  simp [execOp, ho, ha.ev hx, ha.ev hy, binOp_shr, eqGuard_shr, Op.shift, h']
theorem OpP.neg (hx : ev e x = some (.int k i)) : OpP P n W0 (.unOp .neg t x) ty e s (.int k (k.wrap (0 - i))) := by
  intro o ho hty a w ha hw
  simp [execOp, ho, ha.ev hx, Op.unary, Op.intArith]
theorem OpP.not {b : Bool} (hx : ev e x = some (.bool b)) : OpP P n W0 (.unOp .not t x) ty e s (.bool (!b)) := by
  intro o ho hty a w ha hw
  simp [execOp, ho, ha.ev hx, Op.unary]
theorem OpP.compl (hx : ev e x = some (.int k i)) : OpP P n W0 (.unOp .xor t x) ty e s (.int k (k.wrap (BitVec.ofInt k.bits (if k.signed then -1 else k.max) ^^^ BitVec.ofInt k.bits i).toNat)) := by
  intro o ho hty a w ha hw
  simp [execOp, ho, ha.ev hx, Op.unary, Op.intBits]
theorem OpP.conv_int {src dst : TypeId} {d : TypeDesc} {k' : IntKind} {sz bt sz' bt' : Nat} {zr zr' : List Value} [hs : Ty P src d sz bt zr] [hd : Ty P dst (.int k') sz' bt' zr'] (hx : ev e x = some (.int k i)) :
    OpP P n W0 (.convert src dst x) ty e s (.int k' (k'.wrap i)) := by
  intro o ho hty a w ha hw
  simp [execOp, ho, ha.ev hx, convert, run_underlying hs.und, run_underlying hd.und, Conv.intToInt]
theorem OpP.min (hx : ev e x = some (.int k i)) (hy : ev e y = some (.int k j)) {at_ : Array TypeId} : OpP P n W0 (.call ⟨.builtin .min, #[x, y], at_⟩) ty e s (.int k (if j < i then j else i)) := by
  intro o ho hty a w ha hw
  simp [execOp, ho, ha.ev hx, ha.ev hy, resolve, invoke, builtin, Builtin.min_, Builtin.min2]
theorem OpP.max (hx : ev e x = some (.int k i)) (hy : ev e y = some (.int k j)) {at_ : Array TypeId} : OpP P n W0 (.call ⟨.builtin .max, #[x, y], at_⟩) ty e s (.int k (if j > i then j else i)) := by
  intro o ho hty a w ha hw
  simp [execOp, ho, ha.ev hx, ha.ev hy, resolve, invoke, builtin, Builtin.max_, Builtin.max2]

/-! ### Other comparisons -/
theorem OpP.eql_bool {b b' : Bool} {sz bt : Nat} {zr : List Value} [ht : Ty P t .bool sz bt zr] (hx : ev e x = some (.bool b)) (hy : ev e y = some (.bool b')) : OpP P n W0 (.binOp .eql t x y t') ty e s (.bool (b == b')) := by
  intro o ho hty a w ha hw
  simp [execOp, ho, ha.ev hx, ha.ev hy, eqGuard_at_bool, run_eql_bool w t b b' ht.und]
theorem OpP.neq_bool {b b' : Bool} {sz bt : Nat} {zr : List Value} [ht : Ty P t .bool sz bt zr] (hx : ev e x = some (.bool b)) (hy : ev e y = some (.bool b')) : OpP P n W0 (.binOp .neq t x y t') ty e s (.bool (!(b == b'))) := by
  intro o ho hty a w ha hw
  simp [execOp, ho, ha.ev hx, ha.ev hy, eqGuard_at_bool, run_neq_bool w t b b' ht.und]
theorem OpP.eql_string {b b' : ByteArray} (hx : ev e x = some (.string b)) (hy : ev e y = some (.string b')) : OpP P n W0 (.binOp .eql t x y t') ty e s (.bool (decide (b = b'))) := by
  intro o ho hty a w ha hw
  simp only [execOp, ho, ha.ev hx, ha.ev hy, eqGuard_at_string, binOp_string_eql, bytes_dec, Sem.run_bind, Sem.run_pure, Result.andThen_ok]
theorem OpP.neq_string {b b' : ByteArray} (hx : ev e x = some (.string b)) (hy : ev e y = some (.string b')) : OpP P n W0 (.binOp .neq t x y t') ty e s (.bool (!decide (b = b'))) := by
  intro o ho hty a w ha hw
  simp only [execOp, ho, ha.ev hx, ha.ev hy, eqGuard_at_string, binOp_string_neq, bytes_dec, Sem.run_bind, Sem.run_pure, Result.andThen_ok]
theorem pointee_of {u : TypeId} (h : P.underlying t = some (.pointer u)) : P.underlying t = some (.pointer (P.pointee t)) := by
  simp [Program.pointee, h]
theorem OpP.eql_nil {p : Option Addr} {u : TypeId} {sz bt : Nat} {zr : List Value} [ht : Ty P t (.pointer u) sz bt zr] (hx : ev e x = some (.pointer p)) (hy : ev e y = some (.pointer none)) : OpP P n W0 (.binOp .eql t x y t') ty e s (.bool p.isNone) := by
  intro o ho hty a w ha hw
  simp only [execOp, ho, ha.ev hx, ha.ev hy, eqGuard_at_pointer, run_eql_pointer_nil w t p (pointee_of ht.und), Sem.run_bind, Sem.run_pure, Result.andThen_ok]
theorem OpP.neq_nil {p : Option Addr} {u : TypeId} {sz bt : Nat} {zr : List Value} [ht : Ty P t (.pointer u) sz bt zr] (hx : ev e x = some (.pointer p)) (hy : ev e y = some (.pointer none)) : OpP P n W0 (.binOp .neq t x y t') ty e s (.bool (!p.isNone)) := by
  intro o ho hty a w ha hw
  simp only [execOp, ho, ha.ev hx, ha.ev hy, eqGuard_at_pointer, run_neq_pointer_nil w t p (pointee_of ht.und), Sem.run_bind, Sem.run_pure, Result.andThen_ok]
theorem run_eql_slice_nil' (w : World) {u : TypeId} (A : Option Addr) (m c : Nat) (h : P.underlying t = some (.slice u)) : (binOp .eql t (.slice A m c) (.slice none 0 0)).run P w = .ok (.bool A.isNone) w := by
  have h1 : (Op.equal t (.slice A m c) (.slice none 0 0)).run P w = .ok A.isNone w := run_equal_slice_nil w t u A m c h
  have h2 : binOp .eql t (.slice A m c) (.slice none 0 0) = (do pure (.bool (← Op.equal t (.slice A m c) (.slice none 0 0)))) := rfl
  rw [h2]
  simp [h1]
theorem OpP.eql_nil_slice {A : Option Addr} {m c : Nat} {u : TypeId} {sz bt : Nat} {zr : List Value} [ht : Ty P t (.slice u) sz bt zr] (hx : ev e x = some (.slice A m c)) (hy : ev e y = some (.slice none 0 0)) : OpP P n W0 (.binOp .eql t x y t') ty e s (.bool A.isNone) := by
  intro o ho hty a w ha hw
  simp only [execOp, ho, ha.ev hx, ha.ev hy, eqGuard_at_slice, run_eql_slice_nil' w A m c ht.und, Sem.run_bind, Sem.run_pure, Result.andThen_ok]
theorem OpP.neq_nil_slice {A : Option Addr} {m c : Nat} {u : TypeId} {sz bt : Nat} {zr : List Value} [ht : Ty P t (.slice u) sz bt zr] (hx : ev e x = some (.slice A m c)) (hy : ev e y = some (.slice none 0 0)) : OpP P n W0 (.binOp .neq t x y t') ty e s (.bool (!A.isNone)) := by
  intro o ho hty a w ha hw
  simp only [execOp, ho, ha.ev hx, ha.ev hy, eqGuard_at_slice, run_neq_slice_nil w t u A m c ht.und, Sem.run_bind, Sem.run_pure, Result.andThen_ok]

/-! ### Slices and strings -/
/-- The address of a slice that is not nil. -/
def adr (A : Option Addr) : Addr := A.getD ⟨0, 0, none⟩
theorem OpP.len {A : Option Addr} {m c : Nat} {u : TypeId} {sz bt : Nat} {zr : List Value} [ht : Ty P t (.slice u) sz bt zr] (hx : ev e x = some (.slice A m c)) : OpP P n W0 (.call ⟨.builtin .len, #[x], #[t]⟩) ty e s (.int .i64 m) := by
  intro o ho hty a w ha hw
  simp [execOp, ho, ha.ev hx, resolve, invoke, builtin, Builtin.len_, run_underlying ht.und, goInt]
theorem OpP.cap {A : Option Addr} {m c : Nat} {u : TypeId} {sz bt : Nat} {zr : List Value} [ht : Ty P t (.slice u) sz bt zr] (hx : ev e x = some (.slice A m c)) : OpP P n W0 (.call ⟨.builtin .cap, #[x], #[t]⟩) ty e s (.int .i64 c) := by
  intro o ho hty a w ha hw
  simp [execOp, ho, ha.ev hx, resolve, invoke, builtin, Builtin.cap_, run_underlying ht.und, goInt]
theorem OpP.len_string {b : ByteArray} {sz bt : Nat} {zr : List Value} [ht : Ty P t .string sz bt zr] (hx : ev e x = some (.string b)) : OpP P n W0 (.call ⟨.builtin .len, #[x], #[t]⟩) ty e s (.int .i64 b.size) := by
  intro o ho hty a w ha hw
  simp [execOp, ho, ha.ev hx, resolve, invoke, builtin, Builtin.len_, run_underlying ht.und, goInt]
theorem OpP.indexAddr {A : Option Addr} {m c : Nat} {u : TypeId} {sz bt sz' bt' : Nat} {zr zr' : List Value} {d : TypeDesc} [ht : Ty P t (.slice u) sz bt zr] [hu : Ty P u d sz' bt' zr'] (hx : ev e x = some (.slice A m c)) (hy : ev e y = some (.int k i))
    (h0 : 0 ≤ i) (h1 : i < m) (hA : ∀ W0 w, Sat W0 s w → A.isSome = true) : OpP P n W0 (.indexAddr t x y) ty e s (.pointer (some ((adr A).add (i.toNat * sz')))) := by
  intro o ho hty a w ha hw
  obtain ⟨ad, rfl⟩ := Option.isSome_iff_exists.1 (hA W0 w hw)
  have hsz := hu.size_run w
  simp [execOp, ho, ha.ev hx, ha.ev hy, Instr.indexAt, asIntOf, run_underlying ht.und, h0, h1, hsz, adr]
theorem OpP.fieldAddr {fs : Array Field} {f : Field} {ad : Addr} {m : Nat} {sz bt sz' bt' : Nat} {zr zr' : List Value} {d : TypeDesc} {ft : TypeId} {off : Nat} [ht : Ty P t (.struct fs) sz bt zr] (hf : fs[m]? = some f) (hft : f.type = ft) (hoff : f.offset = off) [hu : Ty P ft d sz' bt' zr'] (hsz : sz' ≠ 0)
    (hx : ev e x = some (.pointer (some ad))) : OpP P n W0 (.fieldAddr t x m) ty e s (.pointer (some (ad.add off))) := by
  intro o ho hty a w ha hw
  subst hft hoff
  have h1 := hu.size_run w
  simp [execOp, ho, ha.ev hx, Instr.fieldAt, run_underlying ht.und, hf, Instr.sureAddr, fieldPlace, h1, hsz]
theorem OpP.index_string {b : ByteArray} {sz bt : Nat} {zr : List Value} [ht : Ty P t .string sz bt zr] (hx : ev e x = some (.string b)) (hy : ev e y = some (.int k i)) (h0 : 0 ≤ i) (h1 : i < b.size) : OpP P n W0 (.index t x y) ty e s (.int .u8 (b.toList.getD i.toNat 0).toNat) := by
  intro o ho hty a w ha hw
  have h2 : i.toNat < b.size := by omega
  have h3 : b[i.toNat]? = some (b[i.toNat]'h2) := by simp [h2]
  have h4 : b.toList.getD i.toNat 0 = b[i.toNat]'h2 := by
    rw [ByteArray.toList_eq, List.getD_eq_getElem?_getD]
    simp [ByteArray.getElem_eq_getElem_data, h2]
  simp only [execOp, ho, ha.ev hx, ha.ev hy, Instr.index, asIntOf, Sem.run_bind, Sem.run_pure, Result.andThen_ok, run_underlying ht.und, h0, if_true, h3, h4]
/-- A field of a struct's value. -/
theorem OpP.field {fs : Array Field} {f : Field} {cs : List Value} {m : Nat} {sz bt sz' bt' : Nat} {zr zr' : List Value} {d : TypeDesc} {ft : TypeId} {off : Nat} [ht : Ty P t (.struct fs) sz bt zr] (hf : fs[m]? = some f) (hft : f.type = ft) (hoff : f.offset = off) [hu : Ty P ft d sz' bt' zr']
    (hd : (match d with | .struct _ | .array _ _ => true | _ => false) = false)
    (hx : ev e x = some (.agg cs.toArray)) (hc : cs[off]? = some v) : OpP P n W0 (.field t x m) ty e s v := by
  intro o ho hty a w ha hw
  subst hft hoff
  have h1 := run_underlying hu.und w
  have hagg : (isAgg f.type).run P w = .ok false w := by
    unfold isAgg
    rw [Sem.run_bind, h1]
    cases d <;> simp_all
  simp [execOp, ho, ha.ev hx, Instr.field, run_underlying ht.und, hf, asAgg, part, hagg, hc]
end
end Go.Proofs.Ytdicpnnmhjgnbaa.FW
