/- More rules: a conversion between slices of bytes; bits of numbers; the bridge from a contract to a law's walk. -/
import Derived.Test.YtdicpnnmhjgnbaaF6
namespace Go.Proofs.Ytdicpnnmhjgnbaa.FW
open Go Go.RowKit
set_option linter.unusedVariables false
set_option linter.unusedSimpArgs false
section
variable {P : Program} {n : Nat} {W0 : World} {e : Env} {s : St} {R : IM} {hs hs' : List Chunk} {op : Op} {ty : TypeId} {v : Value} {K : Value → St → Prop}
variable {x y z : Operand} {t t' : TypeId} {k : IntKind} {i j : Int}

theorem OpJ.conv_bytes {src u : TypeId} {sz bt sz' bt' g m c size m2 c2 : Nat} {zr zr' cs : List Value} [hs1 : Ty P src (.slice u) sz bt zr] [hu : Ty P u (.int .u8) sz' bt' zr']
    (hx : ev e x = some (.slice (some ⟨g, 0, none⟩) m c)) (hp : hs.Perm (.row t size (some ⟨g, 0, none⟩) m2 c2 cs :: hs'))
    (hk : ∀ D, IM.dis R D → RC D (some ⟨g, 0, none⟩) cs → K (.slice (some ⟨g, 0, none⟩) m c) ⟨R.or D, hs'⟩) : OpJ P n W0 (.convert src src x) ty e ⟨R, hs⟩ K := by
  intro o ho hty a w ha hw next Q hn
  have hw' := hw.perm hp
  have hrow : w.ownsRow 0 t size (.slice (some ⟨g, 0, none⟩) m2 c2) m2 cs := hw'.own _ (List.mem_cons_self ..)
  rcases hrow.2 with ⟨h3, _⟩ | ⟨g', cap, all, h3, h0, hg, hnc, hcm, hcs, htake⟩
  · simp at h3
  · have hgg : g = g' := (by simp at h3; exact h3.1)
    subst hgg
    obtain ⟨D, hd1, hd2, hd3⟩ := hw'.freeze
    have hshape : w.shape? g = some (t, all.size) := by simp [World.shape?, hg]
    have hrun : (execOp a.eval o).run P w = .ok (.value (.slice (some ⟨g, 0, none⟩) m c)) (w.freeze ⟨g, all.size, none⟩ 1) := by
      simp [execOp, ho, ha.ev hx, convert, run_underlying hs1.und, run_underlying hu.und, markStringish, hshape, Result.andThen]
    unfold Oper.wp
    rw [hrun]
    -- the block, its mark laid
    have hblk : ∀ b, b ≠ g → (w.freeze ⟨g, all.size, none⟩ 1).heap[b]? = w.heap[b]? := fun b hb => by
      simp [World.freeze, Array.getElem?_modify, Ne.symm hb]
    have hnew : (w.freeze ⟨g, all.size, none⟩ 1).heap[g]? = some (.cells all t (all.size, all.size + 1)) := by
      have hlt := (Array.getElem?_eq_some_iff.1 hg).1
      have hv := (Array.getElem?_eq_some_iff.1 hg).2
      simp only [World.freeze]
      rw [if_neg (by decide)]
      rw [Array.getElem?_modify]
      simp [hg]
    let D' : IM := fun b => if b = g then some (.cells all t (all.size, all.size + 1)) else none
    have hgR : R g = none := by
      have := hw'.apart g (by simp [Own, Chunk.blocks])
      exact this
    have hdis : IM.dis R D' := fun b o hb => by
      by_cases hbg : b = g
      · subst hbg; exact hgR
      · simp [D', hbg] at hb
    have hnd := hw'.nodup
    simp only [Own_cons, Chunk.blocks, List.nodup_append] at hnd
    obtain ⟨_, hn2, hn3⟩ := hnd
    have hne : ∀ b ∈ Own hs', b ≠ g := fun b hb e => hn3 g (by simp) b hb e.symm
    refine hn _ ⟨R.or D', hs'⟩ _ ⟨hw.os, hw.tape, hw.output, by simpa [World.freeze] using hw.size, fun b o hb => ?_, fun c1 hc1 => ?_, hn2, fun b hb => ?_⟩ (hk D' hdis ⟨fun _ => rfl, fun j v hj => ?_⟩)
    · simp only [IM.or] at hb
      cases hr : R b with
      | some u =>
        rw [hr] at hb; simp at hb; subst hb
        rw [hblk b (fun e => by subst e; rw [hgR] at hr; cases hr)]
        exact hw.im b _ hr
      | none =>
        rw [hr] at hb
        by_cases hbg : b = g
        · subst hbg; simp [D'] at hb; rw [← hb]; exact hnew
        · simp [D', hbg] at hb
    · exact Chunk.ok_same (hw'.own c1 (List.mem_cons_of_mem _ hc1)) fun b hb => hblk b (hne b (mem_Own.2 ⟨c1, hc1, hb⟩))
    · have h1 : R b = none := hw'.apart b (by rw [Own_cons]; exact List.mem_append_right _ hb)
      simp [IM.or, h1, D', hne b hb]
    · have h2 : (all.toList.take (m2 * size))[j]? = some v := by rw [htake]; exact hj
      rw [List.getElem?_take] at h2
      split at h2
      · simp only [adr, Option.getD_some, add_plain, IM.cell?, D', if_true]
        simpa using h2
      · cases h2
/-- What a contract says where nothing is handed over. -/
theorem CallJ.law {f : FuncId} {args : Array Value} {w : World} (h : CallJ P f args ⟨fun b => w.heap[b]?, []⟩ fun v _ _ => v = .bool true) : Calls P f args w fun e w' => e = .returned (.bool true) ∧ Below w.heap.size w w' := by
  have hs : Sat w ⟨fun b => w.heap[b]?, []⟩ w := ⟨rfl, rfl, rfl, Nat.le_refl _, (fun _ _ h => h), (fun c hc => by cases hc), (by simp [Own]), (fun b hb => by simp [Own] at hb)⟩
  refine (h w hs).mono ?_
  rintro e' w' ⟨v, D, hs', rfl, h1, h2, rfl⟩
  refine ⟨rfl, h1.os, h1.tape, h1.output, h1.size, fun b hb => ?_⟩
  have : w.heap[b]? = some w.heap[b] := by simp [hb]
  rw [this]
  exact h1.im b _ (by simp [IM.or, hb])
/-! ### Bits -/
theorem OpP.and_nat {p q : Nat} (hx : ev e x = some (.int k (p : Int))) (hy : ev e y = some (.int k (q : Int))) (hk : k.signed = false) (hp : p < 2 ^ k.bits) (hq : q < 2 ^ k.bits) : OpP P n W0 (.binOp .and t x y t') ty e s (.int k ((p &&& q : Nat) : Int)) := by
  have h := OpP.and (P := P) (n := n) (W0 := W0) (s := s) (ty := ty) (t := t) (t' := t') hx hy
  have h1 : k.wrap ((BitVec.ofInt k.bits (p : Int) &&& BitVec.ofInt k.bits (q : Int)).toNat : Int) = ((p &&& q : Nat) : Int) := by
    have h2 : (BitVec.ofInt k.bits (p : Int) &&& BitVec.ofInt k.bits (q : Int)).toNat = p &&& q := by
      rw [BitVec.toNat_and]
      simp [Nat.mod_eq_of_lt hp, Nat.mod_eq_of_lt hq]
    rw [h2]
    have h3 : p &&& q < 2 ^ k.bits := Nat.and_lt_two_pow _ hq
    simp only [IntKind.wrap, hk]
    have : ((p &&& q : Nat) : Int) % ((2 : Int) ^ k.bits) = ((p &&& q : Nat) : Int) := Int.emod_eq_of_lt (by omega) (by exact_mod_cast h3)
    simp [this]
  rwa [h1] at h
theorem OpP.or_nat {p q : Nat} (hx : ev e x = some (.int k (p : Int))) (hy : ev e y = some (.int k (q : Int))) (hk : k.signed = false) (hp : p < 2 ^ k.bits) (hq : q < 2 ^ k.bits) : OpP P n W0 (.binOp .or t x y t') ty e s (.int k ((p ||| q : Nat) : Int)) := by
  have h := OpP.or (P := P) (n := n) (W0 := W0) (s := s) (ty := ty) (t := t) (t' := t') hx hy
  have h1 : k.wrap ((BitVec.ofInt k.bits (p : Int) ||| BitVec.ofInt k.bits (q : Int)).toNat : Int) = ((p ||| q : Nat) : Int) := by
    have h2 : (BitVec.ofInt k.bits (p : Int) ||| BitVec.ofInt k.bits (q : Int)).toNat = p ||| q := by
      rw [BitVec.toNat_or]
      simp [Nat.mod_eq_of_lt hp, Nat.mod_eq_of_lt hq]
    rw [h2]
    have h3 : p ||| q < 2 ^ k.bits := Nat.or_lt_two_pow hp hq
    simp only [IntKind.wrap, hk]
    have : ((p ||| q : Nat) : Int) % ((2 : Int) ^ k.bits) = ((p ||| q : Nat) : Int) := Int.emod_eq_of_lt (by omega) (by exact_mod_cast h3)
    simp [this]
  rwa [h1] at h
theorem OpP.xor_nat {p q : Nat} (hx : ev e x = some (.int k (p : Int))) (hy : ev e y = some (.int k (q : Int))) (hk : k.signed = false) (hp : p < 2 ^ k.bits) (hq : q < 2 ^ k.bits) : OpP P n W0 (.binOp .xor t x y t') ty e s (.int k ((p ^^^ q : Nat) : Int)) := by
  have h := OpP.xor (P := P) (n := n) (W0 := W0) (s := s) (ty := ty) (t := t) (t' := t') hx hy
  have h1 : k.wrap ((BitVec.ofInt k.bits (p : Int) ^^^ BitVec.ofInt k.bits (q : Int)).toNat : Int) = ((p ^^^ q : Nat) : Int) := by
    have h2 : (BitVec.ofInt k.bits (p : Int) ^^^ BitVec.ofInt k.bits (q : Int)).toNat = p ^^^ q := by
      rw [BitVec.toNat_xor]
      simp [Nat.mod_eq_of_lt hp, Nat.mod_eq_of_lt hq]
    rw [h2]
    have h3 : p ^^^ q < 2 ^ k.bits := Nat.xor_lt_two_pow hp hq
    simp only [IntKind.wrap, hk]
    have : ((p ^^^ q : Nat) : Int) % ((2 : Int) ^ k.bits) = ((p ^^^ q : Nat) : Int) := Int.emod_eq_of_lt (by omega) (by exact_mod_cast h3)
    simp [this]
  rwa [h1] at h
theorem wrap_u64_in (n : Int) (h : 0 ≤ n ∧ n ≤ 18446744073709551615) : IntKind.u64.wrap n = n := by rw [IntKind.wrap_u64]; omega
theorem OpP.conv_in {src dst : TypeId} {d : TypeDesc} {k' : IntKind} {sz bt sz' bt' : Nat} {zr zr' : List Value} [hs : Ty P src d sz bt zr] [hd : Ty P dst (.int k') sz' bt' zr'] (hx : ev e x = some (.int k i)) (hw : k'.wrap i = i) :
    OpP P n W0 (.convert src dst x) ty e s (.int k' i) := by
  have := OpP.conv_int (P := P) (n := n) (W0 := W0) (s := s) (ty := ty) (src := src) (dst := dst) hx
  rwa [hw] at this
theorem lt_b8 {p : Nat} (h : p < 256) : p < 2 ^ IntKind.u8.bits := h
theorem lt_b32 {p : Nat} (h : p < 4294967296) : p < 2 ^ IntKind.u32.bits := h
theorem lt_b64 {p : Nat} (h : p < 18446744073709551616) : p < 2 ^ IntKind.u64.bits := h
theorem OpP.compl_u32 {p : Nat} (hx : ev e x = some (.int .u32 (p : Int))) (hp : p < 2 ^ 32) : OpP P n W0 (.unOp .xor t x) ty e s (.int .u32 ((p ^^^ 0xffffffff : Nat) : Int)) := by
  have h := OpP.compl (P := P) (n := n) (W0 := W0) (s := s) (ty := ty) (t := t) hx
  have h1 : IntKind.u32.wrap ((BitVec.ofInt IntKind.u32.bits (if IntKind.u32.signed then -1 else IntKind.u32.max) ^^^ BitVec.ofInt IntKind.u32.bits (p : Int)).toNat : Int) = ((p ^^^ 0xffffffff : Nat) : Int) := by
    have h2 : (BitVec.ofInt IntKind.u32.bits (if IntKind.u32.signed then -1 else IntKind.u32.max) ^^^ BitVec.ofInt IntKind.u32.bits (p : Int)).toNat = p ^^^ 0xffffffff := by
      rw [BitVec.toNat_xor]
      have h3 : (BitVec.ofInt IntKind.u32.bits (if IntKind.u32.signed then -1 else IntKind.u32.max)).toNat = 0xffffffff := by decide
      have h4 : (BitVec.ofInt IntKind.u32.bits (p : Int)).toNat = p := by
        show (BitVec.ofInt 32 (p : Int)).toNat = p
        simp [Nat.mod_eq_of_lt hp]
      rw [h3, h4, Nat.xor_comm]
    rw [h2]
    have h3 : p ^^^ 0xffffffff < 2 ^ 32 := Nat.xor_lt_two_pow hp (by decide)
    rw [IntKind.wrap_u32]
    omega
  rwa [h1] at h
theorem OpP.neg_bit {p : Nat} (hx : ev e x = some (.int .u32 ((p &&& 1 : Nat) : Int))) : OpP P n W0 (.unOp .neg t x) ty e s (.int .u32 ((if p % 2 = 1 then 0xffffffff else 0 : Nat) : Int)) := by
  have h := OpP.neg (P := P) (n := n) (W0 := W0) (s := s) (ty := ty) (t := t) hx
  have h1 : IntKind.u32.wrap (0 - ((p &&& 1 : Nat) : Int)) = ((if p % 2 = 1 then 0xffffffff else 0 : Nat) : Int) := by
    rw [Nat.and_one_is_mod, IntKind.wrap_u32]
    split <;> omega
  rwa [h1] at h
theorem OpP.nat_eq {p q : Nat} (h : OpP P n W0 op ty e s (.int k (p : Int))) (hpq : p = q) : OpP P n W0 op ty e s (.int k (q : Int)) := by rw [← hpq]; exact h
theorem and127 (p : Nat) : p &&& 127 = p % 128 := by
  have := Nat.and_two_pow_sub_one_eq_mod p 7
  simpa using this
theorem OpP.and_127 {p : Nat} (hx : ev e x = some (.int k (p : Int))) (hy : ev e y = some (.int k 127)) (hk : k.signed = false) (hp : p < 2 ^ k.bits) (hq : 127 < 2 ^ k.bits) : OpP P n W0 (.binOp .and t x y t') ty e s (.int k ((p % 128 : Nat) : Int)) :=
  OpP.nat_eq (OpP.and_nat (q := 127) hx hy hk hp hq) (and127 p)
theorem OpP.mul_in (hx : ev e x = some (.int .i64 i)) (hy : ev e y = some (.int .i64 j)) (h0 : -9223372036854775808 ≤ i * j) (h1 : i * j ≤ 9223372036854775807) : OpP P n W0 (.binOp .mul t x y t') ty e s (.int .i64 (i * j)) := by
  have := OpP.mul (P := P) (n := n) (W0 := W0) (s := s) (ty := ty) (t := t) (t' := t') hx hy
  rwa [IntWalk.i64_in _ (by omega)] at this
theorem OpP.shl_u64 {p q : Nat} {yk : IntKind} (hx : ev e x = some (.int .u64 (p : Int))) (hy : ev e y = some (.int yk j)) (hj : j = (q : Int)) (hq : q ≤ 64) (hfit : p * 2 ^ q < 18446744073709551616) : OpP P n W0 (.binOp .shl t x y t') ty e s (.int .u64 ((p * 2 ^ q : Nat) : Int)) := by
  have h := OpP.shl (P := P) (n := n) (W0 := W0) (s := s) (ty := ty) (t := t) (t' := t') hx hy (by omega)
  have h1 : IntKind.u64.wrap ((p : Int) * 2 ^ (Nat.min j.toNat IntKind.u64.bits)) = ((p * 2 ^ q : Nat) : Int) := by
    have h2 : Nat.min j.toNat IntKind.u64.bits = q := by
      rw [hj, Int.toNat_natCast]; exact Nat.min_eq_left hq
    rw [h2]
    have h3 : (p : Int) * 2 ^ q = ((p * 2 ^ q : Nat) : Int) := by simp
    rw [h3, IntKind.wrap_u64]
    omega
  rwa [h1] at h
end
end Go.Proofs.Ytdicpnnmhjgnbaa.FW
