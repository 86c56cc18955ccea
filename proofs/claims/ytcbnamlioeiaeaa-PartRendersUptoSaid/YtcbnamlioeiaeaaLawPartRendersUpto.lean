/- winnowerlaw: PartRenders: the row of the law, out of its printed walk and the plain theorem: for every input of bounded bulk the call returns true, and each argument reads afterwards as it read before. Conditions: none. -/
import Derived.Test.YtcbnamlioeiaeaaRows
import Derived.Test.YtcbnamlioeiaeaaPtD
import Derived.Test.YtcbnamlioeiaeaaT3
import Derived.Test.YtcbnamlioeiaeaaX7
import Derived.JoinedCond
import Derived.WalkKit
import Derived.ProofKit
import Derived.OpenShut
import Derived.ShutString
import Derived.ChangeOld
import Derived.Below
import Derived.SizedLaws
namespace Go.Proofs.Ytcbnamlioeiaeaa.partRendersUpto
open Go.ChangeShapes Go.WideShapes Go.ChangeAt Go.RowKit Go.Proofs.Ytcbnamlioeiaeaa.FW
open Go.ChangeMaps (open_string shut_string)
set_option linter.unusedVariables false
set_option linter.unusedSimpArgs false
theorem own : ownKnob Try.prog.godebug = none := by kernel_rfl
theorem laidOut : laidOutB Try.prog = true := by kernel_rfl
theorem oi4 : OpensU Try.prog 4 Bool := inferInstance
theorem oi9 : OpensU Try.prog 9 ByteArray := inferInstance
theorem oi41 : OpensU Try.prog 41 (Bool × ByteArray) := by
  have := oi4
  have := oi9
  exact ouPair (s1 := 1) Try.underlying41 rfl rfl rfl rfl rfl (cells_of ty41) (cells_of ty4) (cells_of ty9)
theorem oi34 : OpensU Try.prog 34 (List (Bool × ByteArray)) := by
  have := oi41
  exact ouSl (u := 41) rfl
theorem oi50 : OpensU Try.prog 50 (List ByteArray) := by
  have := oi9
  exact ouSl (u := 9) rfl
set_option maxRecDepth 100000 in
theorem lifted (os : Os) (started : os.Started) (H : Type) (enc : TypeId × Value → H) (F : Stop.Interp) :
    ReturnsInHanded {} Try.checked os 8 .any ((Rows.OpenSpec.upto Rows.partRendersSpec).pre6 enc Try.prog Try.f8 Rows.partRendersUptoRow.domain false) (((Rows.OpenSpec.upto Rows.partRendersSpec).at F).post enc Try.prog Try.f8 false true false false) := by
  refine returnsInHanded_of_cond (C := Try.checked) (s := (Rows.OpenSpec.upto Rows.partRendersSpec)) (k := Rows.uptoSmall) rfl own started (by kernel_rfl) Try.func8
    (OpenSpec.witness (enc := enc) (C := Try.checked) (s := (Rows.OpenSpec.upto Rows.partRendersSpec)) (k := Rows.uptoSmall) rfl false ⟨#[], #[.slice none 0 0, .slice none 0 0], []⟩ 8 (by kernel_rfl) (by kernel_rfl) (by kernel_rfl)
      (x := ([.nil, .nil], [], [])) (by kernel_rfl) rfl rfl) ?_
  intro W base args ds gs before hval0 hW hcnd hk0 _
  have hk : decide (Rows.uptoBulkAll (ds ++ gs) ≤ 1048576) = true := hk0
  have hval : ∀ (j : Nat) t v, Try.f8.params[j]? = some t → args[j]? = some v → Value.okWide Try.prog W .any base t v := hval0
  have hW' := hW
  obtain ⟨p, q, hA0, hV, rfl, hfz, hnd⟩ := hW
  have hA : DataW.TrodAll enc Try.prog W 0 (fun _ => true) true Try.f8.params.toList args.toList ds p := hA0
  rw [Try.params8] at hA hval
  obtain ⟨v0, vs0, d0, ds0, p0, q0, hargs, rfl, rfl, h0, r0⟩ := trodAll_cons hA
  obtain ⟨v1, vs1, d1, ds1, p1, q1, rfl, rfl, rfl, h1, r1⟩ := trodAll_cons r0
  obtain ⟨rfl, rfl, rfl⟩ := trodAll_nil r1
  obtain rfl : args = #[v0, v1] := by cases args; simp_all
  obtain ⟨rfl, rfl⟩ := trodVars_none hV
  obtain ⟨a0, len0, cap0, rfl⟩ := okWide_slice Try.underlying34 (hval 0 34 v0 rfl rfl)
  have k0 := h0
  have lt0 : ∀ x ∈ p0, x.block < W.heap.size := by obtain ⟨m, hm⟩ := k0; exact DataW.trod_lt m _ _ _ hm
  obtain ⟨fu0, hf0⟩ := h0
  obtain ⟨l0, ⟨A0, c0, hcs0, hc0, hS0⟩, oku0, wtu0⟩ := oi34.opens enc W 0 (fun _ => true) true fu0 _ _ hf0
  have wt0 : Wt.wt l0 ≤ Rows.uptoBulk d0 := wtu0
  simp only [Value.cells, List.cons.injEq, Value.slice.injEq, and_true] at hcs0
  obtain ⟨rfl, rfl, rfl⟩ := hcs0
  obtain ⟨a1, len1, cap1, rfl⟩ := okWide_slice Try.underlying50 (hval 1 50 v1 rfl rfl)
  have k1 := h1
  have lt1 : ∀ x ∈ p1, x.block < W.heap.size := by obtain ⟨m, hm⟩ := k1; exact DataW.trod_lt m _ _ _ hm
  obtain ⟨fu1, hf1⟩ := h1
  obtain ⟨l1, ⟨A1, c1, hcs1, hc1, hS1⟩, oku1, wtu1⟩ := oi50.opens enc W 0 (fun _ => true) true fu1 _ _ hf1
  have wt1 : Wt.wt l1 ≤ Rows.uptoBulk d1 := wtu1
  simp only [Value.cells, List.cons.injEq, Value.slice.injEq, and_true] at hcs1
  obtain ⟨rfl, rfl, rfl⟩ := hcs1
  have hk1 : Rows.uptoBulkAll ([d0, d1] ++ []) ≤ 1048576 := of_decide_eq_true hk
  simp only [List.cons_append, List.nil_append, Rows.uptoBulkAll] at hk1
  have ok0 : Rng.ok l0 := oku0 (by omega)
  have ok1 : Rng.ok l1 := oku1 (by omega)
  have hsum : Wt.wt l0 + Wt.wt l1 ≤ 1048576 := by omega
  clear hA0 hval0 hk0 hk
  refine (CallJ.law (CallJ.yes (winnowerlaw14_PartRenders_w (heapOf W) a0 l0.length cap0 l0 hS0 rfl hc0 a1 l1.length cap1 l1 hS1 rfl hc1 true (winnowerlaw14_PartRenders_true l0 l1 ok0 ok1 hsum)))).mono fun e W' ⟨he, bel⟩ => ?_
  subst he
  exact ⟨_, rfl, _, _, _, [], _, [], hW', trodAll_mk1 (shut_bool Try.underlying4 _), (trodAll_cons_mk (Below.trod laidOut (by kernel_rfl) (of_decide_eq_true (by kernel_rfl)) k0 bel lt0) (trodAll_cons_mk (Below.trod laidOut (by kernel_rfl) (of_decide_eq_true (by kernel_rfl)) k1 bel lt1) trodAll_mk0)), rfl, bel.frame _, fun h => by cases h⟩
theorem over : Rows.partRendersUptoRow.holds Try.pinned (Rows.OpenSpec.upto Rows.partRendersSpec) :=
  OpenClaim.holds_of_cond 8 Try.f8 rfl rfl rfl rfl rfl rfl rfl ⟨rfl, rfl, rfl, rfl, rfl⟩ rfl rfl rfl rfl rfl (by kernel_rfl) Try.func8 (by kernel_rfl)
    (of_decide_eq_true (by kernel_rfl)) (by unfold Func.isWrapper; first | (rw [if_pos (by decide +kernel)]; kernel_rfl) | (rw [if_neg (by decide +kernel)]; exact ⟨rfl, rfl⟩))
    (fun os started H enc _ F => lifted os started H enc F)
theorem proved : Rows.PartRendersUptoSaid := over
#print axioms proved
end Go.Proofs.Ytcbnamlioeiaeaa.partRendersUpto
namespace Go.Proofs.Ytcbnamlioeiaeaa
theorem partRendersUpto_holds : Rows.PartRendersUptoSaid := partRendersUpto.proved
end Go.Proofs.Ytcbnamlioeiaeaa
