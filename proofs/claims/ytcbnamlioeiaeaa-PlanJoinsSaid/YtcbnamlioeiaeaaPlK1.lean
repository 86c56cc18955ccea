/- printed by ex.py: walks -/
import Derived.Test.YtcbnamlioeiaeaaX3
import Derived.Test.YtcbnamlioeiaeaaT2
import Derived.Test.YtcbnamlioeiaeaaPlQ
import Derived.Test.YtcbnamlioeiaeaaPlK0
namespace Go.Proofs.Ytcbnamlioeiaeaa.FW
open Go Go.RowKit Go.Proofs
set_option linter.unusedVariables false
set_option linter.unusedSimpArgs false
set_option maxRecDepth 100000
set_option maxHeartbeats 4000000
attribute [local irreducible] OpsJ CodeJ OpJ OpQ OpP QuietJ CallJ HoldJ StepAt Src RC SlR repL
theorem plan_Join_w (R : IM) (A0_ : Option Addr) (n0_ c0_ : Nat) (p0_l : List (Int × Int × Int)) (hA0_ : SlR R A0_ p0_l) (hn0_ : p0_l.length = n0_) (hc0_ : n0_ ≤ c0_) (p1_at : Int) (p2_id : Int) (y : (List (Int × Int × Int)) × Bool) (h : plan_Join p0_l p1_at p2_id = some y) :
    CallJ Try.prog 24 #[.slice A0_ n0_ c0_, .int .i64 p1_at, .int .i64 p2_id] ⟨R, []⟩ (fun v D hs' => ∃ (A0 : Option Addr) (c0 : Nat) (cs0 : List Value), v = .tuple #[.slice A0 y.1.length c0, .bool y.2] ∧ repL IM.nil cs0 y.1 ∧ hs' = [.row 27 3 A0 y.1.length c0 cs0]) := by
  subst hn0_
  unfold plan_Join at h
  refine CallJ.of3 Try.func24 rfl Try.ntmps24 rfl (fun W0 => ?_)
  refine CodeJ.seq' ?_
  refine CodeJ.region ?_
  refine OpsJ.put rfl (OpJ.pure (OpP.assign rfl) ?_)
  refine OpsJ.put rfl (OpJ.pure (OpP.assign rfl) ?_)
  refine OpsJ.nil ?_
  refine CodeJ.seq' ?_
  refine CodeJ.seq' ?_
  refine HoldJ.start [] (by kernel_rfl) ?_
  refine HoldJ.take 0 rfl (by kernel_rfl) rfl (OpP.move rfl) ⟨(IM.le_refl _), (SubL.nil _)⟩ ?_
  obtain ⟨y21, hy22, h23⟩ := bind_ok h
  clear h
  refine HoldJ.step 1 rfl (by kernel_rfl) rfl (OpJ.call0 rfl (fun R18 hle19 hin20 => plan_Is_w R18 A0_ p0_l.length c0_ p0_l (SlR.mono hA0_ (IM.le_trans (IM.le_refl _) hle19)) rfl hc0_  _ hy22) ?_)
  rintro _ _ _ ⟨rfl, rfl⟩
  refine ⟨⟨(IM.le_refl _), (SubL.nil _)⟩, ?_⟩
  refine HoldJ.take 2 rfl (by kernel_rfl) rfl (OpP.not rfl) ⟨(IM.le_refl _), (SubL.nil _)⟩ ?_
  refine HoldJ.take 3 rfl (by kernel_rfl) rfl (OpP.move rfl) ⟨(IM.le_refl _), (SubL.nil _)⟩ ?_
  by_cases hc24 : y21 = true
  · rw [if_pos hc24] at h23
    refine HoldJ.take_y 4 rfl (by kernel_rfl) rfl rfl rfl rfl (congrArg Bool.not hc24) (OpP.move rfl) ⟨(IM.le_refl _), (SubL.nil _)⟩ ?_
    refine HoldJ.take_y 5 rfl (by kernel_rfl) rfl rfl rfl rfl (congrArg Bool.not hc24) (OpP.lss rfl rfl) ⟨(IM.le_refl _), (SubL.nil _)⟩ ?_
    refine HoldJ.take 6 rfl (by kernel_rfl) rfl (OpP.pick_f rfl (congrArg Bool.not hc24) rfl) ⟨(IM.le_refl _), (SubL.nil _)⟩ ?_
    refine HoldJ.take 7 rfl (by kernel_rfl) rfl (OpP.move rfl) ⟨(IM.le_refl _), (SubL.nil _)⟩ ?_
    by_cases hc25 : p1_at < 0
    · rw [if_pos hc25] at h23
      refine HoldJ.take_n 8 rfl (by kernel_rfl) rfl rfl rfl rfl (decide_eq_true hc25) ⟨(IM.le_refl _), (SubL.nil _)⟩ ?_
      refine HoldJ.take_n 9 rfl (by kernel_rfl) rfl rfl rfl rfl (decide_eq_true hc25) ⟨(IM.le_refl _), (SubL.nil _)⟩ ?_
      refine HoldJ.take_n 10 rfl (by kernel_rfl) rfl rfl rfl rfl (decide_eq_true hc25) ⟨(IM.le_refl _), (SubL.nil _)⟩ ?_
      refine HoldJ.take_n 11 rfl (by kernel_rfl) rfl rfl rfl rfl (decide_eq_true hc25) ⟨(IM.le_refl _), (SubL.nil _)⟩ ?_
      refine HoldJ.take_n 12 rfl (by kernel_rfl) rfl rfl rfl rfl (decide_eq_true hc25) ⟨(IM.le_refl _), (SubL.nil _)⟩ ?_
      refine HoldJ.take 13 rfl (by kernel_rfl) rfl (OpP.pick_t rfl (decide_eq_true hc25) rfl) ⟨(IM.le_refl _), (SubL.nil _)⟩ ?_
      refine HoldJ.take 14 rfl (by kernel_rfl) rfl (OpP.move rfl) ⟨(IM.le_refl _), (SubL.nil _)⟩ ?_
      refine HoldJ.take_n 15 rfl (by kernel_rfl) rfl rfl rfl rfl rfl ⟨(IM.le_refl _), (SubL.nil _)⟩ ?_
      refine HoldJ.take_n 16 rfl (by kernel_rfl) rfl rfl rfl rfl rfl ⟨(IM.le_refl _), (SubL.nil _)⟩ ?_
      refine HoldJ.take_n 17 rfl (by kernel_rfl) rfl rfl rfl rfl rfl ⟨(IM.le_refl _), (SubL.nil _)⟩ ?_
      refine HoldJ.take_n 18 rfl (by kernel_rfl) rfl rfl rfl rfl rfl ⟨(IM.le_refl _), (SubL.nil _)⟩ ?_
      refine HoldJ.take_n 19 rfl (by kernel_rfl) rfl rfl rfl rfl rfl ⟨(IM.le_refl _), (SubL.nil _)⟩ ?_
      refine HoldJ.take_n 20 rfl (by kernel_rfl) rfl rfl rfl rfl rfl ⟨(IM.le_refl _), (SubL.nil _)⟩ ?_
      refine HoldJ.take_n 21 rfl (by kernel_rfl) rfl rfl rfl rfl rfl ⟨(IM.le_refl _), (SubL.nil _)⟩ ?_
      refine HoldJ.take_n 22 rfl (by kernel_rfl) rfl rfl rfl rfl rfl ⟨(IM.le_refl _), (SubL.nil _)⟩ ?_
      refine HoldJ.take_n 23 rfl (by kernel_rfl) rfl rfl rfl rfl rfl ⟨(IM.le_refl _), (SubL.nil _)⟩ ?_
      refine HoldJ.take_n 24 rfl (by kernel_rfl) rfl rfl rfl rfl rfl ⟨(IM.le_refl _), (SubL.nil _)⟩ ?_
      refine HoldJ.take_n 25 rfl (by kernel_rfl) rfl rfl rfl rfl rfl ⟨(IM.le_refl _), (SubL.nil _)⟩ ?_
      refine HoldJ.take_n 26 rfl (by kernel_rfl) rfl rfl rfl rfl rfl ⟨(IM.le_refl _), (SubL.nil _)⟩ ?_
      refine HoldJ.take_n 27 rfl (by kernel_rfl) rfl rfl rfl rfl rfl ⟨(IM.le_refl _), (SubL.nil _)⟩ ?_
      refine HoldJ.take 28 rfl (by kernel_rfl) rfl (OpP.pick_t rfl rfl rfl) ⟨(IM.le_refl _), (SubL.nil _)⟩ ?_
      refine HoldJ.fin (by kernel_rfl) ?_
      refine CodeJ.cond_t rfl rfl ?_
      refine CodeJ.seq' ?_
      refine CodeJ.region ?_
      refine OpsJ.put rfl (OpJ.pure (OpP.move rfl) ?_)
      obtain ⟨y29, hy30, h31⟩ := bind_ok h23
      clear h23
      refine OpsJ.put rfl (OpJ.call1 rfl (fun R26 hle27 hin28 => slices_Clone_Span_w R26 A0_ p0_l.length c0_ p0_l (SlR.mono hA0_ (IM.le_trans (IM.le_refl _) hle27)) rfl hc0_  _ hy30) ?_)
      rintro _ _ _ ⟨A32, c33, cs34, rfl, hr35, rfl⟩
      refine OpsJ.put rfl (OpJ.pure (OpP.assign rfl) ?_)
      refine OpsJ.put rfl (OpJ.pure (OpP.assign rfl) ?_)
      refine OpsJ.nil ?_
      refine CodeJ.ret' ?_
      obtain rfl := Option.some.inj h31
      exact Ret.mk0 ⟨A32, c33, cs34, rfl, hr35, rfl⟩ (ResJ.two Try.results24 rfl rfl) (IM.le_refl _) (SubL.p0 (SubL.nil _))
    · rw [if_neg hc25] at h23
      refine HoldJ.take_y 8 rfl (by kernel_rfl) rfl rfl rfl rfl (decide_eq_false hc25) (OpP.move rfl) ⟨(IM.le_refl _), (SubL.nil _)⟩ ?_
      refine HoldJ.take_y 9 rfl (by kernel_rfl) rfl rfl rfl rfl (decide_eq_false hc25) (OpP.move rfl) ⟨(IM.le_refl _), (SubL.nil _)⟩ ?_
      refine HoldJ.take_y 10 rfl (by kernel_rfl) rfl rfl rfl rfl (decide_eq_false hc25) (OpP.len rfl) ⟨(IM.le_refl _), (SubL.nil _)⟩ ?_
      refine HoldJ.take_y 11 rfl (by kernel_rfl) rfl rfl rfl rfl (decide_eq_false hc25) (OpP.sub64 rfl rfl) ⟨(IM.le_refl _), (SubL.nil _)⟩ ?_
      refine HoldJ.take_y 12 rfl (by kernel_rfl) rfl rfl rfl rfl (decide_eq_false hc25) (OpP.geq rfl rfl) ⟨(IM.le_refl _), (SubL.nil _)⟩ ?_
      refine HoldJ.take 13 rfl (by kernel_rfl) rfl (OpP.pick_f rfl (decide_eq_false hc25) rfl) ⟨(IM.le_refl _), (SubL.nil _)⟩ ?_
      refine HoldJ.take 14 rfl (by kernel_rfl) rfl (OpP.move rfl) ⟨(IM.le_refl _), (SubL.nil _)⟩ ?_
      by_cases hc37 : p1_at ≥ w64 (((p0_l.length : Nat) : Int) - 1)
      · rw [if_pos hc37] at h23
        refine HoldJ.take_n 15 rfl (by kernel_rfl) rfl rfl rfl rfl (decide_eq_true hc37) ⟨(IM.le_refl _), (SubL.nil _)⟩ ?_
        refine HoldJ.take_n 16 rfl (by kernel_rfl) rfl rfl rfl rfl (decide_eq_true hc37) ⟨(IM.le_refl _), (SubL.nil _)⟩ ?_
        refine HoldJ.take_n 17 rfl (by kernel_rfl) rfl rfl rfl rfl (decide_eq_true hc37) ⟨(IM.le_refl _), (SubL.nil _)⟩ ?_
        refine HoldJ.take_n 18 rfl (by kernel_rfl) rfl rfl rfl rfl (decide_eq_true hc37) ⟨(IM.le_refl _), (SubL.nil _)⟩ ?_
        refine HoldJ.take_n 19 rfl (by kernel_rfl) rfl rfl rfl rfl (decide_eq_true hc37) ⟨(IM.le_refl _), (SubL.nil _)⟩ ?_
        refine HoldJ.take_n 20 rfl (by kernel_rfl) rfl rfl rfl rfl (decide_eq_true hc37) ⟨(IM.le_refl _), (SubL.nil _)⟩ ?_
        refine HoldJ.take_n 21 rfl (by kernel_rfl) rfl rfl rfl rfl (decide_eq_true hc37) ⟨(IM.le_refl _), (SubL.nil _)⟩ ?_
        refine HoldJ.take_n 22 rfl (by kernel_rfl) rfl rfl rfl rfl (decide_eq_true hc37) ⟨(IM.le_refl _), (SubL.nil _)⟩ ?_
        refine HoldJ.take_n 23 rfl (by kernel_rfl) rfl rfl rfl rfl (decide_eq_true hc37) ⟨(IM.le_refl _), (SubL.nil _)⟩ ?_
        refine HoldJ.take_n 24 rfl (by kernel_rfl) rfl rfl rfl rfl (decide_eq_true hc37) ⟨(IM.le_refl _), (SubL.nil _)⟩ ?_
        refine HoldJ.take_n 25 rfl (by kernel_rfl) rfl rfl rfl rfl (decide_eq_true hc37) ⟨(IM.le_refl _), (SubL.nil _)⟩ ?_
        refine HoldJ.take_n 26 rfl (by kernel_rfl) rfl rfl rfl rfl (decide_eq_true hc37) ⟨(IM.le_refl _), (SubL.nil _)⟩ ?_
        refine HoldJ.take_n 27 rfl (by kernel_rfl) rfl rfl rfl rfl (decide_eq_true hc37) ⟨(IM.le_refl _), (SubL.nil _)⟩ ?_
        refine HoldJ.take 28 rfl (by kernel_rfl) rfl (OpP.pick_t rfl (decide_eq_true hc37) rfl) ⟨(IM.le_refl _), (SubL.nil _)⟩ ?_
        refine HoldJ.fin (by kernel_rfl) ?_
        refine CodeJ.cond_t rfl rfl ?_
        refine CodeJ.seq' ?_
        refine CodeJ.region ?_
        refine OpsJ.put rfl (OpJ.pure (OpP.move rfl) ?_)
        obtain ⟨y41, hy42, h43⟩ := bind_ok h23
        clear h23
        refine OpsJ.put rfl (OpJ.call1 rfl (fun R38 hle39 hin40 => slices_Clone_Span_w R38 A0_ p0_l.length c0_ p0_l (SlR.mono hA0_ (IM.le_trans (IM.le_refl _) hle39)) rfl hc0_  _ hy42) ?_)
        rintro _ _ _ ⟨A44, c45, cs46, rfl, hr47, rfl⟩
        refine OpsJ.put rfl (OpJ.pure (OpP.assign rfl) ?_)
        refine OpsJ.put rfl (OpJ.pure (OpP.assign rfl) ?_)
        refine OpsJ.nil ?_
        refine CodeJ.ret' ?_
        obtain rfl := Option.some.inj h43
        exact Ret.mk0 ⟨A44, c45, cs46, rfl, hr47, rfl⟩ (ResJ.two Try.results24 rfl rfl) (IM.le_refl _) (SubL.p0 (SubL.nil _))
      · rw [if_neg hc37] at h23
        refine HoldJ.take_y 15 rfl (by kernel_rfl) rfl rfl rfl rfl (decide_eq_false hc37) (OpP.move rfl) ⟨(IM.le_refl _), (SubL.nil _)⟩ ?_
        refine HoldJ.take_y 16 rfl (by kernel_rfl) rfl rfl rfl rfl (decide_eq_false hc37) (OpP.move rfl) ⟨(IM.le_refl _), (SubL.nil _)⟩ ?_
        obtain ⟨x49, hx50, h51⟩ := bind_ok h23
        clear h23
        have hE52 : RC _ (some ((adr A0_).add (Int.toNat p1_at * Dat.size (Int × Int × Int)))) [.int .i64 x49.1, .int .i64 x49.2.1, .int .i64 x49.2.2] := SlR.getF (α := Int × Int × Int) hA0_ hx50
        refine HoldJ.take_y 17 rfl (by kernel_rfl) rfl rfl rfl rfl (decide_eq_false hc37) (OpP.ixR hA0_ rfl hx50 (by exact rfl) (by exact rfl) rfl rfl) ⟨(IM.le_refl _), (SubL.nil _)⟩ ?_
        refine HoldJ.take_y 18 rfl (by kernel_rfl) rfl rfl rfl rfl (decide_eq_false hc37) (OpP.fldAddr rfl (by exact rfl)) ⟨(IM.le_refl _), (SubL.nil _)⟩ ?_
        refine HoldJ.take_y 19 rfl (by kernel_rfl) rfl rfl rfl rfl (decide_eq_false hc37) (OpP.ldR (by exact rfl) hE52 (IM.le_refl _) rfl rfl) ⟨(IM.le_refl _), (SubL.nil _)⟩ ?_
        refine HoldJ.take_y 20 rfl (by kernel_rfl) rfl rfl rfl rfl (decide_eq_false hc37) (OpP.move rfl) ⟨(IM.le_refl _), (SubL.nil _)⟩ ?_
        refine HoldJ.take_y 21 rfl (by kernel_rfl) rfl rfl rfl rfl (decide_eq_false hc37) (OpP.move rfl) ⟨(IM.le_refl _), (SubL.nil _)⟩ ?_
        refine HoldJ.take_y 22 rfl (by kernel_rfl) rfl rfl rfl rfl (decide_eq_false hc37) (OpP.add64 rfl rfl) ⟨(IM.le_refl _), (SubL.nil _)⟩ ?_
        obtain ⟨x53, hx54, h55⟩ := bind_ok h51
        clear h51
        have hE56 : RC _ (some ((adr A0_).add (Int.toNat (w64 (p1_at + 1)) * Dat.size (Int × Int × Int)))) [.int .i64 x53.1, .int .i64 x53.2.1, .int .i64 x53.2.2] := SlR.getF (α := Int × Int × Int) hA0_ hx54
        refine HoldJ.take_y 23 rfl (by kernel_rfl) rfl rfl rfl rfl (decide_eq_false hc37) (OpP.ixR hA0_ rfl hx54 (by exact rfl) (by exact rfl) rfl rfl) ⟨(IM.le_refl _), (SubL.nil _)⟩ ?_
        refine HoldJ.take_y 24 rfl (by kernel_rfl) rfl rfl rfl rfl (decide_eq_false hc37) (OpP.fldAddr rfl (by exact rfl)) ⟨(IM.le_refl _), (SubL.nil _)⟩ ?_
        refine HoldJ.take_y 25 rfl (by kernel_rfl) rfl rfl rfl rfl (decide_eq_false hc37) (OpP.ldR (by exact rfl) hE56 (IM.le_refl _) rfl rfl) ⟨(IM.le_refl _), (SubL.nil _)⟩ ?_
        refine HoldJ.take_y 26 rfl (by kernel_rfl) rfl rfl rfl rfl (decide_eq_false hc37) (OpP.add64 rfl rfl) ⟨(IM.le_refl _), (SubL.nil _)⟩ ?_
        refine HoldJ.take_y 27 rfl (by kernel_rfl) rfl rfl rfl rfl (decide_eq_false hc37) (OpP.gtr rfl rfl) ⟨(IM.le_refl _), (SubL.nil _)⟩ ?_
        refine HoldJ.take 28 rfl (by kernel_rfl) rfl (OpP.pick_f rfl (decide_eq_false hc37) rfl) ⟨(IM.le_refl _), (SubL.nil _)⟩ ?_
        refine HoldJ.fin (by kernel_rfl) ?_
        by_cases hc57 : w64 (x49.2.2 + x53.2.2) > 512
        · rw [if_pos hc57] at h55
          refine CodeJ.cond_t rfl (decide_eq_true hc57) ?_
          refine CodeJ.seq' ?_
          refine CodeJ.region ?_
          refine OpsJ.put rfl (OpJ.pure (OpP.move rfl) ?_)
          obtain ⟨y61, hy62, h63⟩ := bind_ok h55
          clear h55
          refine OpsJ.put rfl (OpJ.call1 rfl (fun R58 hle59 hin60 => slices_Clone_Span_w R58 A0_ p0_l.length c0_ p0_l (SlR.mono hA0_ (IM.le_trans (IM.le_refl _) hle59)) rfl hc0_  _ hy62) ?_)
          rintro _ _ _ ⟨A64, c65, cs66, rfl, hr67, rfl⟩
          refine OpsJ.put rfl (OpJ.pure (OpP.assign rfl) ?_)
          refine OpsJ.put rfl (OpJ.pure (OpP.assign rfl) ?_)
          refine OpsJ.nil ?_
          refine CodeJ.ret' ?_
          obtain rfl := Option.some.inj h63
          exact Ret.mk0 ⟨A64, c65, cs66, rfl, hr67, rfl⟩ (ResJ.two Try.results24 rfl rfl) (IM.le_refl _) (SubL.p0 (SubL.nil _))
        · rw [if_neg hc57] at h55
          refine CodeJ.cond_f rfl (decide_eq_false hc57) ?_
          refine CodeJ.skip ?_
          refine CodeJ.seq' ?_
          refine HoldJ.start [] (by kernel_rfl) ?_
          refine HoldJ.take 0 rfl (by kernel_rfl) rfl (OpP.move rfl) ⟨(IM.le_refl _), (SubL.nil _)⟩ ?_
          refine HoldJ.take 1 rfl (by kernel_rfl) rfl (OpP.move rfl) ⟨(IM.le_refl _), (SubL.nil _)⟩ ?_
          refine HoldJ.take 2 rfl (by kernel_rfl) rfl (OpP.move rfl) ⟨(IM.le_refl _), (SubL.nil _)⟩ ?_
          have hE74 : RC _ (some ((adr A0_).add (Int.toNat p1_at * Dat.size (Int × Int × Int)))) [.int .i64 x49.1, .int .i64 x49.2.1, .int .i64 x49.2.2] := SlR.getF (α := Int × Int × Int) hA0_ hx50
          refine HoldJ.take 3 rfl (by kernel_rfl) rfl (OpP.ixR hA0_ rfl hx50 (by exact rfl) (by exact rfl) rfl rfl) ⟨(IM.le_refl _), (SubL.nil _)⟩ ?_
          refine HoldJ.take 4 rfl (by kernel_rfl) rfl (OpP.fldAddr rfl (by exact rfl)) ⟨(IM.le_refl _), (SubL.nil _)⟩ ?_
          refine HoldJ.take 5 rfl (by kernel_rfl) rfl (OpP.ldR (by exact rfl) hE74 (IM.le_refl _) rfl rfl) ⟨(IM.le_refl _), (SubL.nil _)⟩ ?_
          refine HoldJ.take 6 rfl (by kernel_rfl) rfl (OpP.move rfl) ⟨(IM.le_refl _), (SubL.nil _)⟩ ?_
          refine HoldJ.take 7 rfl (by kernel_rfl) rfl (OpP.move rfl) ⟨(IM.le_refl _), (SubL.nil _)⟩ ?_
          have hE75 : RC _ (some ((adr A0_).add (Int.toNat p1_at * Dat.size (Int × Int × Int)))) [.int .i64 x49.1, .int .i64 x49.2.1, .int .i64 x49.2.2] := SlR.getF (α := Int × Int × Int) hA0_ hx50
          refine HoldJ.take 8 rfl (by kernel_rfl) rfl (OpP.ixR hA0_ rfl hx50 (by exact rfl) (by exact rfl) rfl rfl) ⟨(IM.le_refl _), (SubL.nil _)⟩ ?_
          refine HoldJ.take 9 rfl (by kernel_rfl) rfl (OpP.fldAddr rfl (by exact rfl)) ⟨(IM.le_refl _), (SubL.nil _)⟩ ?_
          refine HoldJ.take 10 rfl (by kernel_rfl) rfl (OpP.ldR (by exact rfl) hE75 (IM.le_refl _) rfl rfl) ⟨(IM.le_refl _), (SubL.nil _)⟩ ?_
          refine HoldJ.take 11 rfl (by kernel_rfl) rfl (OpP.move rfl) ⟨(IM.le_refl _), (SubL.nil _)⟩ ?_
          refine HoldJ.take 12 rfl (by kernel_rfl) rfl (OpP.move rfl) ⟨(IM.le_refl _), (SubL.nil _)⟩ ?_
          refine HoldJ.take 13 rfl (by kernel_rfl) rfl (OpP.add64 rfl rfl) ⟨(IM.le_refl _), (SubL.nil _)⟩ ?_
          have hE76 : RC _ (some ((adr A0_).add (Int.toNat (w64 (p1_at + 1)) * Dat.size (Int × Int × Int)))) [.int .i64 x53.1, .int .i64 x53.2.1, .int .i64 x53.2.2] := SlR.getF (α := Int × Int × Int) hA0_ hx54
          refine HoldJ.take 14 rfl (by kernel_rfl) rfl (OpP.ixR hA0_ rfl hx54 (by exact rfl) (by exact rfl) rfl rfl) ⟨(IM.le_refl _), (SubL.nil _)⟩ ?_
          refine HoldJ.take 15 rfl (by kernel_rfl) rfl (OpP.fldAddr rfl (by exact rfl)) ⟨(IM.le_refl _), (SubL.nil _)⟩ ?_
          refine HoldJ.take 16 rfl (by kernel_rfl) rfl (OpP.ldR (by exact rfl) hE76 (IM.le_refl _) rfl rfl) ⟨(IM.le_refl _), (SubL.nil _)⟩ ?_
          refine HoldJ.take 17 rfl (by kernel_rfl) rfl (OpP.add64 rfl rfl) ⟨(IM.le_refl _), (SubL.nil _)⟩ ?_
          refine HoldJ.take 18 rfl (by kernel_rfl) rfl (OpP.buildC (cs := [.int .i64 p2_id, .int .i64 x49.2.1, .int .i64 (w64 (x49.2.2 + x53.2.2))]) rfl (by exact rfl) (by exact rfl)) ⟨(IM.le_refl _), (SubL.nil _)⟩ ?_
          refine HoldJ.step 19 rfl (by kernel_rfl) rfl (OpJ.alloc (fun g77 => ?_))
          refine ⟨⟨(IM.le_refl _), (SubL.nil _)⟩, ?_⟩
          refine HoldJ.step_act 20 rfl (by kernel_rfl) (OpJ.storeC (us := [.int .i64 p2_id, .int .i64 x49.2.1, .int .i64 (w64 (x49.2.2 + x53.2.2))]) (cs := [.int .i64 p2_id, .int .i64 x49.2.1, .int .i64 (w64 (x49.2.2 + x53.2.2))]) rfl rfl rfl (List.Perm.refl _) (by exact rfl) rfl rfl rfl ?_)
          refine ⟨⟨(IM.le_refl _), (SubL.nil _)⟩, ?_⟩
          refine HoldJ.fin (by kernel_rfl) ?_
          refine CodeJ.seq' ?_
          refine HoldJ.start [.blk g77 [.int .i64 p2_id, .int .i64 x49.2.1, .int .i64 (w64 (x49.2.2 + x53.2.2))] 27] (by kernel_rfl) ?_
          refine HoldJ.take 0 rfl (by kernel_rfl) rfl (OpP.move rfl) ⟨(IM.le_refl _), (SubL.p0 (SubL.nil _))⟩ ?_
          refine HoldJ.take 1 rfl (by kernel_rfl) rfl (OpP.move rfl) ⟨(IM.le_refl _), (SubL.p0 (SubL.nil _))⟩ ?_
          obtain ⟨q111, hq112, h114⟩ := bind_ok h55
          clear h55
          have hA113 : SlR R A0_ q111 := cutA0 hA0_ hq112
          refine HoldJ.take 2 rfl (by kernel_rfl) rfl (OpP.cutHi hq112 rfl (hcap rfl hc0_) rfl rfl) ⟨(IM.le_refl _), (SubL.p0 (SubL.nil _))⟩ ?_
          refine HoldJ.take 3 rfl (by kernel_rfl) rfl (OpP.loadN_blk (by exact rfl) rfl (List.Mem.head _) (by exact rfl)) ⟨(IM.le_refl _), (SubL.p0 (SubL.nil _))⟩ ?_
          refine HoldJ.take 5 rfl (by kernel_rfl) rfl (OpP.move rfl) ⟨(IM.le_refl _), (SubL.p0 (SubL.nil _))⟩ ?_
          refine HoldJ.take 6 rfl (by kernel_rfl) rfl (OpP.move rfl) ⟨(IM.le_refl _), (SubL.p0 (SubL.nil _))⟩ ?_
          refine HoldJ.take 7 rfl (by kernel_rfl) rfl (OpP.add64 rfl rfl) ⟨(IM.le_refl _), (SubL.p0 (SubL.nil _))⟩ ?_
          obtain ⟨q115, hq116, h118⟩ := bind_ok h114
          clear h114
          have hA117 : SlR R (cutA A0_ (Int.toNat (w64 (p1_at + 2))) c0_ 3) q115 := SlR.cut hA0_ hq116 (hcap rfl hc0_)
          refine HoldJ.take 8 rfl (by kernel_rfl) rfl (OpP.cutLo hq116 rfl rfl rfl) ⟨(IM.le_refl _), (SubL.p0 (SubL.nil _))⟩ ?_
          have hr120 : repL IM.nil [.int .i64 p2_id, .int .i64 x49.2.1, .int .i64 (w64 (x49.2.2 + x53.2.2))] ([(p2_id, x49.2.1, w64 (x49.2.2 + x53.2.2))] : List (Int × Int × Int)) := (repL_cons (c1 := [.int .i64 p2_id, .int .i64 x49.2.1, .int .i64 (w64 (x49.2.2 + x53.2.2))]) (show Dat.rep _ _ (p2_id, x49.2.1, w64 (x49.2.2 + x53.2.2)) from ⟨[.int .i64 p2_id], [.int .i64 x49.2.1, .int .i64 (w64 (x49.2.2 + x53.2.2))], rfl, rfl, ⟨[.int .i64 x49.2.1], [.int .i64 (w64 (x49.2.2 + x53.2.2))], rfl, rfl, rfl⟩⟩) (repL_nil _))
          refine HoldJ.step 4 rfl (by kernel_rfl) rfl (OpJ.buildSliceC (cs := [.int .i64 p2_id, .int .i64 x49.2.1, .int .i64 (w64 (x49.2.2 + x53.2.2))]) rfl rfl (by exact rfl) (by exact rfl) (by exact rfl) (by exact rfl) (fun g119 => ?_))
          refine ⟨⟨(IM.le_refl _), (SubL.p1 (SubL.nil _))⟩, ?_⟩
          refine HoldJ.rowle (List.Perm.refl _) (fun hcap126 hlen127 => ?_)
          refine HoldJ.freeze (List.Perm.refl _) (fun D122 hd123 hin124 => ?_)
          have hA125 : SlR (R.or D122) (some ⟨g119, 0, none⟩) ([(p2_id, x49.2.1, w64 (x49.2.2 + x53.2.2))] : List (Int × Int × Int)) := SlR.of_row (RC.mono hin124 (IM.le_or_right hd123)) hr120 (IM.le_nil _)
          have hr129 : repL (R.or D122) [.slice A0_ q111.length c0_, .slice (some ⟨g119, 0, none⟩) 1 1, .slice (cutA A0_ (Int.toNat (w64 (p1_at + 2))) c0_ 3) q115.length (c0_ - Int.toNat (w64 (p1_at + 2)))] ([q111, ([(p2_id, x49.2.1, w64 (x49.2.2 + x53.2.2))] : List (Int × Int × Int)), q115] : List (List (Int × Int × Int))) := (repL_cons (c1 := [.slice A0_ q111.length c0_]) (show Dat.rep _ _ q111 from ⟨A0_, c0_, rfl, (sub_cap hq112 (hcap rfl hc0_)), SlR.mono hA113 (IM.le_trans (IM.le_refl _) (IM.le_or _ _))⟩) (repL_cons (c1 := [.slice (some ⟨g119, 0, none⟩) 1 1]) (show Dat.rep _ _ ([(p2_id, x49.2.1, w64 (x49.2.2 + x53.2.2))] : List (Int × Int × Int)) from ⟨(some ⟨g119, 0, none⟩), 1, rfl, hcap126, SlR.mono hA125 (IM.le_refl _)⟩) (repL_cons (c1 := [.slice (cutA A0_ (Int.toNat (w64 (p1_at + 2))) c0_ 3) q115.length (c0_ - Int.toNat (w64 (p1_at + 2)))]) (show Dat.rep _ _ q115 from ⟨(cutA A0_ (Int.toNat (w64 (p1_at + 2))) c0_ 3), (c0_ - Int.toNat (w64 (p1_at + 2))), rfl, (sub_cap hq116 (hcap rfl hc0_)), SlR.mono hA117 (IM.le_trans (IM.le_refl _) (IM.le_or _ _))⟩) (repL_nil _))))
          refine HoldJ.step 9 rfl (by kernel_rfl) rfl (OpJ.buildSliceC (cs := [.slice A0_ q111.length c0_, .slice (some ⟨g119, 0, none⟩) 1 1, .slice (cutA A0_ (Int.toNat (w64 (p1_at + 2))) c0_ 3) q115.length (c0_ - Int.toNat (w64 (p1_at + 2)))]) rfl rfl (by exact rfl) (by exact rfl) (by exact rfl) (by exact rfl) (fun g128 => ?_))
          refine ⟨⟨(IM.le_trans (IM.le_refl _) (IM.le_or _ _)), (SubL.p1 (SubL.nil _))⟩, ?_⟩
          refine HoldJ.rowle (List.Perm.refl _) (fun hcap131 _ => ?_)
          obtain ⟨y135, hy136, h137⟩ := bind_ok h118
          clear h118
          refine HoldJ.step 10 rfl (by kernel_rfl) rfl (OpJ.call1 rfl (fun R132 hle133 hin134 => slices_Concat_Span_w R132 (some ⟨g128, 0, none⟩) 3 3 ([q111, ([(p2_id, x49.2.1, w64 (x49.2.2 + x53.2.2))] : List (Int × Int × Int)), q115] : List (List (Int × Int × Int))) (SlR.of_row (inRow hin134 (List.Mem.head _)) hr129 (IM.le_trans (IM.le_refl _) hle133)) rfl hcap131  _ hy136) ?_)
          rintro _ _ _ ⟨A138, c139, cs140, rfl, hr141, rfl⟩
          refine ⟨⟨(IM.le_trans (IM.le_refl _) (IM.le_or _ _)), (SubL.p2 (SubL.nil _))⟩, ?_⟩
          refine HoldJ.take 11 rfl (by kernel_rfl) rfl (OpP.assign rfl) ⟨(IM.le_trans (IM.le_refl _) (IM.le_or _ _)), (SubL.p2 (SubL.nil _))⟩ ?_
          refine HoldJ.take 12 rfl (by kernel_rfl) rfl (OpP.assign rfl) ⟨(IM.le_trans (IM.le_refl _) (IM.le_or _ _)), (SubL.p2 (SubL.nil _))⟩ ?_
          refine HoldJ.fin (by kernel_rfl) ?_
          refine CodeJ.ret' ?_
          obtain rfl := Option.some.inj h137
          exact Ret.mk0 ⟨A138, c139, cs140, rfl, hr141, rfl⟩ (ResJ.two Try.results24 rfl rfl) (IM.le_trans (IM.le_refl _) (IM.le_or _ _)) (SubL.p0 (SubL.nil _))
  · rw [if_neg hc24] at h23
    refine HoldJ.take_n 4 rfl (by kernel_rfl) rfl rfl rfl rfl (congrArg Bool.not (Bool.eq_false_iff.2 hc24)) ⟨(IM.le_refl _), (SubL.nil _)⟩ ?_
    refine HoldJ.take_n 5 rfl (by kernel_rfl) rfl rfl rfl rfl (congrArg Bool.not (Bool.eq_false_iff.2 hc24)) ⟨(IM.le_refl _), (SubL.nil _)⟩ ?_
    refine HoldJ.take 6 rfl (by kernel_rfl) rfl (OpP.pick_t rfl (congrArg Bool.not (Bool.eq_false_iff.2 hc24)) rfl) ⟨(IM.le_refl _), (SubL.nil _)⟩ ?_
    refine HoldJ.take 7 rfl (by kernel_rfl) rfl (OpP.move rfl) ⟨(IM.le_refl _), (SubL.nil _)⟩ ?_
    refine HoldJ.take_n 8 rfl (by kernel_rfl) rfl rfl rfl rfl rfl ⟨(IM.le_refl _), (SubL.nil _)⟩ ?_
    refine HoldJ.take_n 9 rfl (by kernel_rfl) rfl rfl rfl rfl rfl ⟨(IM.le_refl _), (SubL.nil _)⟩ ?_
    refine HoldJ.take_n 10 rfl (by kernel_rfl) rfl rfl rfl rfl rfl ⟨(IM.le_refl _), (SubL.nil _)⟩ ?_
    refine HoldJ.take_n 11 rfl (by kernel_rfl) rfl rfl rfl rfl rfl ⟨(IM.le_refl _), (SubL.nil _)⟩ ?_
    refine HoldJ.take_n 12 rfl (by kernel_rfl) rfl rfl rfl rfl rfl ⟨(IM.le_refl _), (SubL.nil _)⟩ ?_
    refine HoldJ.take 13 rfl (by kernel_rfl) rfl (OpP.pick_t rfl rfl rfl) ⟨(IM.le_refl _), (SubL.nil _)⟩ ?_
    refine HoldJ.take 14 rfl (by kernel_rfl) rfl (OpP.move rfl) ⟨(IM.le_refl _), (SubL.nil _)⟩ ?_
    refine HoldJ.take_n 15 rfl (by kernel_rfl) rfl rfl rfl rfl rfl ⟨(IM.le_refl _), (SubL.nil _)⟩ ?_
    refine HoldJ.take_n 16 rfl (by kernel_rfl) rfl rfl rfl rfl rfl ⟨(IM.le_refl _), (SubL.nil _)⟩ ?_
    refine HoldJ.take_n 17 rfl (by kernel_rfl) rfl rfl rfl rfl rfl ⟨(IM.le_refl _), (SubL.nil _)⟩ ?_
    refine HoldJ.take_n 18 rfl (by kernel_rfl) rfl rfl rfl rfl rfl ⟨(IM.le_refl _), (SubL.nil _)⟩ ?_
    refine HoldJ.take_n 19 rfl (by kernel_rfl) rfl rfl rfl rfl rfl ⟨(IM.le_refl _), (SubL.nil _)⟩ ?_
    refine HoldJ.take_n 20 rfl (by kernel_rfl) rfl rfl rfl rfl rfl ⟨(IM.le_refl _), (SubL.nil _)⟩ ?_
    refine HoldJ.take_n 21 rfl (by kernel_rfl) rfl rfl rfl rfl rfl ⟨(IM.le_refl _), (SubL.nil _)⟩ ?_
    refine HoldJ.take_n 22 rfl (by kernel_rfl) rfl rfl rfl rfl rfl ⟨(IM.le_refl _), (SubL.nil _)⟩ ?_
    refine HoldJ.take_n 23 rfl (by kernel_rfl) rfl rfl rfl rfl rfl ⟨(IM.le_refl _), (SubL.nil _)⟩ ?_
    refine HoldJ.take_n 24 rfl (by kernel_rfl) rfl rfl rfl rfl rfl ⟨(IM.le_refl _), (SubL.nil _)⟩ ?_
    refine HoldJ.take_n 25 rfl (by kernel_rfl) rfl rfl rfl rfl rfl ⟨(IM.le_refl _), (SubL.nil _)⟩ ?_
    refine HoldJ.take_n 26 rfl (by kernel_rfl) rfl rfl rfl rfl rfl ⟨(IM.le_refl _), (SubL.nil _)⟩ ?_
    refine HoldJ.take_n 27 rfl (by kernel_rfl) rfl rfl rfl rfl rfl ⟨(IM.le_refl _), (SubL.nil _)⟩ ?_
    refine HoldJ.take 28 rfl (by kernel_rfl) rfl (OpP.pick_t rfl rfl rfl) ⟨(IM.le_refl _), (SubL.nil _)⟩ ?_
    refine HoldJ.fin (by kernel_rfl) ?_
    refine CodeJ.cond_t rfl rfl ?_
    refine CodeJ.seq' ?_
    refine CodeJ.region ?_
    refine OpsJ.put rfl (OpJ.pure (OpP.move rfl) ?_)
    obtain ⟨y146, hy147, h148⟩ := bind_ok h23
    clear h23
    refine OpsJ.put rfl (OpJ.call1 rfl (fun R143 hle144 hin145 => slices_Clone_Span_w R143 A0_ p0_l.length c0_ p0_l (SlR.mono hA0_ (IM.le_trans (IM.le_refl _) hle144)) rfl hc0_  _ hy147) ?_)
    rintro _ _ _ ⟨A149, c150, cs151, rfl, hr152, rfl⟩
    refine OpsJ.put rfl (OpJ.pure (OpP.assign rfl) ?_)
    refine OpsJ.put rfl (OpJ.pure (OpP.assign rfl) ?_)
    refine OpsJ.nil ?_
    refine CodeJ.ret' ?_
    obtain rfl := Option.some.inj h148
    exact Ret.mk0 ⟨A149, c150, cs151, rfl, hr152, rfl⟩ (ResJ.two Try.results24 rfl rfl) (IM.le_refl _) (SubL.p0 (SubL.nil _))
theorem winnowerlaw19_PlanJoins_w (R : IM) (A0_ : Option Addr) (n0_ c0_ : Nat) (p0_l : List (Int × Int × Int)) (hA0_ : SlR R A0_ p0_l) (hn0_ : p0_l.length = n0_) (hc0_ : n0_ ≤ c0_) (y : Bool) (h : winnowerlaw19_PlanJoins p0_l = some y) :
    CallJ Try.prog 7 #[.slice A0_ n0_ c0_] ⟨R, []⟩ (fun v D hs' => v = .bool y ∧ hs' = []) := by
  subst hn0_
  unfold winnowerlaw19_PlanJoins at h
  refine CallJ.of1 Try.func7 rfl Try.ntmps7 rfl (fun W0 => ?_)
  refine CodeJ.seq' ?_
  refine CodeJ.region ?_
  refine OpsJ.put rfl (OpJ.pure (OpP.assign rfl) ?_)
  refine OpsJ.nil ?_
  refine CodeJ.seq' ?_
  refine CodeJ.seq' ?_
  refine CodeJ.region ?_
  refine OpsJ.put rfl (OpJ.pure (OpP.move rfl) ?_)
  refine OpsJ.put rfl (OpJ.pure (OpP.len rfl) ?_)
  refine OpsJ.put rfl (OpJ.pure (OpP.gtr rfl rfl) ?_)
  refine OpsJ.put rfl (OpJ.pure (OpP.move rfl) ?_)
  by_cases hc1 : ((p0_l.length : Nat) : Int) > 60
  · rw [if_pos hc1] at h
    refine OpsJ.guard_n rfl rfl rfl rfl (decide_eq_true hc1) ?_
    refine OpsJ.guard_n rfl rfl rfl rfl (decide_eq_true hc1) ?_
    refine OpsJ.guard_n rfl rfl rfl rfl (decide_eq_true hc1) ?_
    refine OpsJ.put rfl (OpJ.pure (OpP.pick_t rfl (decide_eq_true hc1) rfl) ?_)
    refine OpsJ.put rfl (OpJ.pure (OpP.move rfl) ?_)
    refine OpsJ.guard_n rfl rfl rfl rfl rfl ?_
    refine OpsJ.guard_n rfl rfl rfl rfl rfl ?_
    refine OpsJ.guard_n rfl rfl rfl rfl rfl ?_
    refine OpsJ.put rfl (OpJ.pure (OpP.pick_t rfl rfl rfl) ?_)
    refine OpsJ.nil ?_
    refine CodeJ.cond_t rfl rfl ?_
    refine CodeJ.seq' ?_
    refine CodeJ.region ?_
    refine OpsJ.put rfl (OpJ.pure (OpP.assign rfl) ?_)
    refine OpsJ.nil ?_
    refine CodeJ.ret' ?_
    obtain rfl := Option.some.inj h
    exact Ret.mk0 ⟨rfl, rfl⟩ (ResJ.one Try.results7 rfl) (IM.le_refl _) (SubL.nil _)
  · rw [if_neg hc1] at h
    refine OpsJ.guard_y rfl rfl rfl rfl (decide_eq_false hc1) ?_
    refine OpsJ.put rfl (OpJ.pure (OpP.move rfl) ?_)
    refine OpsJ.guard_y rfl rfl rfl rfl (decide_eq_false hc1) ?_
    obtain ⟨y5, hy6, h7⟩ := bind_ok h
    clear h
    refine OpsJ.put rfl (OpJ.call0 rfl (fun R2 hle3 hin4 => winnowerref19_Is_w R2 A0_ p0_l.length c0_ p0_l (SlR.mono hA0_ (IM.le_trans (IM.le_refl _) hle3)) rfl hc0_  _ hy6) ?_)
    rintro _ _ _ ⟨rfl, rfl⟩
    refine OpsJ.guard_y rfl rfl rfl rfl (decide_eq_false hc1) ?_
    refine OpsJ.put rfl (OpJ.pure (OpP.not rfl) ?_)
    refine OpsJ.put rfl (OpJ.pure (OpP.pick_f rfl (decide_eq_false hc1) rfl) ?_)
    refine OpsJ.put rfl (OpJ.pure (OpP.move rfl) ?_)
    by_cases hc8 : y5 = true
    · rw [if_pos hc8] at h7
      refine OpsJ.guard_y rfl rfl rfl rfl (congrArg Bool.not hc8) ?_
      refine OpsJ.put rfl (OpJ.pure (OpP.move rfl) ?_)
      refine OpsJ.guard_y rfl rfl rfl rfl (congrArg Bool.not hc8) ?_
      refine OpsJ.put rfl (OpJ.pure (OpP.len rfl) ?_)
      refine OpsJ.guard_y rfl rfl rfl rfl (congrArg Bool.not hc8) ?_
      refine OpsJ.put rfl (OpJ.pure (OpP.eql rfl rfl) ?_)
      refine OpsJ.put rfl (OpJ.pure (OpP.pick_f rfl (congrArg Bool.not hc8) rfl) ?_)
      refine OpsJ.nil ?_
      by_cases hc9 : ((p0_l.length : Nat) : Int) = 0
      · rw [if_pos hc9] at h7
        refine CodeJ.cond_t rfl (decide_eq_true hc9) ?_
        refine CodeJ.seq' ?_
        refine CodeJ.region ?_
        refine OpsJ.put rfl (OpJ.pure (OpP.assign rfl) ?_)
        refine OpsJ.nil ?_
        refine CodeJ.ret' ?_
        obtain rfl := Option.some.inj h7
        exact Ret.mk0 ⟨rfl, rfl⟩ (ResJ.one Try.results7 rfl) (IM.le_refl _) (SubL.nil _)
      · rw [if_neg hc9] at h7
        refine CodeJ.cond_f rfl (decide_eq_false hc9) ?_
        refine CodeJ.skip ?_
        refine CodeJ.seq' ?_
        refine CodeJ.region ?_
        refine OpsJ.put rfl (OpJ.pure (OpP.assign rfl) ?_)
        refine OpsJ.nil ?_
        refine CodeJ.seq' ?_
        refine CodeJ.seq' ?_
        refine CodeJ.region ?_
        refine OpsJ.put rfl (OpJ.pure (OpP.assign rfl) ?_)
        refine OpsJ.nil ?_
        obtain ⟨t32, hl33, h34⟩ := bind_ok h7
        clear h7
        refine CodeJ.mid (fun e s => ∃ (id_29 : Int), id_29 = t32 ∧ e = [(0, .slice A0_ p0_l.length c0_), (3, .int .i64 id_29)] ∧ s = ⟨R, []⟩) ?_ ?_
        · refine CodeJ.block ?_
          refine CodeJ.loopM hl33 (fun (id_22, i_23) e s => e = [(0, .slice A0_ p0_l.length c0_), (3, .int .i64 id_22), (4, .int .i64 i_23)] ∧ s = ⟨R, []⟩) ⟨rfl, rfl⟩ (SubE.cons rfl (SubE.cons rfl (SubE.cons rfl (SubE.nil _)))) (SubL.nil _) ?_
          rintro ⟨id_22, i_23⟩ _ _ _ ⟨rfl, rfl⟩ h30 hne31
          (try dsimp only at h30); unfold winnowerlaw19_PlanJoins_l0 at h30
          refine CodeJ.seq' ?_
          refine CodeJ.seq' ?_
          refine CodeJ.region ?_
          refine OpsJ.put rfl (OpJ.pure (OpP.move rfl) ?_)
          refine OpsJ.put rfl (OpJ.pure (OpP.move rfl) ?_)
          refine OpsJ.put rfl (OpJ.pure (OpP.len rfl) ?_)
          refine OpsJ.put rfl (OpJ.pure (OpP.lss rfl rfl) ?_)
          refine OpsJ.nil ?_
          by_cases hc35 : i_23 < ((p0_l.length : Nat) : Int)
          · rw [if_pos hc35] at h30
            refine CodeJ.cond_t rfl (decide_eq_true hc35) ?_
            refine CodeJ.skip ?_
            refine CodeJ.seq' ?_
            refine CodeJ.block ?_
            refine CodeJ.region ?_
            refine OpsJ.put rfl (OpJ.pure (OpP.move rfl) ?_)
            refine OpsJ.put rfl (OpJ.pure (OpP.move rfl) ?_)
            refine OpsJ.put rfl (OpJ.pure (OpP.move rfl) ?_)
            obtain ⟨x36, hx37, h38⟩ := bind_ok h30
            clear h30
            have hE39 : RC _ (some ((adr A0_).add (Int.toNat i_23 * Dat.size (Int × Int × Int)))) [.int .i64 x36.1, .int .i64 x36.2.1, .int .i64 x36.2.2] := SlR.getF (α := Int × Int × Int) hA0_ hx37
            refine OpsJ.put rfl (OpJ.pure (OpP.ixR hA0_ rfl hx37 (by exact rfl) (by exact rfl) rfl rfl) ?_)
            refine OpsJ.put rfl (OpJ.pure (OpP.fldAddr rfl (by exact rfl)) ?_)
            refine OpsJ.put rfl (OpJ.pure (OpP.ldR (by exact rfl) hE39 (IM.le_refl _) rfl rfl) ?_)
            refine OpsJ.put rfl (OpJ.pure (OpP.max rfl rfl) ?_)
            refine OpsJ.put rfl (OpJ.pure (OpP.assign rfl) ?_)
            refine OpsJ.nil ?_
            refine CodeJ.region ?_
            refine OpsJ.put rfl (OpJ.pure (OpP.move rfl) ?_)
            refine OpsJ.put rfl (OpJ.pure (OpP.add64 rfl rfl) ?_)
            refine OpsJ.put rfl (OpJ.pure (OpP.assign rfl) ?_)
            refine OpsJ.nil ?_
            obtain rfl := Option.some.inj h38
            exact ⟨_, _, _, _, rfl, ⟨rfl, rfl⟩, IM.le_refl _, (SubE.cons rfl (SubE.cons rfl (SubE.cons rfl (SubE.nil _)))), (SubL.nil _)⟩
          · rw [if_neg hc35] at h30
            refine CodeJ.cond_f rfl (decide_eq_false hc35) ?_
            refine CodeJ.exit rfl ?_
            obtain rfl := Option.some.inj h30
            have ht40 := hne31 _ rfl
            exact ⟨_, _, _, ⟨id_22, ht40, rfl, rfl⟩, IM.le_refl _, (SubE.cons rfl (SubE.cons rfl (SubE.nil _))), (SubL.nil _)⟩
        · rintro _ _ ⟨id_29, rfl, rfl, rfl⟩
          (try dsimp only at h34)
          refine CodeJ.seq' ?_
          refine CodeJ.seq' ?_
          refine CodeJ.region ?_
          refine OpsJ.put rfl (OpJ.pure (OpP.move rfl) ?_)
          refine OpsJ.put rfl (OpJ.pure (OpP.gtr rfl rfl) ?_)
          refine OpsJ.nil ?_
          by_cases hc41 : id_29 > 1073741824
          · rw [if_pos hc41] at h34
            refine CodeJ.cond_t rfl (decide_eq_true hc41) ?_
            refine CodeJ.seq' ?_
            refine CodeJ.region ?_
            obtain ⟨y45, hy46, h47⟩ := bind_ok h34
            clear h34
            refine OpsJ.put rfl (OpJ.call0 rfl (fun R42 hle43 hin44 => winnowerlaw19_known_w R42   _ hy46) ?_)
            rintro _ _ _ ⟨rfl, rfl⟩
            refine OpsJ.put rfl (OpJ.pure (OpP.assign rfl) ?_)
            refine OpsJ.nil ?_
            refine CodeJ.ret' ?_
            obtain rfl := Option.some.inj h47
            exact Ret.mk0 ⟨rfl, rfl⟩ (ResJ.one Try.results7 rfl) (IM.le_refl _) (SubL.nil _)
          · rw [if_neg hc41] at h34
            refine CodeJ.cond_f rfl (decide_eq_false hc41) ?_
            refine CodeJ.skip ?_
            refine CodeJ.seq' ?_
            refine CodeJ.region ?_
            have hr49 : repL IM.nil [] ([] : List (Int × Int × Int)) := (repL_nil _)
            refine OpsJ.put rfl (OpJ.buildSliceC (cs := []) rfl rfl (by exact rfl) (by exact rfl) (by exact rfl) (by exact rfl) (fun g48 => ?_))
            refine OpsJ.put rfl (OpJ.pure (OpP.move rfl) ?_)
            obtain ⟨q51, hq52, h53⟩ := bind_ok h34
            clear h34
            obtain ⟨es54, hs55, hp56⟩ := SlR.out hA0_
            have hr59 : repL IM.nil (([] : List Value) ++ es54) q51 := app_rep hq52 hr49 (flat_rep hp56)
            refine OpsJ.put rfl (OpJ.appW hq52 rfl rfl (Src.ofR (RC.mono hs55 (IM.le_refl _))) hp56 (by exact rfl) (List.Perm.refl _) (by exact rfl) (by exact rfl) (by exact rfl) rfl rfl (fun A57 c58 => ?_))
            refine OpsJ.put rfl (OpJ.pure (OpP.assign rfl) ?_)
            refine OpsJ.nil ?_
            refine CodeJ.seq' ?_
            refine CodeJ.seq' ?_
            refine CodeJ.region ?_
            refine OpsJ.put rfl (OpJ.pure (OpP.assign rfl) ?_)
            refine OpsJ.nil ?_
            obtain ⟨t178, hl179, h180⟩ := bind_ok h53
            clear h53
            refine CodeJ.mid (fun e s => ∃ (A171 : Option Addr) (c172 : Nat) (cs173 : List Value) (now_170 : List (Int × Int × Int)), .inr now_170 = t178 ∧ repL IM.nil cs173 now_170 ∧ e = [(0, .slice A0_ p0_l.length c0_), (5, .slice A171 now_170.length c172)] ∧ s = ⟨R, [.row 27 3 A171 now_170.length c172 cs173]⟩) ?_ ?_
            · refine CodeJ.block ?_
              refine CodeJ.loopM hl179 (fun (id_131, now_132, k_138) e s => ∃ (A133 : Option Addr) (c134 : Nat) (cs135 : List Value), repL IM.nil cs135 now_132 ∧ e = [(0, .slice A0_ p0_l.length c0_), (3, .int .i64 id_131), (5, .slice A133 now_132.length c134), (6, .int .i64 k_138)] ∧ s = ⟨R, [.row 27 3 A133 now_132.length c134 cs135]⟩) ⟨A57, c58, (([] : List Value) ++ es54), hr59, rfl, rfl⟩ (SubE.cons rfl (SubE.cons rfl (SubE.cons rfl (SubE.cons rfl (SubE.nil _))))) (SubL.p0 (SubL.nil _)) ?_
              rintro ⟨id_131, now_132, k_138⟩ _ _ _ ⟨A133, c134, cs135, hr136, rfl, rfl⟩ h176 hne177
              (try dsimp only at h176); unfold winnowerlaw19_PlanJoins_l1 at h176
              refine CodeJ.seq' ?_
              refine CodeJ.seq' ?_
              refine CodeJ.region ?_
              refine OpsJ.put rfl (OpJ.pure (OpP.move rfl) ?_)
              refine OpsJ.put rfl (OpJ.pure (OpP.move rfl) ?_)
              refine OpsJ.put rfl (OpJ.pure (OpP.len rfl) ?_)
              refine OpsJ.put rfl (OpJ.pure (OpP.leq rfl rfl) ?_)
              refine OpsJ.nil ?_
              by_cases hc181 : k_138 ≤ ((p0_l.length : Nat) : Int)
              · rw [if_pos hc181] at h176
                refine CodeJ.cond_t rfl (decide_eq_true hc181) ?_
                refine CodeJ.skip ?_
                refine CodeJ.seq' ?_
                refine CodeJ.block ?_
                refine CodeJ.seq' ?_
                refine CodeJ.region ?_
                refine OpsJ.put rfl (OpJ.pure (OpP.move rfl) ?_)
                refine OpsJ.rowle (List.Perm.refl _) (fun hcap182 _ => ?_)
                obtain ⟨y186, hy187, h188⟩ := bind_ok h176
                clear h176
                refine OpsJ.put rfl (OpJ.call0 rfl (fun R183 hle184 hin185 => plan_Pick_w R183 A133 now_132.length c134 now_132 (SlR.of_row (inRow hin185 (List.Mem.head _)) hr136 (IM.le_nil _)) rfl hcap182  _ hy187) ?_)
                rintro _ _ _ ⟨rfl, rfl⟩
                refine OpsJ.put rfl (OpJ.pure (OpP.move rfl) ?_)
                refine OpsJ.put rfl (OpJ.pure (OpP.extract rfl rfl) ?_)
                refine OpsJ.put rfl (OpJ.pure (OpP.extract rfl rfl) ?_)
                refine OpsJ.put rfl (OpJ.pure (OpP.assign rfl) ?_)
                refine OpsJ.put rfl (OpJ.pure (OpP.assign rfl) ?_)
                refine OpsJ.nil ?_
                refine CodeJ.seq' ?_
                refine CodeJ.seq' ?_
                refine CodeJ.region ?_
                refine OpsJ.put rfl (OpJ.pure (OpP.move rfl) ?_)
                refine OpsJ.put rfl (OpJ.pure (OpP.not rfl) ?_)
                refine OpsJ.nil ?_
                by_cases hc189 : y186.2 = true
                · rw [if_pos hc189] at h188
                  refine CodeJ.cond_f rfl (congrArg Bool.not hc189) ?_
                  refine CodeJ.skip ?_
                  refine CodeJ.seq' ?_
                  refine CodeJ.region ?_
                  refine OpsJ.put rfl (OpJ.pure (OpP.move rfl) ?_)
                  refine OpsJ.put rfl (OpJ.pure (OpP.add64 rfl rfl) ?_)
                  refine OpsJ.put rfl (OpJ.pure (OpP.assign rfl) ?_)
                  refine OpsJ.nil ?_
                  refine CodeJ.seq' ?_
                  refine CodeJ.region ?_
                  refine OpsJ.put rfl (OpJ.pure (OpP.move rfl) ?_)
                  refine OpsJ.put rfl (OpJ.pure (OpP.move rfl) ?_)
                  refine OpsJ.put rfl (OpJ.pure (OpP.move rfl) ?_)
                  refine OpsJ.rowle (List.Perm.refl _) (fun hcap190 _ => ?_)
                  obtain ⟨y194, hy195, h196⟩ := bind_ok h188
                  clear h188
                  refine OpsJ.put rfl (OpJ.call1 rfl (fun R191 hle192 hin193 => plan_Join_w R191 A133 now_132.length c134 now_132 (SlR.of_row (inRow hin193 (List.Mem.head _)) hr136 (IM.le_nil _)) rfl hcap190 y186.1 (w64 (id_131 + 1))  _ hy195) ?_)
                  rintro _ _ _ ⟨A197, c198, cs199, rfl, hr200, rfl⟩
                  refine OpsJ.put rfl (OpJ.pure (OpP.move rfl) ?_)
                  refine OpsJ.put rfl (OpJ.pure (OpP.extract rfl rfl) ?_)
                  refine OpsJ.put rfl (OpJ.pure (OpP.extract rfl rfl) ?_)
                  refine OpsJ.put rfl (OpJ.pure (OpP.assign rfl) ?_)
                  refine OpsJ.put rfl (OpJ.pure (OpP.assign rfl) ?_)
                  refine OpsJ.nil ?_
                  refine CodeJ.seq' ?_
                  refine CodeJ.seq' ?_
                  refine CodeJ.region ?_
                  refine OpsJ.put rfl (OpJ.pure (OpP.move rfl) ?_)
                  refine OpsJ.put rfl (OpJ.pure (OpP.not rfl) ?_)
                  refine OpsJ.put rfl (OpJ.pure (OpP.move rfl) ?_)
                  by_cases hc202 : y194.2 = true
                  · rw [if_pos hc202] at h196
                    refine OpsJ.guard_y rfl rfl rfl rfl (congrArg Bool.not hc202) ?_
                    refine OpsJ.put rfl (OpJ.pure (OpP.move rfl) ?_)
                    refine OpsJ.guard_y rfl rfl rfl rfl (congrArg Bool.not hc202) ?_
                    refine OpsJ.put rfl (OpJ.pure (OpP.len rfl) ?_)
                    refine OpsJ.guard_y rfl rfl rfl rfl (congrArg Bool.not hc202) ?_
                    refine OpsJ.put rfl (OpJ.pure (OpP.move rfl) ?_)
                    refine OpsJ.guard_y rfl rfl rfl rfl (congrArg Bool.not hc202) ?_
                    refine OpsJ.put rfl (OpJ.pure (OpP.len rfl) ?_)
                    refine OpsJ.guard_y rfl rfl rfl rfl (congrArg Bool.not hc202) ?_
                    refine OpsJ.put rfl (OpJ.pure (OpP.sub64 rfl rfl) ?_)
                    refine OpsJ.guard_y rfl rfl rfl rfl (congrArg Bool.not hc202) ?_
                    refine OpsJ.put rfl (OpJ.pure (OpP.neq rfl rfl) ?_)
                    refine OpsJ.put rfl (OpJ.pure (OpP.pick_f rfl (congrArg Bool.not hc202) rfl) ?_)
                    refine OpsJ.put rfl (OpJ.pure (OpP.move rfl) ?_)
                    by_cases hc203 : ((y194.1.length : Nat) : Int) ≠ w64 (((now_132.length : Nat) : Int) - 1)
                    · rw [if_pos hc203] at h196
                      refine OpsJ.guard_n rfl rfl rfl rfl (decide_eq_true hc203) ?_
                      refine OpsJ.guard_n rfl rfl rfl rfl (decide_eq_true hc203) ?_
                      refine OpsJ.guard_n rfl rfl rfl rfl (decide_eq_true hc203) ?_
                      refine OpsJ.put rfl (OpJ.pure (OpP.pick_t rfl (decide_eq_true hc203) rfl) ?_)
                      refine OpsJ.nil ?_
                      refine CodeJ.cond_t rfl rfl ?_
                      refine CodeJ.seq' ?_
                      refine CodeJ.region ?_
                      refine OpsJ.put rfl (OpJ.pure (OpP.assign rfl) ?_)
                      refine OpsJ.nil ?_
                      obtain rfl := Option.some.inj h196
                      have ht204 := hne177 _ rfl
                      subst ht204
                      simp only [Sum.elim_inl] at h180
                      refine CodeJ.ret' ?_
                      obtain rfl := Option.some.inj h180
                      exact Ret.mk0 ⟨rfl, rfl⟩ (ResJ.one Try.results7 rfl) (IM.le_refl _) (SubL.nil _)
                    · rw [if_neg hc203] at h196
                      refine OpsJ.guard_y rfl rfl rfl rfl (decide_eq_false hc203) ?_
                      refine OpsJ.put rfl (OpJ.pure (OpP.move rfl) ?_)
                      refine OpsJ.guard_y rfl rfl rfl rfl (decide_eq_false hc203) ?_
                      refine OpsJ.rowle (List.Perm.refl _) (fun hcap205 _ => ?_)
                      obtain ⟨y209, hy210, h211⟩ := bind_ok h196
                      clear h196
                      refine OpsJ.put rfl (OpJ.call0 rfl (fun R206 hle207 hin208 => plan_Is_w R206 A197 y194.1.length c198 y194.1 (SlR.of_row (inRow hin208 (List.Mem.head _)) hr200 (IM.le_nil _)) rfl hcap205  _ hy210) ?_)
                      rintro _ _ _ ⟨rfl, rfl⟩
                      refine OpsJ.guard_y rfl rfl rfl rfl (decide_eq_false hc203) ?_
                      refine OpsJ.put rfl (OpJ.pure (OpP.not rfl) ?_)
                      refine OpsJ.put rfl (OpJ.pure (OpP.pick_f rfl (decide_eq_false hc203) rfl) ?_)
                      refine OpsJ.nil ?_
                      by_cases hc212 : y209 = true
                      · rw [if_pos hc212] at h211
                        refine CodeJ.cond_f rfl (congrArg Bool.not hc212) ?_
                        refine CodeJ.skip ?_
                        refine CodeJ.region ?_
                        refine OpsJ.put rfl (OpJ.pure (OpP.move rfl) ?_)
                        refine OpsJ.put rfl (OpJ.pure (OpP.assign rfl) ?_)
                        refine OpsJ.nil ?_
                        refine CodeJ.region ?_
                        refine OpsJ.put rfl (OpJ.pure (OpP.move rfl) ?_)
                        refine OpsJ.put rfl (OpJ.pure (OpP.add64 rfl rfl) ?_)
                        refine OpsJ.put rfl (OpJ.pure (OpP.assign rfl) ?_)
                        refine OpsJ.nil ?_
                        obtain rfl := Option.some.inj h211
                        exact ⟨_, _, _, _, rfl, ⟨A197, c198, cs199, hr200, rfl, rfl⟩, IM.le_refl _, (SubE.cons rfl (SubE.cons rfl (SubE.cons rfl (SubE.cons rfl (SubE.nil _))))), (SubL.p0 (SubL.nil _))⟩
                      · rw [if_neg hc212] at h211
                        refine CodeJ.cond_t rfl (congrArg Bool.not (Bool.eq_false_iff.2 hc212)) ?_
                        refine CodeJ.seq' ?_
                        refine CodeJ.region ?_
                        refine OpsJ.put rfl (OpJ.pure (OpP.assign rfl) ?_)
                        refine OpsJ.nil ?_
                        obtain rfl := Option.some.inj h211
                        have ht213 := hne177 _ rfl
                        subst ht213
                        simp only [Sum.elim_inl] at h180
                        refine CodeJ.ret' ?_
                        obtain rfl := Option.some.inj h180
                        exact Ret.mk0 ⟨rfl, rfl⟩ (ResJ.one Try.results7 rfl) (IM.le_refl _) (SubL.nil _)
                  · rw [if_neg hc202] at h196
                    refine OpsJ.guard_n rfl rfl rfl rfl (congrArg Bool.not (Bool.eq_false_iff.2 hc202)) ?_
                    refine OpsJ.guard_n rfl rfl rfl rfl (congrArg Bool.not (Bool.eq_false_iff.2 hc202)) ?_
                    refine OpsJ.guard_n rfl rfl rfl rfl (congrArg Bool.not (Bool.eq_false_iff.2 hc202)) ?_
                    refine OpsJ.guard_n rfl rfl rfl rfl (congrArg Bool.not (Bool.eq_false_iff.2 hc202)) ?_
                    refine OpsJ.guard_n rfl rfl rfl rfl (congrArg Bool.not (Bool.eq_false_iff.2 hc202)) ?_
                    refine OpsJ.guard_n rfl rfl rfl rfl (congrArg Bool.not (Bool.eq_false_iff.2 hc202)) ?_
                    refine OpsJ.put rfl (OpJ.pure (OpP.pick_t rfl (congrArg Bool.not (Bool.eq_false_iff.2 hc202)) rfl) ?_)
                    refine OpsJ.put rfl (OpJ.pure (OpP.move rfl) ?_)
                    refine OpsJ.guard_n rfl rfl rfl rfl rfl ?_
                    refine OpsJ.guard_n rfl rfl rfl rfl rfl ?_
                    refine OpsJ.guard_n rfl rfl rfl rfl rfl ?_
                    refine OpsJ.put rfl (OpJ.pure (OpP.pick_t rfl rfl rfl) ?_)
                    refine OpsJ.nil ?_
                    refine CodeJ.cond_t rfl rfl ?_
                    refine CodeJ.seq' ?_
                    refine CodeJ.region ?_
                    refine OpsJ.put rfl (OpJ.pure (OpP.assign rfl) ?_)
                    refine OpsJ.nil ?_
                    obtain rfl := Option.some.inj h196
                    have ht214 := hne177 _ rfl
                    subst ht214
                    simp only [Sum.elim_inl] at h180
                    refine CodeJ.ret' ?_
                    obtain rfl := Option.some.inj h180
                    exact Ret.mk0 ⟨rfl, rfl⟩ (ResJ.one Try.results7 rfl) (IM.le_refl _) (SubL.nil _)
                · rw [if_neg hc189] at h188
                  refine CodeJ.cond_t rfl (congrArg Bool.not (Bool.eq_false_iff.2 hc189)) ?_
                  refine CodeJ.exit rfl ?_
                  obtain rfl := Option.some.inj h188
                  have ht215 := hne177 _ rfl
                  exact ⟨_, _, _, ⟨A133, c134, cs135, now_132, ht215, hr136, rfl, rfl⟩, IM.le_refl _, (SubE.cons rfl (SubE.cons rfl (SubE.nil _))), (SubL.p0 (SubL.nil _))⟩
              · rw [if_neg hc181] at h176
                refine CodeJ.cond_f rfl (decide_eq_false hc181) ?_
                refine CodeJ.exit rfl ?_
                obtain rfl := Option.some.inj h176
                have ht216 := hne177 _ rfl
                exact ⟨_, _, _, ⟨A133, c134, cs135, now_132, ht216, hr136, rfl, rfl⟩, IM.le_refl _, (SubE.cons rfl (SubE.cons rfl (SubE.nil _))), (SubL.p0 (SubL.nil _))⟩
            · rintro _ _ ⟨A171, c172, cs173, now_170, rfl, hr174, rfl, rfl⟩
              simp only [Sum.elim_inr] at h180
              refine CodeJ.seq' ?_
              refine CodeJ.seq' ?_
              refine CodeJ.region ?_
              refine OpsJ.put rfl (OpJ.pure (OpP.assign rfl) ?_)
              refine OpsJ.nil ?_
              obtain ⟨t251, hl252, h253⟩ := bind_ok h180
              clear h180
              refine CodeJ.mid (fun e s => .inr () = t251 ∧ e = [(0, .slice A0_ p0_l.length c0_), (5, .slice A171 now_170.length c172)] ∧ s = ⟨R, [.row 27 3 A171 now_170.length c172 cs173]⟩) ?_ ?_
              · refine CodeJ.block ?_
                refine CodeJ.loopM hl252 (fun i_238 e s => e = [(0, .slice A0_ p0_l.length c0_), (5, .slice A171 now_170.length c172), (11, .int .i64 i_238)] ∧ s = ⟨R, [.row 27 3 A171 now_170.length c172 cs173]⟩) ⟨rfl, rfl⟩ (SubE.cons rfl (SubE.cons rfl (SubE.cons rfl (SubE.nil _)))) (SubL.p0 (SubL.nil _)) ?_
                rintro i_238 _ _ _ ⟨rfl, rfl⟩ h249 hne250
                (try dsimp only at h249); unfold winnowerlaw19_PlanJoins_l2 at h249
                refine CodeJ.seq' ?_
                refine CodeJ.seq' ?_
                refine CodeJ.region ?_
                refine OpsJ.put rfl (OpJ.pure (OpP.move rfl) ?_)
                refine OpsJ.put rfl (OpJ.pure (OpP.add64 rfl rfl) ?_)
                refine OpsJ.put rfl (OpJ.pure (OpP.move rfl) ?_)
                refine OpsJ.put rfl (OpJ.pure (OpP.len rfl) ?_)
                refine OpsJ.put rfl (OpJ.pure (OpP.lss rfl rfl) ?_)
                refine OpsJ.nil ?_
                by_cases hc254 : w64 (i_238 + 1) < ((now_170.length : Nat) : Int)
                · rw [if_pos hc254] at h249
                  refine CodeJ.cond_t rfl (decide_eq_true hc254) ?_
                  refine CodeJ.skip ?_
                  refine CodeJ.seq' ?_
                  refine CodeJ.block ?_
                  refine CodeJ.seq' ?_
                  refine CodeJ.drawn (by kernel_rfl) (by kernel_rfl) ?_
                  refine QuietJ.put rfl (OpQ.pure (OpP.move rfl) ?_)
                  refine QuietJ.put rfl (OpQ.pure (OpP.move rfl) ?_)
                  obtain ⟨x255, hx256, h257⟩ := bind_ok h249
                  clear h249
                  have hE258 : ∀ j v, ([.int .i64 x255.1, .int .i64 x255.2.1, .int .i64 x255.2.2] : List Value)[j]? = some v → (cs173)[Int.toNat i_238 * Dat.size (Int × Int × Int) + j]? = some v := row_getF (α := Int × Int × Int) hr174 hx256
                  refine QuietJ.put rfl (OpQ.pure (OpP.ixW (List.Mem.head _) hr174 rfl hx256 (by exact rfl) (by exact rfl) rfl rfl) ?_)
                  refine QuietJ.put rfl (OpQ.pure (OpP.fldAddr rfl (by exact rfl)) ?_)
                  refine QuietJ.put rfl (OpQ.pure (OpP.ldW (by exact rfl) (List.Mem.head _) hE258 rfl rfl) ?_)
                  refine QuietJ.put rfl (OpQ.pure (OpP.move rfl) ?_)
                  refine QuietJ.put rfl (OpQ.pure (OpP.move rfl) ?_)
                  refine QuietJ.put rfl (OpQ.pure (OpP.add64 rfl rfl) ?_)
                  obtain ⟨x259, hx260, h261⟩ := bind_ok h257
                  clear h257
                  have hE262 : ∀ j v, ([.int .i64 x259.1, .int .i64 x259.2.1, .int .i64 x259.2.2] : List Value)[j]? = some v → (cs173)[Int.toNat (w64 (i_238 + 1)) * Dat.size (Int × Int × Int) + j]? = some v := row_getF (α := Int × Int × Int) hr174 hx260
                  refine QuietJ.put rfl (OpQ.pure (OpP.ixW (List.Mem.head _) hr174 rfl hx260 (by exact rfl) (by exact rfl) rfl rfl) ?_)
                  refine QuietJ.put rfl (OpQ.pure (OpP.fldAddr rfl (by exact rfl)) ?_)
                  refine QuietJ.put rfl (OpQ.pure (OpP.ldW (by exact rfl) (List.Mem.head _) hE262 rfl rfl) ?_)
                  refine QuietJ.put rfl (OpQ.pure (OpP.add64 rfl rfl) ?_)
                  refine QuietJ.put rfl (OpQ.pure (OpP.leq rfl rfl) ?_)
                  refine QuietJ.nil ?_
                  by_cases hc263 : w64 (x255.2.2 + x259.2.2) ≤ 512
                  · rw [if_pos hc263] at h261
                    refine CodeJ.cond_t rfl (decide_eq_true hc263) ?_
                    refine CodeJ.seq' ?_
                    refine CodeJ.region ?_
                    refine OpsJ.put rfl (OpJ.pure (OpP.assign rfl) ?_)
                    refine OpsJ.nil ?_
                    obtain rfl := Option.some.inj h261
                    have ht264 := hne250 _ rfl
                    subst ht264
                    simp only [Sum.elim_inl] at h253
                    refine CodeJ.ret' ?_
                    obtain rfl := Option.some.inj h253
                    exact Ret.mk0 ⟨rfl, rfl⟩ (ResJ.one Try.results7 rfl) (IM.le_refl _) (SubL.nil _)
                  · rw [if_neg hc263] at h261
                    refine CodeJ.cond_f rfl (decide_eq_false hc263) ?_
                    refine CodeJ.skip ?_
                    refine CodeJ.region ?_
                    refine OpsJ.put rfl (OpJ.pure (OpP.move rfl) ?_)
                    refine OpsJ.put rfl (OpJ.pure (OpP.add64 rfl rfl) ?_)
                    refine OpsJ.put rfl (OpJ.pure (OpP.assign rfl) ?_)
                    refine OpsJ.nil ?_
                    obtain rfl := Option.some.inj h261
                    exact ⟨_, _, _, _, rfl, ⟨rfl, rfl⟩, IM.le_refl _, (SubE.cons rfl (SubE.cons rfl (SubE.cons rfl (SubE.nil _)))), (SubL.p0 (SubL.nil _))⟩
                · rw [if_neg hc254] at h249
                  refine CodeJ.cond_f rfl (decide_eq_false hc254) ?_
                  refine CodeJ.exit rfl ?_
                  obtain rfl := Option.some.inj h249
                  have ht265 := hne250 _ rfl
                  exact ⟨_, _, _, ⟨ht265, rfl, rfl⟩, IM.le_refl _, (SubE.cons rfl (SubE.cons rfl (SubE.nil _))), (SubL.p0 (SubL.nil _))⟩
              · rintro _ _ ⟨rfl, rfl, rfl⟩
                simp only [Sum.elim_inr] at h253
                refine CodeJ.seq' ?_
                obtain ⟨x274o4n1, hx274o4n2, h274_x274o4n1⟩ := bind_ok h253
                clear h253
                obtain ⟨x274o10n1, hx274o10n2, h274_x274o10n1⟩ := bind_ok h274_x274o4n1
                clear h274_x274o4n1
                refine CodeJ.mid (fun e s => ∃ (g275 : Nat) (g277 : Nat), e = [(0, .slice A0_ p0_l.length c0_), (5, .slice A171 now_170.length c172), (12, .pointer (some ⟨g275, 0, none⟩)), (13, .pointer (some ⟨g277, 0, none⟩))] ∧ s = ⟨R, [.row 27 3 A171 now_170.length c172 cs173, .blk g275 [.int .i64 x274o4n1.1, .int .i64 x274o4n1.2.1, .int .i64 x274o4n1.2.2] 27, .blk g277 [.int .i64 x274o10n1.1, .int .i64 x274o10n1.2.1, .int .i64 x274o10n1.2.2] 27]⟩) ?_ ?_
                · refine HoldJ.start [.row 27 3 A171 now_170.length c172 cs173] (by kernel_rfl) ?_
                  refine HoldJ.take 0 rfl (by kernel_rfl) rfl (OpP.move rfl) ⟨(IM.le_refl _), (SubL.p0 (SubL.nil _))⟩ ?_
                  refine HoldJ.take 1 rfl (by kernel_rfl) rfl (OpP.move rfl) ⟨(IM.le_refl _), (SubL.p0 (SubL.nil _))⟩ ?_
                  refine HoldJ.take 2 rfl (by kernel_rfl) rfl (OpP.len rfl) ⟨(IM.le_refl _), (SubL.p0 (SubL.nil _))⟩ ?_
                  refine HoldJ.take 3 rfl (by kernel_rfl) rfl (OpP.sub64 rfl rfl) ⟨(IM.le_refl _), (SubL.p0 (SubL.nil _))⟩ ?_
                  have hE274o4n3 : RC _ (some ((adr A0_).add (Int.toNat (w64 (((p0_l.length : Nat) : Int) - 1)) * Dat.size (Int × Int × Int)))) [.int .i64 x274o4n1.1, .int .i64 x274o4n1.2.1, .int .i64 x274o4n1.2.2] := SlR.getF (α := Int × Int × Int) hA0_ hx274o4n2
                  refine HoldJ.take 4 rfl (by kernel_rfl) rfl (OpP.ixR hA0_ rfl hx274o4n2 (by exact rfl) (by exact rfl) rfl rfl) ⟨(IM.le_refl _), (SubL.p0 (SubL.nil _))⟩ ?_
                  refine HoldJ.take 5 rfl (by kernel_rfl) rfl (OpP.ldRN (by exact rfl) hE274o4n3 (IM.le_refl _) rfl (by exact rfl)) ⟨(IM.le_refl _), (SubL.p0 (SubL.nil _))⟩ ?_
                  refine HoldJ.take 6 rfl (by kernel_rfl) rfl (OpP.move rfl) ⟨(IM.le_refl _), (SubL.p0 (SubL.nil _))⟩ ?_
                  refine HoldJ.take 7 rfl (by kernel_rfl) rfl (OpP.move rfl) ⟨(IM.le_refl _), (SubL.p0 (SubL.nil _))⟩ ?_
                  refine HoldJ.take 8 rfl (by kernel_rfl) rfl (OpP.len rfl) ⟨(IM.le_refl _), (SubL.p0 (SubL.nil _))⟩ ?_
                  refine HoldJ.take 9 rfl (by kernel_rfl) rfl (OpP.sub64 rfl rfl) ⟨(IM.le_refl _), (SubL.p0 (SubL.nil _))⟩ ?_
                  have hE274o10n3 : ∀ j v, ([.int .i64 x274o10n1.1, .int .i64 x274o10n1.2.1, .int .i64 x274o10n1.2.2] : List Value)[j]? = some v → (cs173)[Int.toNat (w64 (((now_170.length : Nat) : Int) - 1)) * Dat.size (Int × Int × Int) + j]? = some v := row_getF (α := Int × Int × Int) hr174 hx274o10n2
                  refine HoldJ.take 10 rfl (by kernel_rfl) rfl (OpP.ixW (List.Mem.head _) hr174 rfl hx274o10n2 (by exact rfl) (by exact rfl) rfl rfl) ⟨(IM.le_refl _), (SubL.p0 (SubL.nil _))⟩ ?_
                  refine HoldJ.take 11 rfl (by kernel_rfl) rfl (OpP.ldWN (by exact rfl) (List.Mem.head _) hE274o10n3 rfl (by exact rfl)) ⟨(IM.le_refl _), (SubL.p0 (SubL.nil _))⟩ ?_
                  refine HoldJ.steps [12, 13] (by kernel_rfl) (all2 ?_ ?_)
                  · refine StepAt.put rfl rfl (OpJ.alloc (fun g274o12n1 => ?_))
                    refine ⟨⟨(IM.le_refl _), (SubL.p1 (SubL.nil _))⟩, ?_⟩
                    refine HoldJ.step 13 rfl (by kernel_rfl) rfl (OpJ.alloc (fun g274o13n1 => ?_))
                    refine ⟨⟨(IM.le_refl _), (SubL.p2 (SubL.nil _))⟩, ?_⟩
                    refine HoldJ.step_act 14 rfl (by kernel_rfl) (OpJ.storeC (us := [.int .i64 x274o4n1.1, .int .i64 x274o4n1.2.1, .int .i64 x274o4n1.2.2]) (cs := [.int .i64 x274o4n1.1, .int .i64 x274o4n1.2.1, .int .i64 x274o4n1.2.2]) rfl rfl rfl (List.Perm.swap _ _ _) (by exact rfl) rfl rfl rfl ?_)
                    refine ⟨⟨(IM.le_refl _), (SubL.p2 (SubL.nil _))⟩, ?_⟩
                    refine HoldJ.step_act 15 rfl (by kernel_rfl) (OpJ.storeC (us := [.int .i64 x274o10n1.1, .int .i64 x274o10n1.2.1, .int .i64 x274o10n1.2.2]) (cs := [.int .i64 x274o10n1.1, .int .i64 x274o10n1.2.1, .int .i64 x274o10n1.2.2]) rfl rfl rfl (List.Perm.swap _ _ _) (by exact rfl) rfl rfl rfl ?_)
                    refine ⟨⟨(IM.le_refl _), (SubL.p2 (SubL.nil _))⟩, ?_⟩
                    refine HoldJ.fin (by kernel_rfl) ?_
                    exact ⟨_, _, _, ⟨g274o12n1, g274o13n1, rfl, rfl⟩, IM.le_refl _, (SubE.cons rfl (SubE.cons rfl (SubE.cons rfl (SubE.cons rfl (SubE.nil _))))), (SubL.p2 (SubL.p1 (SubL.p0 (SubL.nil _))))⟩
                  · refine StepAt.put rfl rfl (OpJ.alloc (fun g274o13n1 => ?_))
                    refine ⟨⟨(IM.le_refl _), (SubL.p1 (SubL.nil _))⟩, ?_⟩
                    refine HoldJ.step 12 rfl (by kernel_rfl) rfl (OpJ.alloc (fun g274o12n1 => ?_))
                    refine ⟨⟨(IM.le_refl _), (SubL.p2 (SubL.nil _))⟩, ?_⟩
                    refine HoldJ.step_act 14 rfl (by kernel_rfl) (OpJ.storeC (us := [.int .i64 x274o4n1.1, .int .i64 x274o4n1.2.1, .int .i64 x274o4n1.2.2]) (cs := [.int .i64 x274o4n1.1, .int .i64 x274o4n1.2.1, .int .i64 x274o4n1.2.2]) rfl rfl rfl (List.Perm.refl _) (by exact rfl) rfl rfl rfl ?_)
                    refine ⟨⟨(IM.le_refl _), (SubL.p2 (SubL.nil _))⟩, ?_⟩
                    refine HoldJ.step_act 15 rfl (by kernel_rfl) (OpJ.storeC (us := [.int .i64 x274o10n1.1, .int .i64 x274o10n1.2.1, .int .i64 x274o10n1.2.2]) (cs := [.int .i64 x274o10n1.1, .int .i64 x274o10n1.2.1, .int .i64 x274o10n1.2.2]) rfl rfl rfl (List.Perm.swap _ _ _) (by exact rfl) rfl rfl rfl ?_)
                    refine ⟨⟨(IM.le_refl _), (SubL.p2 (SubL.nil _))⟩, ?_⟩
                    refine HoldJ.fin (by kernel_rfl) ?_
                    exact ⟨_, _, _, ⟨g274o12n1, g274o13n1, rfl, rfl⟩, IM.le_refl _, (SubE.cons rfl (SubE.cons rfl (SubE.cons rfl (SubE.cons rfl (SubE.nil _))))), (SubL.p2 (SubL.p1 (SubL.p0 (SubL.nil _))))⟩
                · rintro _ _ ⟨g275, g277, rfl, rfl⟩
                  refine CodeJ.seq' ?_
                  refine HoldJ.start [.row 27 3 A171 now_170.length c172 cs173, .blk g275 [.int .i64 x274o4n1.1, .int .i64 x274o4n1.2.1, .int .i64 x274o4n1.2.2] 27, .blk g277 [.int .i64 x274o10n1.1, .int .i64 x274o10n1.2.1, .int .i64 x274o10n1.2.2] 27] (by kernel_rfl) ?_
                  refine HoldJ.take 0 rfl (by kernel_rfl) rfl (OpP.move rfl) ⟨(IM.le_refl _), (SubL.p0 (SubL.p0 (SubL.p0 (SubL.nil _))))⟩ ?_
                  obtain ⟨x295, hx296, h297⟩ := bind_ok h274_x274o10n1
                  clear h274_x274o10n1
                  have hE298 : ∀ j v, ([.int .i64 x295.1, .int .i64 x295.2.1, .int .i64 x295.2.2] : List Value)[j]? = some v → (cs173)[Int.toNat 0 * Dat.size (Int × Int × Int) + j]? = some v := row_getF (α := Int × Int × Int) hr174 hx296
                  refine HoldJ.take 1 rfl (by kernel_rfl) rfl (OpP.ixW (List.Mem.head _) hr174 rfl hx296 (by exact rfl) (by exact rfl) rfl rfl) ⟨(IM.le_refl _), (SubL.p0 (SubL.p0 (SubL.p0 (SubL.nil _))))⟩ ?_
                  refine HoldJ.take 2 rfl (by kernel_rfl) rfl (OpP.fldAddr rfl (by exact rfl)) ⟨(IM.le_refl _), (SubL.p0 (SubL.p0 (SubL.p0 (SubL.nil _))))⟩ ?_
                  refine HoldJ.take 3 rfl (by kernel_rfl) rfl (OpP.ldW (by exact rfl) (List.Mem.head _) hE298 rfl rfl) ⟨(IM.le_refl _), (SubL.p0 (SubL.p0 (SubL.p0 (SubL.nil _))))⟩ ?_
                  refine HoldJ.take 4 rfl (by kernel_rfl) rfl (OpP.move rfl) ⟨(IM.le_refl _), (SubL.p0 (SubL.p0 (SubL.p0 (SubL.nil _))))⟩ ?_
                  obtain ⟨x299, hx300, h301⟩ := bind_ok h297
                  clear h297
                  have hE302 : RC _ (some ((adr A0_).add (Int.toNat 0 * Dat.size (Int × Int × Int)))) [.int .i64 x299.1, .int .i64 x299.2.1, .int .i64 x299.2.2] := SlR.getF (α := Int × Int × Int) hA0_ hx300
                  refine HoldJ.take 5 rfl (by kernel_rfl) rfl (OpP.ixR hA0_ rfl hx300 (by exact rfl) (by exact rfl) rfl rfl) ⟨(IM.le_refl _), (SubL.p0 (SubL.p0 (SubL.p0 (SubL.nil _))))⟩ ?_
                  refine HoldJ.take 6 rfl (by kernel_rfl) rfl (OpP.fldAddr rfl (by exact rfl)) ⟨(IM.le_refl _), (SubL.p0 (SubL.p0 (SubL.p0 (SubL.nil _))))⟩ ?_
                  refine HoldJ.take 7 rfl (by kernel_rfl) rfl (OpP.ldR (by exact rfl) hE302 (IM.le_refl _) rfl rfl) ⟨(IM.le_refl _), (SubL.p0 (SubL.p0 (SubL.p0 (SubL.nil _))))⟩ ?_
                  refine HoldJ.take 8 rfl (by kernel_rfl) rfl (OpP.eql rfl rfl) ⟨(IM.le_refl _), (SubL.p0 (SubL.p0 (SubL.p0 (SubL.nil _))))⟩ ?_
                  refine HoldJ.take 9 rfl (by kernel_rfl) rfl (OpP.move rfl) ⟨(IM.le_refl _), (SubL.p0 (SubL.p0 (SubL.p0 (SubL.nil _))))⟩ ?_
                  by_cases hc303 : x295.2.1 = x299.2.1
                  · rw [if_pos hc303] at h301
                    refine HoldJ.take_y 10 rfl (by kernel_rfl) rfl rfl rfl rfl (decide_eq_true hc303) (OpP.fldAddr_lit rfl (by exact rfl)) ⟨(IM.le_refl _), (SubL.p0 (SubL.p0 (SubL.p0 (SubL.nil _))))⟩ ?_
                    refine HoldJ.take_y 11 rfl (by kernel_rfl) rfl rfl rfl rfl (decide_eq_true hc303) (OpP.load_blk (by exact rfl) rfl (List.Mem.tail _ (List.Mem.head _)) rfl) ⟨(IM.le_refl _), (SubL.p0 (SubL.p0 (SubL.p0 (SubL.nil _))))⟩ ?_
                    refine HoldJ.take_y 12 rfl (by kernel_rfl) rfl rfl rfl rfl (decide_eq_true hc303) (OpP.fldAddr_lit rfl (by exact rfl)) ⟨(IM.le_refl _), (SubL.p0 (SubL.p0 (SubL.p0 (SubL.nil _))))⟩ ?_
                    refine HoldJ.take_y 13 rfl (by kernel_rfl) rfl rfl rfl rfl (decide_eq_true hc303) (OpP.load_blk (by exact rfl) rfl (List.Mem.tail _ (List.Mem.head _)) rfl) ⟨(IM.le_refl _), (SubL.p0 (SubL.p0 (SubL.p0 (SubL.nil _))))⟩ ?_
                    refine HoldJ.take_y 14 rfl (by kernel_rfl) rfl rfl rfl rfl (decide_eq_true hc303) (OpP.add64 rfl rfl) ⟨(IM.le_refl _), (SubL.p0 (SubL.p0 (SubL.p0 (SubL.nil _))))⟩ ?_
                    refine HoldJ.take_y 15 rfl (by kernel_rfl) rfl rfl rfl rfl (decide_eq_true hc303) (OpP.fldAddr_lit rfl (by exact rfl)) ⟨(IM.le_refl _), (SubL.p0 (SubL.p0 (SubL.p0 (SubL.nil _))))⟩ ?_
                    refine HoldJ.take_y 16 rfl (by kernel_rfl) rfl rfl rfl rfl (decide_eq_true hc303) (OpP.load_blk (by exact rfl) rfl (List.Mem.tail _ (List.Mem.tail _ (List.Mem.head _))) rfl) ⟨(IM.le_refl _), (SubL.p0 (SubL.p0 (SubL.p0 (SubL.nil _))))⟩ ?_
                    refine HoldJ.take_y 17 rfl (by kernel_rfl) rfl rfl rfl rfl (decide_eq_true hc303) (OpP.fldAddr_lit rfl (by exact rfl)) ⟨(IM.le_refl _), (SubL.p0 (SubL.p0 (SubL.p0 (SubL.nil _))))⟩ ?_
                    refine HoldJ.take_y 18 rfl (by kernel_rfl) rfl rfl rfl rfl (decide_eq_true hc303) (OpP.load_blk (by exact rfl) rfl (List.Mem.tail _ (List.Mem.tail _ (List.Mem.head _))) rfl) ⟨(IM.le_refl _), (SubL.p0 (SubL.p0 (SubL.p0 (SubL.nil _))))⟩ ?_
                    refine HoldJ.take_y 19 rfl (by kernel_rfl) rfl rfl rfl rfl (decide_eq_true hc303) (OpP.add64 rfl rfl) ⟨(IM.le_refl _), (SubL.p0 (SubL.p0 (SubL.p0 (SubL.nil _))))⟩ ?_
                    refine HoldJ.take_y 20 rfl (by kernel_rfl) rfl rfl rfl rfl (decide_eq_true hc303) (OpP.eql rfl rfl) ⟨(IM.le_refl _), (SubL.p0 (SubL.p0 (SubL.p0 (SubL.nil _))))⟩ ?_
                    refine HoldJ.take 21 rfl (by kernel_rfl) rfl (OpP.pick_t rfl (decide_eq_true hc303) rfl) ⟨(IM.le_refl _), (SubL.p0 (SubL.p0 (SubL.p0 (SubL.nil _))))⟩ ?_
                    refine HoldJ.take 22 rfl (by kernel_rfl) rfl (OpP.move rfl) ⟨(IM.le_refl _), (SubL.p0 (SubL.p0 (SubL.p0 (SubL.nil _))))⟩ ?_
                    by_cases hc304 : w64 (x274o4n1.2.1 + x274o4n1.2.2) = w64 (x274o10n1.2.1 + x274o10n1.2.2)
                    · rw [if_pos hc304] at h301
                      obtain ⟨y308, hy309, h310⟩ := bind_ok h301
                      clear h301
                      refine HoldJ.step_y 23 rfl (by kernel_rfl) rfl rfl rfl rfl (decide_eq_true hc304) (OpJ.call0 rfl (fun R305 hle306 hin307 => winnowerlaw19_known_w R305   _ hy309) ?_)
                      rintro _ _ _ ⟨rfl, rfl⟩
                      refine ⟨⟨(IM.le_refl _), (SubL.p0 (SubL.p0 (SubL.p0 (SubL.nil _))))⟩, ?_⟩
                      refine HoldJ.take 24 rfl (by kernel_rfl) rfl (OpP.pick_t rfl (decide_eq_true hc304) rfl) ⟨(IM.le_refl _), (SubL.p0 (SubL.p0 (SubL.p0 (SubL.nil _))))⟩ ?_
                      refine HoldJ.take 25 rfl (by kernel_rfl) rfl (OpP.assign rfl) ⟨(IM.le_refl _), (SubL.p0 (SubL.p0 (SubL.p0 (SubL.nil _))))⟩ ?_
                      refine HoldJ.fin (by kernel_rfl) ?_
                      refine CodeJ.ret' ?_
                      obtain rfl := Option.some.inj h310
                      exact Ret.mk0 ⟨rfl, rfl⟩ (ResJ.one Try.results7 rfl) (IM.le_refl _) (SubL.nil _)
                    · rw [if_neg hc304] at h301
                      refine HoldJ.take_n 23 rfl (by kernel_rfl) rfl rfl rfl rfl (decide_eq_false hc304) ⟨(IM.le_refl _), (SubL.p0 (SubL.p0 (SubL.p0 (SubL.nil _))))⟩ ?_
                      refine HoldJ.take 24 rfl (by kernel_rfl) rfl (OpP.pick_f rfl (decide_eq_false hc304) rfl) ⟨(IM.le_refl _), (SubL.p0 (SubL.p0 (SubL.p0 (SubL.nil _))))⟩ ?_
                      refine HoldJ.take 25 rfl (by kernel_rfl) rfl (OpP.assign rfl) ⟨(IM.le_refl _), (SubL.p0 (SubL.p0 (SubL.p0 (SubL.nil _))))⟩ ?_
                      refine HoldJ.fin (by kernel_rfl) ?_
                      refine CodeJ.ret' ?_
                      obtain rfl := Option.some.inj h301
                      exact Ret.mk0 ⟨rfl, rfl⟩ (ResJ.one Try.results7 rfl) (IM.le_refl _) (SubL.nil _)
                  · rw [if_neg hc303] at h301
                    refine HoldJ.take_n 10 rfl (by kernel_rfl) rfl rfl rfl rfl (decide_eq_false hc303) ⟨(IM.le_refl _), (SubL.p0 (SubL.p0 (SubL.p0 (SubL.nil _))))⟩ ?_
                    refine HoldJ.take_n 11 rfl (by kernel_rfl) rfl rfl rfl rfl (decide_eq_false hc303) ⟨(IM.le_refl _), (SubL.p0 (SubL.p0 (SubL.p0 (SubL.nil _))))⟩ ?_
                    refine HoldJ.take_n 12 rfl (by kernel_rfl) rfl rfl rfl rfl (decide_eq_false hc303) ⟨(IM.le_refl _), (SubL.p0 (SubL.p0 (SubL.p0 (SubL.nil _))))⟩ ?_
                    refine HoldJ.take_n 13 rfl (by kernel_rfl) rfl rfl rfl rfl (decide_eq_false hc303) ⟨(IM.le_refl _), (SubL.p0 (SubL.p0 (SubL.p0 (SubL.nil _))))⟩ ?_
                    refine HoldJ.take_n 14 rfl (by kernel_rfl) rfl rfl rfl rfl (decide_eq_false hc303) ⟨(IM.le_refl _), (SubL.p0 (SubL.p0 (SubL.p0 (SubL.nil _))))⟩ ?_
                    refine HoldJ.take_n 15 rfl (by kernel_rfl) rfl rfl rfl rfl (decide_eq_false hc303) ⟨(IM.le_refl _), (SubL.p0 (SubL.p0 (SubL.p0 (SubL.nil _))))⟩ ?_
                    refine HoldJ.take_n 16 rfl (by kernel_rfl) rfl rfl rfl rfl (decide_eq_false hc303) ⟨(IM.le_refl _), (SubL.p0 (SubL.p0 (SubL.p0 (SubL.nil _))))⟩ ?_
                    refine HoldJ.take_n 17 rfl (by kernel_rfl) rfl rfl rfl rfl (decide_eq_false hc303) ⟨(IM.le_refl _), (SubL.p0 (SubL.p0 (SubL.p0 (SubL.nil _))))⟩ ?_
                    refine HoldJ.take_n 18 rfl (by kernel_rfl) rfl rfl rfl rfl (decide_eq_false hc303) ⟨(IM.le_refl _), (SubL.p0 (SubL.p0 (SubL.p0 (SubL.nil _))))⟩ ?_
                    refine HoldJ.take_n 19 rfl (by kernel_rfl) rfl rfl rfl rfl (decide_eq_false hc303) ⟨(IM.le_refl _), (SubL.p0 (SubL.p0 (SubL.p0 (SubL.nil _))))⟩ ?_
                    refine HoldJ.take_n 20 rfl (by kernel_rfl) rfl rfl rfl rfl (decide_eq_false hc303) ⟨(IM.le_refl _), (SubL.p0 (SubL.p0 (SubL.p0 (SubL.nil _))))⟩ ?_
                    refine HoldJ.take 21 rfl (by kernel_rfl) rfl (OpP.pick_f rfl (decide_eq_false hc303) rfl) ⟨(IM.le_refl _), (SubL.p0 (SubL.p0 (SubL.p0 (SubL.nil _))))⟩ ?_
                    refine HoldJ.take 22 rfl (by kernel_rfl) rfl (OpP.move rfl) ⟨(IM.le_refl _), (SubL.p0 (SubL.p0 (SubL.p0 (SubL.nil _))))⟩ ?_
                    refine HoldJ.take_n 23 rfl (by kernel_rfl) rfl rfl rfl rfl rfl ⟨(IM.le_refl _), (SubL.p0 (SubL.p0 (SubL.p0 (SubL.nil _))))⟩ ?_
                    refine HoldJ.take 24 rfl (by kernel_rfl) rfl (OpP.pick_f rfl rfl rfl) ⟨(IM.le_refl _), (SubL.p0 (SubL.p0 (SubL.p0 (SubL.nil _))))⟩ ?_
                    refine HoldJ.take 25 rfl (by kernel_rfl) rfl (OpP.assign rfl) ⟨(IM.le_refl _), (SubL.p0 (SubL.p0 (SubL.p0 (SubL.nil _))))⟩ ?_
                    refine HoldJ.fin (by kernel_rfl) ?_
                    refine CodeJ.ret' ?_
                    obtain rfl := Option.some.inj h301
                    exact Ret.mk0 ⟨rfl, rfl⟩ (ResJ.one Try.results7 rfl) (IM.le_refl _) (SubL.nil _)
    · rw [if_neg hc8] at h7
      refine OpsJ.guard_n rfl rfl rfl rfl (congrArg Bool.not (Bool.eq_false_iff.2 hc8)) ?_
      refine OpsJ.guard_n rfl rfl rfl rfl (congrArg Bool.not (Bool.eq_false_iff.2 hc8)) ?_
      refine OpsJ.guard_n rfl rfl rfl rfl (congrArg Bool.not (Bool.eq_false_iff.2 hc8)) ?_
      refine OpsJ.put rfl (OpJ.pure (OpP.pick_t rfl (congrArg Bool.not (Bool.eq_false_iff.2 hc8)) rfl) ?_)
      refine OpsJ.nil ?_
      refine CodeJ.cond_t rfl rfl ?_
      refine CodeJ.seq' ?_
      refine CodeJ.region ?_
      refine OpsJ.put rfl (OpJ.pure (OpP.assign rfl) ?_)
      refine OpsJ.nil ?_
      refine CodeJ.ret' ?_
      obtain rfl := Option.some.inj h7
      exact Ret.mk0 ⟨rfl, rfl⟩ (ResJ.one Try.results7 rfl) (IM.le_refl _) (SubL.nil _)
theorem winnowerlaw19_PlanTells_w (R : IM) (A0_ : Option Addr) (n0_ c0_ : Nat) (p0_l : List (Int × Int × Int)) (hA0_ : SlR R A0_ p0_l) (hn0_ : p0_l.length = n0_) (hc0_ : n0_ ≤ c0_) (p1_at : Int) (p2_id : Int) (p3_n : Int) (y : Bool) (h : winnowerlaw19_PlanTells p0_l p1_at p2_id p3_n = some y) :
    CallJ Try.prog 9 #[.slice A0_ n0_ c0_, .int .i64 p1_at, .int .i64 p2_id, .int .i64 p3_n] ⟨R, []⟩ (fun v D hs' => v = .bool y ∧ hs' = []) := by
  subst hn0_
  unfold winnowerlaw19_PlanTells at h
  refine CallJ.of4 Try.func9 rfl Try.ntmps9 rfl (fun W0 => ?_)
  refine CodeJ.seq' ?_
  refine CodeJ.region ?_
  refine OpsJ.put rfl (OpJ.pure (OpP.assign rfl) ?_)
  refine OpsJ.nil ?_
  refine CodeJ.seq' ?_
  refine CodeJ.seq' ?_
  refine CodeJ.region ?_
  refine OpsJ.put rfl (OpJ.pure (OpP.move rfl) ?_)
  refine OpsJ.put rfl (OpJ.pure (OpP.len rfl) ?_)
  refine OpsJ.put rfl (OpJ.pure (OpP.gtr rfl rfl) ?_)
  refine OpsJ.put rfl (OpJ.pure (OpP.move rfl) ?_)
  by_cases hc1 : ((p0_l.length : Nat) : Int) > 100
  · rw [if_pos hc1] at h
    refine OpsJ.guard_n rfl rfl rfl rfl (decide_eq_true hc1) ?_
    refine OpsJ.guard_n rfl rfl rfl rfl (decide_eq_true hc1) ?_
    refine OpsJ.put rfl (OpJ.pure (OpP.pick_t rfl (decide_eq_true hc1) rfl) ?_)
    refine OpsJ.put rfl (OpJ.pure (OpP.move rfl) ?_)
    refine OpsJ.guard_n rfl rfl rfl rfl rfl ?_
    refine OpsJ.guard_n rfl rfl rfl rfl rfl ?_
    refine OpsJ.put rfl (OpJ.pure (OpP.pick_t rfl rfl rfl) ?_)
    refine OpsJ.nil ?_
    refine CodeJ.cond_t rfl rfl ?_
    refine CodeJ.seq' ?_
    refine CodeJ.region ?_
    refine OpsJ.put rfl (OpJ.pure (OpP.assign rfl) ?_)
    refine OpsJ.nil ?_
    refine CodeJ.ret' ?_
    obtain rfl := Option.some.inj h
    exact Ret.mk0 ⟨rfl, rfl⟩ (ResJ.one Try.results9 rfl) (IM.le_refl _) (SubL.nil _)
  · rw [if_neg hc1] at h
    refine OpsJ.guard_y rfl rfl rfl rfl (decide_eq_false hc1) ?_
    refine OpsJ.put rfl (OpJ.pure (OpP.move rfl) ?_)
    refine OpsJ.guard_y rfl rfl rfl rfl (decide_eq_false hc1) ?_
    refine OpsJ.put rfl (OpJ.pure (OpP.lss rfl rfl) ?_)
    refine OpsJ.put rfl (OpJ.pure (OpP.pick_f rfl (decide_eq_false hc1) rfl) ?_)
    refine OpsJ.put rfl (OpJ.pure (OpP.move rfl) ?_)
    by_cases hc2 : p3_n < (-1125899906842624)
    · rw [if_pos hc2] at h
      refine OpsJ.guard_n rfl rfl rfl rfl (decide_eq_true hc2) ?_
      refine OpsJ.guard_n rfl rfl rfl rfl (decide_eq_true hc2) ?_
      refine OpsJ.put rfl (OpJ.pure (OpP.pick_t rfl (decide_eq_true hc2) rfl) ?_)
      refine OpsJ.nil ?_
      refine CodeJ.cond_t rfl rfl ?_
      refine CodeJ.seq' ?_
      refine CodeJ.region ?_
      refine OpsJ.put rfl (OpJ.pure (OpP.assign rfl) ?_)
      refine OpsJ.nil ?_
      refine CodeJ.ret' ?_
      obtain rfl := Option.some.inj h
      exact Ret.mk0 ⟨rfl, rfl⟩ (ResJ.one Try.results9 rfl) (IM.le_refl _) (SubL.nil _)
    · rw [if_neg hc2] at h
      refine OpsJ.guard_y rfl rfl rfl rfl (decide_eq_false hc2) ?_
      refine OpsJ.put rfl (OpJ.pure (OpP.move rfl) ?_)
      refine OpsJ.guard_y rfl rfl rfl rfl (decide_eq_false hc2) ?_
      refine OpsJ.put rfl (OpJ.pure (OpP.gtr rfl rfl) ?_)
      refine OpsJ.put rfl (OpJ.pure (OpP.pick_f rfl (decide_eq_false hc2) rfl) ?_)
      refine OpsJ.nil ?_
      by_cases hc3 : p3_n > 1125899906842624
      · rw [if_pos hc3] at h
        refine CodeJ.cond_t rfl (decide_eq_true hc3) ?_
        refine CodeJ.seq' ?_
        refine CodeJ.region ?_
        refine OpsJ.put rfl (OpJ.pure (OpP.assign rfl) ?_)
        refine OpsJ.nil ?_
        refine CodeJ.ret' ?_
        obtain rfl := Option.some.inj h
        exact Ret.mk0 ⟨rfl, rfl⟩ (ResJ.one Try.results9 rfl) (IM.le_refl _) (SubL.nil _)
      · rw [if_neg hc3] at h
        refine CodeJ.cond_f rfl (decide_eq_false hc3) ?_
        refine CodeJ.skip ?_
        refine CodeJ.seq' ?_
        refine CodeJ.seq' ?_
        refine CodeJ.region ?_
        refine OpsJ.put rfl (OpJ.pure (OpP.assign rfl) ?_)
        refine OpsJ.nil ?_
        obtain ⟨t32, hl33, h34⟩ := bind_ok h
        clear h
        refine CodeJ.mid (fun e s => .inr () = t32 ∧ e = [(0, .slice A0_ p0_l.length c0_), (1, .int .i64 p1_at), (2, .int .i64 p2_id), (3, .int .i64 p3_n)] ∧ s = ⟨R, []⟩) ?_ ?_
        · refine CodeJ.block ?_
          refine CodeJ.loopM hl33 (fun i_21 e s => e = [(0, .slice A0_ p0_l.length c0_), (1, .int .i64 p1_at), (2, .int .i64 p2_id), (3, .int .i64 p3_n), (9, .int .i64 i_21)] ∧ s = ⟨R, []⟩) ⟨rfl, rfl⟩ (SubE.cons rfl (SubE.cons rfl (SubE.cons rfl (SubE.cons rfl (SubE.cons rfl (SubE.nil _)))))) (SubL.nil _) ?_
          rintro i_21 _ _ _ ⟨rfl, rfl⟩ h30 hne31
          (try dsimp only at h30); unfold winnowerlaw19_PlanTells_l0 at h30
          refine CodeJ.seq' ?_
          refine CodeJ.seq' ?_
          refine CodeJ.region ?_
          refine OpsJ.put rfl (OpJ.pure (OpP.move rfl) ?_)
          refine OpsJ.put rfl (OpJ.pure (OpP.move rfl) ?_)
          refine OpsJ.put rfl (OpJ.pure (OpP.len rfl) ?_)
          refine OpsJ.put rfl (OpJ.pure (OpP.lss rfl rfl) ?_)
          refine OpsJ.nil ?_
          by_cases hc35 : i_21 < ((p0_l.length : Nat) : Int)
          · rw [if_pos hc35] at h30
            refine CodeJ.cond_t rfl (decide_eq_true hc35) ?_
            refine CodeJ.skip ?_
            refine CodeJ.seq' ?_
            refine CodeJ.block ?_
            refine CodeJ.seq' ?_
            refine CodeJ.region ?_
            refine OpsJ.put rfl (OpJ.pure (OpP.move rfl) ?_)
            refine OpsJ.put rfl (OpJ.pure (OpP.move rfl) ?_)
            obtain ⟨x36, hx37, h38⟩ := bind_ok h30
            clear h30
            have hE39 : RC _ (some ((adr A0_).add (Int.toNat i_21 * Dat.size (Int × Int × Int)))) [.int .i64 x36.1, .int .i64 x36.2.1, .int .i64 x36.2.2] := SlR.getF (α := Int × Int × Int) hA0_ hx37
            refine OpsJ.put rfl (OpJ.pure (OpP.ixR hA0_ rfl hx37 (by exact rfl) (by exact rfl) rfl rfl) ?_)
            refine OpsJ.put rfl (OpJ.pure (OpP.fldAddr rfl (by exact rfl)) ?_)
            refine OpsJ.put rfl (OpJ.pure (OpP.ldR (by exact rfl) hE39 (IM.le_refl _) rfl rfl) ?_)
            refine OpsJ.put rfl (OpJ.pure (OpP.lss rfl rfl) ?_)
            refine OpsJ.put rfl (OpJ.pure (OpP.move rfl) ?_)
            by_cases hc40 : x36.2.1 < (-1125899906842624)
            · rw [if_pos hc40] at h38
              refine OpsJ.guard_n rfl rfl rfl rfl (decide_eq_true hc40) ?_
              refine OpsJ.guard_n rfl rfl rfl rfl (decide_eq_true hc40) ?_
              refine OpsJ.guard_n rfl rfl rfl rfl (decide_eq_true hc40) ?_
              refine OpsJ.guard_n rfl rfl rfl rfl (decide_eq_true hc40) ?_
              refine OpsJ.guard_n rfl rfl rfl rfl (decide_eq_true hc40) ?_
              refine OpsJ.guard_n rfl rfl rfl rfl (decide_eq_true hc40) ?_
              refine OpsJ.put rfl (OpJ.pure (OpP.pick_t rfl (decide_eq_true hc40) rfl) ?_)
              refine OpsJ.nil ?_
              refine CodeJ.cond_t rfl rfl ?_
              refine CodeJ.seq' ?_
              refine CodeJ.region ?_
              refine OpsJ.put rfl (OpJ.pure (OpP.assign rfl) ?_)
              refine OpsJ.nil ?_
              obtain rfl := Option.some.inj h38
              have ht41 := hne31 _ rfl
              subst ht41
              simp only [Sum.elim_inl] at h34
              refine CodeJ.ret' ?_
              obtain rfl := Option.some.inj h34
              exact Ret.mk0 ⟨rfl, rfl⟩ (ResJ.one Try.results9 rfl) (IM.le_refl _) (SubL.nil _)
            · rw [if_neg hc40] at h38
              refine OpsJ.guard_y rfl rfl rfl rfl (decide_eq_false hc40) ?_
              refine OpsJ.put rfl (OpJ.pure (OpP.move rfl) ?_)
              refine OpsJ.guard_y rfl rfl rfl rfl (decide_eq_false hc40) ?_
              refine OpsJ.put rfl (OpJ.pure (OpP.move rfl) ?_)
              refine OpsJ.guard_y rfl rfl rfl rfl (decide_eq_false hc40) ?_
              have hE42 : RC _ (some ((adr A0_).add (Int.toNat i_21 * Dat.size (Int × Int × Int)))) [.int .i64 x36.1, .int .i64 x36.2.1, .int .i64 x36.2.2] := SlR.getF (α := Int × Int × Int) hA0_ hx37
              refine OpsJ.put rfl (OpJ.pure (OpP.ixR hA0_ rfl hx37 (by exact rfl) (by exact rfl) rfl rfl) ?_)
              refine OpsJ.guard_y rfl rfl rfl rfl (decide_eq_false hc40) ?_
              refine OpsJ.put rfl (OpJ.pure (OpP.fldAddr rfl (by exact rfl)) ?_)
              refine OpsJ.guard_y rfl rfl rfl rfl (decide_eq_false hc40) ?_
              refine OpsJ.put rfl (OpJ.pure (OpP.ldR (by exact rfl) hE42 (IM.le_refl _) rfl rfl) ?_)
              refine OpsJ.guard_y rfl rfl rfl rfl (decide_eq_false hc40) ?_
              refine OpsJ.put rfl (OpJ.pure (OpP.gtr rfl rfl) ?_)
              refine OpsJ.put rfl (OpJ.pure (OpP.pick_f rfl (decide_eq_false hc40) rfl) ?_)
              refine OpsJ.nil ?_
              by_cases hc43 : x36.2.1 > 1125899906842624
              · rw [if_pos hc43] at h38
                refine CodeJ.cond_t rfl (decide_eq_true hc43) ?_
                refine CodeJ.seq' ?_
                refine CodeJ.region ?_
                refine OpsJ.put rfl (OpJ.pure (OpP.assign rfl) ?_)
                refine OpsJ.nil ?_
                obtain rfl := Option.some.inj h38
                have ht44 := hne31 _ rfl
                subst ht44
                simp only [Sum.elim_inl] at h34
                refine CodeJ.ret' ?_
                obtain rfl := Option.some.inj h34
                exact Ret.mk0 ⟨rfl, rfl⟩ (ResJ.one Try.results9 rfl) (IM.le_refl _) (SubL.nil _)
              · rw [if_neg hc43] at h38
                refine CodeJ.cond_f rfl (decide_eq_false hc43) ?_
                refine CodeJ.skip ?_
                refine CodeJ.region ?_
                refine OpsJ.put rfl (OpJ.pure (OpP.move rfl) ?_)
                refine OpsJ.put rfl (OpJ.pure (OpP.add64 rfl rfl) ?_)
                refine OpsJ.put rfl (OpJ.pure (OpP.assign rfl) ?_)
                refine OpsJ.nil ?_
                obtain rfl := Option.some.inj h38
                exact ⟨_, _, _, _, rfl, ⟨rfl, rfl⟩, IM.le_refl _, (SubE.cons rfl (SubE.cons rfl (SubE.cons rfl (SubE.cons rfl (SubE.cons rfl (SubE.nil _)))))), (SubL.nil _)⟩
          · rw [if_neg hc35] at h30
            refine CodeJ.cond_f rfl (decide_eq_false hc35) ?_
            refine CodeJ.exit rfl ?_
            obtain rfl := Option.some.inj h30
            have ht45 := hne31 _ rfl
            exact ⟨_, _, _, ⟨ht45, rfl, rfl⟩, IM.le_refl _, (SubE.cons rfl (SubE.cons rfl (SubE.cons rfl (SubE.cons rfl (SubE.nil _))))), (SubL.nil _)⟩
        · rintro _ _ ⟨rfl, rfl, rfl⟩
          simp only [Sum.elim_inr] at h34
          refine CodeJ.seq' ?_
          refine CodeJ.region ?_
          refine OpsJ.put rfl (OpJ.pure (OpP.move rfl) ?_)
          obtain ⟨y49, hy50, h51⟩ := bind_ok h34
          clear h34
          refine OpsJ.put rfl (OpJ.call0 rfl (fun R46 hle47 hin48 => plan_Pick_w R46 A0_ p0_l.length c0_ p0_l (SlR.mono hA0_ (IM.le_trans (IM.le_refl _) hle47)) rfl hc0_  _ hy50) ?_)
          rintro _ _ _ ⟨rfl, rfl⟩
          refine OpsJ.put rfl (OpJ.pure (OpP.move rfl) ?_)
          refine OpsJ.put rfl (OpJ.pure (OpP.extract rfl rfl) ?_)
          refine OpsJ.put rfl (OpJ.pure (OpP.extract rfl rfl) ?_)
          refine OpsJ.put rfl (OpJ.pure (OpP.assign rfl) ?_)
          refine OpsJ.put rfl (OpJ.pure (OpP.assign rfl) ?_)
          refine OpsJ.nil ?_
          refine CodeJ.seq' ?_
          refine CodeJ.region ?_
          refine OpsJ.put rfl (OpJ.pure (OpP.move rfl) ?_)
          obtain ⟨y55, hy56, h57⟩ := bind_ok h51
          clear h51
          refine OpsJ.put rfl (OpJ.call0 rfl (fun R52 hle53 hin54 => winnowerref19_Pick_w R52 A0_ p0_l.length c0_ p0_l (SlR.mono hA0_ (IM.le_trans (IM.le_refl _) hle53)) rfl hc0_  _ hy56) ?_)
          rintro _ _ _ ⟨rfl, rfl⟩
          refine OpsJ.put rfl (OpJ.pure (OpP.move rfl) ?_)
          refine OpsJ.put rfl (OpJ.pure (OpP.extract rfl rfl) ?_)
          refine OpsJ.put rfl (OpJ.pure (OpP.extract rfl rfl) ?_)
          refine OpsJ.put rfl (OpJ.pure (OpP.assign rfl) ?_)
          refine OpsJ.put rfl (OpJ.pure (OpP.assign rfl) ?_)
          refine OpsJ.nil ?_
          refine CodeJ.seq' ?_
          refine CodeJ.region ?_
          refine OpsJ.put rfl (OpJ.pure (OpP.move rfl) ?_)
          refine OpsJ.put rfl (OpJ.pure (OpP.move rfl) ?_)
          refine OpsJ.put rfl (OpJ.pure (OpP.move rfl) ?_)
          obtain ⟨y61, hy62, h63⟩ := bind_ok h57
          clear h57
          refine OpsJ.put rfl (OpJ.call1 rfl (fun R58 hle59 hin60 => plan_Join_w R58 A0_ p0_l.length c0_ p0_l (SlR.mono hA0_ (IM.le_trans (IM.le_refl _) hle59)) rfl hc0_ p1_at p2_id  _ hy62) ?_)
          rintro _ _ _ ⟨A64, c65, cs66, rfl, hr67, rfl⟩
          refine OpsJ.put rfl (OpJ.pure (OpP.move rfl) ?_)
          refine OpsJ.put rfl (OpJ.pure (OpP.extract rfl rfl) ?_)
          refine OpsJ.put rfl (OpJ.pure (OpP.extract rfl rfl) ?_)
          refine OpsJ.put rfl (OpJ.pure (OpP.assign rfl) ?_)
          refine OpsJ.put rfl (OpJ.pure (OpP.assign rfl) ?_)
          refine OpsJ.nil ?_
          refine CodeJ.seq' ?_
          refine CodeJ.region ?_
          refine OpsJ.put rfl (OpJ.pure (OpP.move rfl) ?_)
          refine OpsJ.put rfl (OpJ.pure (OpP.move rfl) ?_)
          refine OpsJ.put rfl (OpJ.pure (OpP.move rfl) ?_)
          obtain ⟨y72, hy73, h74⟩ := bind_ok h63
          clear h63
          refine OpsJ.put rfl (OpJ.call1 rfl (fun R69 hle70 hin71 => winnowerref19_Join_w R69 A0_ p0_l.length c0_ p0_l (SlR.mono hA0_ (IM.le_trans (IM.le_refl _) hle70)) rfl hc0_ p1_at p2_id  _ hy73) ?_)
          rintro _ _ _ ⟨A75, c76, cs77, rfl, hr78, rfl⟩
          refine OpsJ.put rfl (OpJ.pure (OpP.move rfl) ?_)
          refine OpsJ.put rfl (OpJ.pure (OpP.extract rfl rfl) ?_)
          refine OpsJ.put rfl (OpJ.pure (OpP.extract rfl rfl) ?_)
          refine OpsJ.put rfl (OpJ.pure (OpP.assign rfl) ?_)
          refine OpsJ.put rfl (OpJ.pure (OpP.assign rfl) ?_)
          refine OpsJ.nil ?_
          refine CodeJ.seq' ?_
          refine CodeJ.region ?_
          refine OpsJ.put rfl (OpJ.pure (OpP.move rfl) ?_)
          refine OpsJ.put rfl (OpJ.pure (OpP.move rfl) ?_)
          obtain ⟨y83, hy84, h85⟩ := bind_ok h74
          clear h74
          refine OpsJ.put rfl (OpJ.call1 rfl (fun R80 hle81 hin82 => plan_Drop_w R80 A0_ p0_l.length c0_ p0_l (SlR.mono hA0_ (IM.le_trans (IM.le_refl _) hle81)) rfl hc0_ p3_n  _ hy84) ?_)
          rintro _ _ _ ⟨A86, c87, cs88, A91, c92, cs93, rfl, hr89, hr94, rfl⟩
          refine OpsJ.put rfl (OpJ.pure (OpP.move rfl) ?_)
          refine OpsJ.put rfl (OpJ.pure (OpP.extract rfl rfl) ?_)
          refine OpsJ.put rfl (OpJ.pure (OpP.extract rfl rfl) ?_)
          refine OpsJ.put rfl (OpJ.pure (OpP.assign rfl) ?_)
          refine OpsJ.put rfl (OpJ.pure (OpP.assign rfl) ?_)
          refine OpsJ.nil ?_
          refine CodeJ.seq' ?_
          refine CodeJ.region ?_
          refine OpsJ.put rfl (OpJ.pure (OpP.move rfl) ?_)
          refine OpsJ.put rfl (OpJ.pure (OpP.move rfl) ?_)
          obtain ⟨y99, hy100, h101⟩ := bind_ok h85
          clear h85
          refine OpsJ.put rfl (OpJ.call1 rfl (fun R96 hle97 hin98 => winnowerref19_Drop_w R96 A0_ p0_l.length c0_ p0_l (SlR.mono hA0_ (IM.le_trans (IM.le_refl _) hle97)) rfl hc0_ p3_n  _ hy100) ?_)
          rintro _ _ _ ⟨A102, c103, cs104, A107, c108, cs109, rfl, hr105, hr110, rfl⟩
          refine OpsJ.put rfl (OpJ.pure (OpP.move rfl) ?_)
          refine OpsJ.put rfl (OpJ.pure (OpP.extract rfl rfl) ?_)
          refine OpsJ.put rfl (OpJ.pure (OpP.extract rfl rfl) ?_)
          refine OpsJ.put rfl (OpJ.pure (OpP.assign rfl) ?_)
          refine OpsJ.put rfl (OpJ.pure (OpP.assign rfl) ?_)
          refine OpsJ.nil ?_
          refine CodeJ.seq' ?_
          refine CodeJ.region ?_
          refine OpsJ.put rfl (OpJ.pure (OpP.move rfl) ?_)
          obtain ⟨y115, hy116, h117⟩ := bind_ok h101
          clear h101
          refine OpsJ.put rfl (OpJ.call0 rfl (fun R112 hle113 hin114 => plan_Is_w R112 A0_ p0_l.length c0_ p0_l (SlR.mono hA0_ (IM.le_trans (IM.le_refl _) hle113)) rfl hc0_  _ hy116) ?_)
          rintro _ _ _ ⟨rfl, rfl⟩
          refine OpsJ.put rfl (OpJ.pure (OpP.move rfl) ?_)
          obtain ⟨y121, hy122, h123⟩ := bind_ok h117
          clear h117
          refine OpsJ.put rfl (OpJ.call0 rfl (fun R118 hle119 hin120 => winnowerref19_Is_w R118 A0_ p0_l.length c0_ p0_l (SlR.mono hA0_ (IM.le_trans (IM.le_refl _) hle119)) rfl hc0_  _ hy122) ?_)
          rintro _ _ _ ⟨rfl, rfl⟩
          refine OpsJ.put rfl (OpJ.pure (OpP.eql_bool rfl rfl) ?_)
          refine OpsJ.put rfl (OpJ.pure (OpP.move rfl) ?_)
          by_cases hc124 : (y115 == y121) = true
          · rw [if_pos hc124] at h123
            refine OpsJ.guard_y rfl rfl rfl rfl hc124 ?_
            refine OpsJ.put rfl (OpJ.pure (OpP.move rfl) ?_)
            refine OpsJ.guard_y rfl rfl rfl rfl hc124 ?_
            refine OpsJ.put rfl (OpJ.pure (OpP.move rfl) ?_)
            refine OpsJ.guard_y rfl rfl rfl rfl hc124 ?_
            refine OpsJ.put rfl (OpJ.pure (OpP.eql rfl rfl) ?_)
            refine OpsJ.put rfl (OpJ.pure (OpP.pick_t rfl hc124 rfl) ?_)
            refine OpsJ.put rfl (OpJ.pure (OpP.move rfl) ?_)
            by_cases hc125 : y49.1 = y55.1
            · rw [if_pos hc125] at h123
              refine OpsJ.guard_y rfl rfl rfl rfl (decide_eq_true hc125) ?_
              refine OpsJ.put rfl (OpJ.pure (OpP.move rfl) ?_)
              refine OpsJ.guard_y rfl rfl rfl rfl (decide_eq_true hc125) ?_
              refine OpsJ.put rfl (OpJ.pure (OpP.move rfl) ?_)
              refine OpsJ.guard_y rfl rfl rfl rfl (decide_eq_true hc125) ?_
              refine OpsJ.put rfl (OpJ.pure (OpP.eql_bool rfl rfl) ?_)
              refine OpsJ.put rfl (OpJ.pure (OpP.pick_t rfl (decide_eq_true hc125) rfl) ?_)
              refine OpsJ.put rfl (OpJ.pure (OpP.move rfl) ?_)
              by_cases hc126 : (y49.2 == y55.2) = true
              · rw [if_pos hc126] at h123
                refine OpsJ.guard_y rfl rfl rfl rfl hc126 ?_
                refine OpsJ.put rfl (OpJ.pure (OpP.move rfl) ?_)
                refine OpsJ.guard_y rfl rfl rfl rfl hc126 ?_
                refine OpsJ.put rfl (OpJ.pure (OpP.move rfl) ?_)
                refine OpsJ.guard_y rfl rfl rfl rfl hc126 ?_
                refine OpsJ.rowle (permm5 _ _ _ _ _ _ _) (fun hcap127 _ => ?_)
                refine OpsJ.rowle (permm4 _ _ _ _ _ _) (fun hcap128 _ => ?_)
                obtain ⟨y132, hy133, h134⟩ := bind_ok h123
                clear h123
                refine OpsJ.put rfl (OpJ.call0 rfl (fun R129 hle130 hin131 => winnowerlaw19_spans_w R129 A64 y61.1.length c65 y61.1 (SlR.of_row (inRow hin131 (List.Mem.tail _ (List.Mem.tail _ (List.Mem.tail _ (List.Mem.tail _ (List.Mem.tail _ (List.Mem.head _))))))) hr67 (IM.le_nil _)) rfl hcap127 A75 y72.1.length c76 y72.1 (SlR.of_row (inRow hin131 (List.Mem.tail _ (List.Mem.tail _ (List.Mem.tail _ (List.Mem.tail _ (List.Mem.head _)))))) hr78 (IM.le_nil _)) rfl hcap128  _ hy133) ?_)
                rintro _ _ _ ⟨rfl, rfl⟩
                refine OpsJ.put rfl (OpJ.pure (OpP.pick_t rfl hc126 rfl) ?_)
                refine OpsJ.put rfl (OpJ.pure (OpP.move rfl) ?_)
                by_cases hc135 : y132 = true
                · rw [if_pos hc135] at h134
                  refine OpsJ.guard_y rfl rfl rfl rfl hc135 ?_
                  refine OpsJ.put rfl (OpJ.pure (OpP.move rfl) ?_)
                  refine OpsJ.guard_y rfl rfl rfl rfl hc135 ?_
                  refine OpsJ.put rfl (OpJ.pure (OpP.move rfl) ?_)
                  refine OpsJ.guard_y rfl rfl rfl rfl hc135 ?_
                  refine OpsJ.put rfl (OpJ.pure (OpP.eql_bool rfl rfl) ?_)
                  refine OpsJ.put rfl (OpJ.pure (OpP.pick_t rfl hc135 rfl) ?_)
                  refine OpsJ.put rfl (OpJ.pure (OpP.move rfl) ?_)
                  by_cases hc136 : (y61.2 == y72.2) = true
                  · rw [if_pos hc136] at h134
                    refine OpsJ.guard_y rfl rfl rfl rfl hc136 ?_
                    refine OpsJ.put rfl (OpJ.pure (OpP.move rfl) ?_)
                    refine OpsJ.guard_y rfl rfl rfl rfl hc136 ?_
                    refine OpsJ.put rfl (OpJ.pure (OpP.move rfl) ?_)
                    refine OpsJ.guard_y rfl rfl rfl rfl hc136 ?_
                    refine OpsJ.rowle (permm2 _ _ _ _) (fun hcap137 _ => ?_)
                    refine OpsJ.rowle (List.Perm.refl _) (fun hcap138 _ => ?_)
                    obtain ⟨y142, hy143, h144⟩ := bind_ok h134
                    clear h134
                    refine OpsJ.put rfl (OpJ.call0 rfl (fun R139 hle140 hin141 => winnowerlaw19_spans_w R139 A86 y83.1.length c87 y83.1 (SlR.of_row (inRow hin141 (List.Mem.tail _ (List.Mem.tail _ (List.Mem.head _)))) hr89 (IM.le_nil _)) rfl hcap137 A102 y99.1.length c103 y99.1 (SlR.of_row (inRow hin141 (List.Mem.head _)) hr105 (IM.le_nil _)) rfl hcap138  _ hy143) ?_)
                    rintro _ _ _ ⟨rfl, rfl⟩
                    refine OpsJ.put rfl (OpJ.pure (OpP.pick_t rfl hc136 rfl) ?_)
                    refine OpsJ.put rfl (OpJ.pure (OpP.move rfl) ?_)
                    by_cases hc145 : y142 = true
                    · rw [if_pos hc145] at h144
                      refine OpsJ.guard_y rfl rfl rfl rfl hc145 ?_
                      refine OpsJ.put rfl (OpJ.pure (OpP.move rfl) ?_)
                      refine OpsJ.guard_y rfl rfl rfl rfl hc145 ?_
                      refine OpsJ.put rfl (OpJ.pure (OpP.move rfl) ?_)
                      refine OpsJ.guard_y rfl rfl rfl rfl hc145 ?_
                      refine OpsJ.rowle (permm3 _ _ _ _ _) (fun hcap146 _ => ?_)
                      refine OpsJ.rowle (List.Perm.swap _ _ _) (fun hcap147 _ => ?_)
                      obtain ⟨y151, hy152, h153⟩ := bind_ok h144
                      clear h144
                      refine OpsJ.put rfl (OpJ.call0 rfl (fun R148 hle149 hin150 => winnowerlaw19_spans_w R148 A91 y83.2.length c92 y83.2 (SlR.of_row (inRow hin150 (List.Mem.tail _ (List.Mem.tail _ (List.Mem.tail _ (List.Mem.head _))))) hr94 (IM.le_nil _)) rfl hcap146 A107 y99.2.length c108 y99.2 (SlR.of_row (inRow hin150 (List.Mem.tail _ (List.Mem.head _))) hr110 (IM.le_nil _)) rfl hcap147  _ hy152) ?_)
                      rintro _ _ _ ⟨rfl, rfl⟩
                      refine OpsJ.put rfl (OpJ.pure (OpP.pick_t rfl hc145 rfl) ?_)
                      refine OpsJ.put rfl (OpJ.pure (OpP.move rfl) ?_)
                      by_cases hc154 : y151 = true
                      · rw [if_pos hc154] at h153
                        refine OpsJ.guard_y rfl rfl rfl rfl hc154 ?_
                        obtain ⟨y158, hy159, h160⟩ := bind_ok h153
                        clear h153
                        refine OpsJ.put rfl (OpJ.call0 rfl (fun R155 hle156 hin157 => winnowerlaw19_known_w R155   _ hy159) ?_)
                        rintro _ _ _ ⟨rfl, rfl⟩
                        refine OpsJ.put rfl (OpJ.pure (OpP.pick_t rfl hc154 rfl) ?_)
                        refine OpsJ.put rfl (OpJ.pure (OpP.assign rfl) ?_)
                        refine OpsJ.nil ?_
                        refine CodeJ.ret' ?_
                        obtain rfl := Option.some.inj h160
                        exact Ret.mk0 ⟨rfl, rfl⟩ (ResJ.one Try.results9 rfl) (IM.le_refl _) (SubL.nil _)
                      · rw [if_neg hc154] at h153
                        refine OpsJ.guard_n rfl rfl rfl rfl (Bool.eq_false_iff.2 hc154) ?_
                        refine OpsJ.put rfl (OpJ.pure (OpP.pick_f rfl (Bool.eq_false_iff.2 hc154) rfl) ?_)
                        refine OpsJ.put rfl (OpJ.pure (OpP.assign rfl) ?_)
                        refine OpsJ.nil ?_
                        refine CodeJ.ret' ?_
                        obtain rfl := Option.some.inj h153
                        exact Ret.mk0 ⟨rfl, rfl⟩ (ResJ.one Try.results9 rfl) (IM.le_refl _) (SubL.nil _)
                    · rw [if_neg hc145] at h144
                      refine OpsJ.guard_n rfl rfl rfl rfl (Bool.eq_false_iff.2 hc145) ?_
                      refine OpsJ.guard_n rfl rfl rfl rfl (Bool.eq_false_iff.2 hc145) ?_
                      refine OpsJ.guard_n rfl rfl rfl rfl (Bool.eq_false_iff.2 hc145) ?_
                      refine OpsJ.put rfl (OpJ.pure (OpP.pick_f rfl (Bool.eq_false_iff.2 hc145) rfl) ?_)
                      refine OpsJ.put rfl (OpJ.pure (OpP.move rfl) ?_)
                      refine OpsJ.guard_n rfl rfl rfl rfl rfl ?_
                      refine OpsJ.put rfl (OpJ.pure (OpP.pick_f rfl rfl rfl) ?_)
                      refine OpsJ.put rfl (OpJ.pure (OpP.assign rfl) ?_)
                      refine OpsJ.nil ?_
                      refine CodeJ.ret' ?_
                      obtain rfl := Option.some.inj h144
                      exact Ret.mk0 ⟨rfl, rfl⟩ (ResJ.one Try.results9 rfl) (IM.le_refl _) (SubL.nil _)
                  · rw [if_neg hc136] at h134
                    refine OpsJ.guard_n rfl rfl rfl rfl (Bool.eq_false_iff.2 hc136) ?_
                    refine OpsJ.guard_n rfl rfl rfl rfl (Bool.eq_false_iff.2 hc136) ?_
                    refine OpsJ.guard_n rfl rfl rfl rfl (Bool.eq_false_iff.2 hc136) ?_
                    refine OpsJ.put rfl (OpJ.pure (OpP.pick_f rfl (Bool.eq_false_iff.2 hc136) rfl) ?_)
                    refine OpsJ.put rfl (OpJ.pure (OpP.move rfl) ?_)
                    refine OpsJ.guard_n rfl rfl rfl rfl rfl ?_
                    refine OpsJ.guard_n rfl rfl rfl rfl rfl ?_
                    refine OpsJ.guard_n rfl rfl rfl rfl rfl ?_
                    refine OpsJ.put rfl (OpJ.pure (OpP.pick_f rfl rfl rfl) ?_)
                    refine OpsJ.put rfl (OpJ.pure (OpP.move rfl) ?_)
                    refine OpsJ.guard_n rfl rfl rfl rfl rfl ?_
                    refine OpsJ.put rfl (OpJ.pure (OpP.pick_f rfl rfl rfl) ?_)
                    refine OpsJ.put rfl (OpJ.pure (OpP.assign rfl) ?_)
                    refine OpsJ.nil ?_
                    refine CodeJ.ret' ?_
                    obtain rfl := Option.some.inj h134
                    exact Ret.mk0 ⟨rfl, rfl⟩ (ResJ.one Try.results9 rfl) (IM.le_refl _) (SubL.nil _)
                · rw [if_neg hc135] at h134
                  refine OpsJ.guard_n rfl rfl rfl rfl (Bool.eq_false_iff.2 hc135) ?_
                  refine OpsJ.guard_n rfl rfl rfl rfl (Bool.eq_false_iff.2 hc135) ?_
                  refine OpsJ.guard_n rfl rfl rfl rfl (Bool.eq_false_iff.2 hc135) ?_
                  refine OpsJ.put rfl (OpJ.pure (OpP.pick_f rfl (Bool.eq_false_iff.2 hc135) rfl) ?_)
                  refine OpsJ.put rfl (OpJ.pure (OpP.move rfl) ?_)
                  refine OpsJ.guard_n rfl rfl rfl rfl rfl ?_
                  refine OpsJ.guard_n rfl rfl rfl rfl rfl ?_
                  refine OpsJ.guard_n rfl rfl rfl rfl rfl ?_
                  refine OpsJ.put rfl (OpJ.pure (OpP.pick_f rfl rfl rfl) ?_)
                  refine OpsJ.put rfl (OpJ.pure (OpP.move rfl) ?_)
                  refine OpsJ.guard_n rfl rfl rfl rfl rfl ?_
                  refine OpsJ.guard_n rfl rfl rfl rfl rfl ?_
                  refine OpsJ.guard_n rfl rfl rfl rfl rfl ?_
                  refine OpsJ.put rfl (OpJ.pure (OpP.pick_f rfl rfl rfl) ?_)
                  refine OpsJ.put rfl (OpJ.pure (OpP.move rfl) ?_)
                  refine OpsJ.guard_n rfl rfl rfl rfl rfl ?_
                  refine OpsJ.put rfl (OpJ.pure (OpP.pick_f rfl rfl rfl) ?_)
                  refine OpsJ.put rfl (OpJ.pure (OpP.assign rfl) ?_)
                  refine OpsJ.nil ?_
                  refine CodeJ.ret' ?_
                  obtain rfl := Option.some.inj h134
                  exact Ret.mk0 ⟨rfl, rfl⟩ (ResJ.one Try.results9 rfl) (IM.le_refl _) (SubL.nil _)
              · rw [if_neg hc126] at h123
                refine OpsJ.guard_n rfl rfl rfl rfl (Bool.eq_false_iff.2 hc126) ?_
                refine OpsJ.guard_n rfl rfl rfl rfl (Bool.eq_false_iff.2 hc126) ?_
                refine OpsJ.guard_n rfl rfl rfl rfl (Bool.eq_false_iff.2 hc126) ?_
                refine OpsJ.put rfl (OpJ.pure (OpP.pick_f rfl (Bool.eq_false_iff.2 hc126) rfl) ?_)
                refine OpsJ.put rfl (OpJ.pure (OpP.move rfl) ?_)
                refine OpsJ.guard_n rfl rfl rfl rfl rfl ?_
                refine OpsJ.guard_n rfl rfl rfl rfl rfl ?_
                refine OpsJ.guard_n rfl rfl rfl rfl rfl ?_
                refine OpsJ.put rfl (OpJ.pure (OpP.pick_f rfl rfl rfl) ?_)
                refine OpsJ.put rfl (OpJ.pure (OpP.move rfl) ?_)
                refine OpsJ.guard_n rfl rfl rfl rfl rfl ?_
                refine OpsJ.guard_n rfl rfl rfl rfl rfl ?_
                refine OpsJ.guard_n rfl rfl rfl rfl rfl ?_
                refine OpsJ.put rfl (OpJ.pure (OpP.pick_f rfl rfl rfl) ?_)
                refine OpsJ.put rfl (OpJ.pure (OpP.move rfl) ?_)
                refine OpsJ.guard_n rfl rfl rfl rfl rfl ?_
                refine OpsJ.guard_n rfl rfl rfl rfl rfl ?_
                refine OpsJ.guard_n rfl rfl rfl rfl rfl ?_
                refine OpsJ.put rfl (OpJ.pure (OpP.pick_f rfl rfl rfl) ?_)
                refine OpsJ.put rfl (OpJ.pure (OpP.move rfl) ?_)
                refine OpsJ.guard_n rfl rfl rfl rfl rfl ?_
                refine OpsJ.put rfl (OpJ.pure (OpP.pick_f rfl rfl rfl) ?_)
                refine OpsJ.put rfl (OpJ.pure (OpP.assign rfl) ?_)
                refine OpsJ.nil ?_
                refine CodeJ.ret' ?_
                obtain rfl := Option.some.inj h123
                exact Ret.mk0 ⟨rfl, rfl⟩ (ResJ.one Try.results9 rfl) (IM.le_refl _) (SubL.nil _)
            · rw [if_neg hc125] at h123
              refine OpsJ.guard_n rfl rfl rfl rfl (decide_eq_false hc125) ?_
              refine OpsJ.guard_n rfl rfl rfl rfl (decide_eq_false hc125) ?_
              refine OpsJ.guard_n rfl rfl rfl rfl (decide_eq_false hc125) ?_
              refine OpsJ.put rfl (OpJ.pure (OpP.pick_f rfl (decide_eq_false hc125) rfl) ?_)
              refine OpsJ.put rfl (OpJ.pure (OpP.move rfl) ?_)
              refine OpsJ.guard_n rfl rfl rfl rfl rfl ?_
              refine OpsJ.guard_n rfl rfl rfl rfl rfl ?_
              refine OpsJ.guard_n rfl rfl rfl rfl rfl ?_
              refine OpsJ.put rfl (OpJ.pure (OpP.pick_f rfl rfl rfl) ?_)
              refine OpsJ.put rfl (OpJ.pure (OpP.move rfl) ?_)
              refine OpsJ.guard_n rfl rfl rfl rfl rfl ?_
              refine OpsJ.guard_n rfl rfl rfl rfl rfl ?_
              refine OpsJ.guard_n rfl rfl rfl rfl rfl ?_
              refine OpsJ.put rfl (OpJ.pure (OpP.pick_f rfl rfl rfl) ?_)
              refine OpsJ.put rfl (OpJ.pure (OpP.move rfl) ?_)
              refine OpsJ.guard_n rfl rfl rfl rfl rfl ?_
              refine OpsJ.guard_n rfl rfl rfl rfl rfl ?_
              refine OpsJ.guard_n rfl rfl rfl rfl rfl ?_
              refine OpsJ.put rfl (OpJ.pure (OpP.pick_f rfl rfl rfl) ?_)
              refine OpsJ.put rfl (OpJ.pure (OpP.move rfl) ?_)
              refine OpsJ.guard_n rfl rfl rfl rfl rfl ?_
              refine OpsJ.guard_n rfl rfl rfl rfl rfl ?_
              refine OpsJ.guard_n rfl rfl rfl rfl rfl ?_
              refine OpsJ.put rfl (OpJ.pure (OpP.pick_f rfl rfl rfl) ?_)
              refine OpsJ.put rfl (OpJ.pure (OpP.move rfl) ?_)
              refine OpsJ.guard_n rfl rfl rfl rfl rfl ?_
              refine OpsJ.put rfl (OpJ.pure (OpP.pick_f rfl rfl rfl) ?_)
              refine OpsJ.put rfl (OpJ.pure (OpP.assign rfl) ?_)
              refine OpsJ.nil ?_
              refine CodeJ.ret' ?_
              obtain rfl := Option.some.inj h123
              exact Ret.mk0 ⟨rfl, rfl⟩ (ResJ.one Try.results9 rfl) (IM.le_refl _) (SubL.nil _)
          · rw [if_neg hc124] at h123
            refine OpsJ.guard_n rfl rfl rfl rfl (Bool.eq_false_iff.2 hc124) ?_
            refine OpsJ.guard_n rfl rfl rfl rfl (Bool.eq_false_iff.2 hc124) ?_
            refine OpsJ.guard_n rfl rfl rfl rfl (Bool.eq_false_iff.2 hc124) ?_
            refine OpsJ.put rfl (OpJ.pure (OpP.pick_f rfl (Bool.eq_false_iff.2 hc124) rfl) ?_)
            refine OpsJ.put rfl (OpJ.pure (OpP.move rfl) ?_)
            refine OpsJ.guard_n rfl rfl rfl rfl rfl ?_
            refine OpsJ.guard_n rfl rfl rfl rfl rfl ?_
            refine OpsJ.guard_n rfl rfl rfl rfl rfl ?_
            refine OpsJ.put rfl (OpJ.pure (OpP.pick_f rfl rfl rfl) ?_)
            refine OpsJ.put rfl (OpJ.pure (OpP.move rfl) ?_)
            refine OpsJ.guard_n rfl rfl rfl rfl rfl ?_
            refine OpsJ.guard_n rfl rfl rfl rfl rfl ?_
            refine OpsJ.guard_n rfl rfl rfl rfl rfl ?_
            refine OpsJ.put rfl (OpJ.pure (OpP.pick_f rfl rfl rfl) ?_)
            refine OpsJ.put rfl (OpJ.pure (OpP.move rfl) ?_)
            refine OpsJ.guard_n rfl rfl rfl rfl rfl ?_
            refine OpsJ.guard_n rfl rfl rfl rfl rfl ?_
            refine OpsJ.guard_n rfl rfl rfl rfl rfl ?_
            refine OpsJ.put rfl (OpJ.pure (OpP.pick_f rfl rfl rfl) ?_)
            refine OpsJ.put rfl (OpJ.pure (OpP.move rfl) ?_)
            refine OpsJ.guard_n rfl rfl rfl rfl rfl ?_
            refine OpsJ.guard_n rfl rfl rfl rfl rfl ?_
            refine OpsJ.guard_n rfl rfl rfl rfl rfl ?_
            refine OpsJ.put rfl (OpJ.pure (OpP.pick_f rfl rfl rfl) ?_)
            refine OpsJ.put rfl (OpJ.pure (OpP.move rfl) ?_)
            refine OpsJ.guard_n rfl rfl rfl rfl rfl ?_
            refine OpsJ.guard_n rfl rfl rfl rfl rfl ?_
            refine OpsJ.guard_n rfl rfl rfl rfl rfl ?_
            refine OpsJ.put rfl (OpJ.pure (OpP.pick_f rfl rfl rfl) ?_)
            refine OpsJ.put rfl (OpJ.pure (OpP.move rfl) ?_)
            refine OpsJ.guard_n rfl rfl rfl rfl rfl ?_
            refine OpsJ.put rfl (OpJ.pure (OpP.pick_f rfl rfl rfl) ?_)
            refine OpsJ.put rfl (OpJ.pure (OpP.assign rfl) ?_)
            refine OpsJ.nil ?_
            refine CodeJ.ret' ?_
            obtain rfl := Option.some.inj h123
            exact Ret.mk0 ⟨rfl, rfl⟩ (ResJ.one Try.results9 rfl) (IM.le_refl _) (SubL.nil _)
end Go.Proofs.Ytcbnamlioeiaeaa.FW
