/- printed by ex.py: walks -/
import Derived.Test.YtdicpnnmhjgnbaaX6
import Derived.Test.YtdicpnnmhjgnbaaT2
import Derived.Test.YtdicpnnmhjgnbaaPkQ
import Derived.Test.YtdicpnnmhjgnbaaPkK0
import Derived.Test.YtdicpnnmhjgnbaaOcK1
namespace Go.Proofs.Ytdicpnnmhjgnbaa.FW
open Go Go.RowKit Go.Proofs
set_option linter.unusedVariables false
set_option linter.unusedSimpArgs false
set_option maxRecDepth 100000
set_option maxHeartbeats 4000000
attribute [local irreducible] OpsJ CodeJ OpJ OpQ OpP QuietJ CallJ HoldJ StepAt Src RC SlR repL
theorem pack_Best_w (R : IM) (A0_ : Option Addr) (n0_ c0_ : Nat) (p0_l : List Int) (hA0_ : SlR R A0_ p0_l) (hn0_ : p0_l.length = n0_) (hc0_ : n0_ ≤ c0_) (y : (List UInt8) × Int) (h : pack_Best p0_l = some y) :
    CallJ Try.prog 36 #[.slice A0_ n0_ c0_] ⟨R, []⟩ (fun v D hs' => ∃ (B1 : Option Addr) (d2 : Nat) (ds3 : List Value), v = .tuple #[.slice B1 y.1.length d2, .int .i64 y.2] ∧ repL IM.nil ds3 y.1 ∧ hs' = [.row 5 1 B1 y.1.length d2 ds3]) := by
  subst hn0_
  unfold pack_Best at h
  refine CallJ.of1 Try.func36 rfl Try.ntmps36 rfl (fun W0 => ?_)
  refine CodeJ.seq' ?_
  refine CodeJ.region ?_
  refine OpsJ.put rfl (OpJ.pure (OpP.assign rfl) ?_)
  refine OpsJ.put rfl (OpJ.pure (OpP.assign rfl) ?_)
  refine OpsJ.nil ?_
  refine CodeJ.seq' ?_
  refine CodeJ.region ?_
  refine OpsJ.put rfl (OpJ.pure (OpP.move rfl) ?_)
  obtain ⟨y4, hy5, h6⟩ := bind_ok h
  clear h
  refine OpsJ.put rfl (OpJ.callP Split.nil rfl (fun R1 hle2 hin3 => pack_Plain_w R1 A0_ p0_l.length c0_ p0_l (SlR.mono hA0_ (IM.le_trans (IM.le_refl _) hle2)) rfl hc0_  _ hy5) ?_)
  rintro _ _ _ ⟨A7, c8, cs9, rfl, hr10, rfl⟩
  refine OpsJ.put rfl (OpJ.pure (OpP.move rfl) ?_)
  refine OpsJ.put rfl (OpJ.pure (OpP.extract rfl rfl) ?_)
  refine OpsJ.put rfl (OpJ.pure (OpP.extract rfl rfl) ?_)
  refine OpsJ.put rfl (OpJ.pure (OpP.assign rfl) ?_)
  refine OpsJ.put rfl (OpJ.pure (OpP.assign rfl) ?_)
  refine OpsJ.nil ?_
  refine CodeJ.seq' ?_
  refine CodeJ.seq' ?_
  refine CodeJ.region ?_
  refine OpsJ.put rfl (OpJ.pure (OpP.assign rfl) ?_)
  refine OpsJ.nil ?_
  obtain ⟨t76, hl77, h78⟩ := bind_ok h6
  clear h6
  refine CodeJ.mid (fun e s => ∃ (A69 : Option Addr) (c70 : Nat) (cs71 : List Value) (best_68 : List UInt8), best_68 = t76 ∧ repL IM.nil cs71 best_68 ∧ e = [(4, .slice A69 best_68.length c70), (5, .int .i64 y4.2)] ∧ s = ⟨R, [.row 5 1 A69 best_68.length c70 cs71]⟩) ?_ ?_
  · refine CodeJ.block ?_
    refine CodeJ.loopM hl77 (fun (best_47, way_53) e s => ∃ (A48 : Option Addr) (c49 : Nat) (cs50 : List Value), repL IM.nil cs50 best_47 ∧ e = [(0, .slice A0_ p0_l.length c0_), (4, .slice A48 best_47.length c49), (5, .int .i64 y4.2), (6, .int .i64 way_53)] ∧ s = ⟨R, [.row 5 1 A48 best_47.length c49 cs50]⟩) ⟨A7, c8, cs9, hr10, rfl, rfl⟩ (SubE.cons rfl (SubE.cons rfl (SubE.cons rfl (SubE.cons rfl (SubE.nil _))))) (SubL.p0 (SubL.nil _)) ?_
    rintro ⟨best_47, way_53⟩ _ _ _ ⟨A48, c49, cs50, hr51, rfl, rfl⟩ h74 hne75
    (try dsimp only at h74); unfold pack_Best_l0 at h74
    refine CodeJ.seq' ?_
    refine CodeJ.seq' ?_
    refine CodeJ.region ?_
    refine OpsJ.put rfl (OpJ.pure (OpP.move rfl) ?_)
    refine OpsJ.put rfl (OpJ.pure (OpP.leq rfl rfl) ?_)
    refine OpsJ.put rfl (OpJ.pure (OpP.move rfl) ?_)
    by_cases hc79 : way_53 ≤ 2
    · rw [if_pos hc79] at h74
      refine OpsJ.guard_y rfl rfl rfl rfl (decide_eq_true hc79) ?_
      refine OpsJ.put rfl (OpJ.pure (OpP.move rfl) ?_)
      refine OpsJ.guard_y rfl rfl rfl rfl (decide_eq_true hc79) ?_
      refine OpsJ.put rfl (OpJ.pure (OpP.eql rfl rfl) ?_)
      refine OpsJ.put rfl (OpJ.pure (OpP.pick_t rfl (decide_eq_true hc79) rfl) ?_)
      refine OpsJ.nil ?_
      by_cases hc80 : y4.2 = 0
      · rw [if_pos hc80] at h74
        refine CodeJ.cond_t rfl (decide_eq_true hc80) ?_
        refine CodeJ.skip ?_
        refine CodeJ.seq' ?_
        refine CodeJ.block ?_
        refine CodeJ.seq' ?_
        refine CodeJ.region ?_
        refine OpsJ.put rfl (OpJ.pure (OpP.move rfl) ?_)
        refine OpsJ.put rfl (OpJ.pure (OpP.move rfl) ?_)
        obtain ⟨y84, hy85, h86⟩ := bind_ok h74
        clear h74
        refine OpsJ.put rfl (OpJ.callP Split.nil rfl (fun R81 hle82 hin83 => pack_told_w R81 way_53 A0_ p0_l.length c0_ p0_l (SlR.mono hA0_ (IM.le_trans (IM.le_refl _) hle82)) rfl hc0_  _ hy85) ?_)
        rintro _ _ _ ⟨A87, c88, cs89, rfl, hr90, rfl⟩
        refine OpsJ.put rfl (OpJ.pure (OpP.move rfl) ?_)
        refine OpsJ.put rfl (OpJ.pure (OpP.extract rfl rfl) ?_)
        refine OpsJ.put rfl (OpJ.pure (OpP.extract rfl rfl) ?_)
        refine OpsJ.put rfl (OpJ.pure (OpP.assign rfl) ?_)
        refine OpsJ.put rfl (OpJ.pure (OpP.assign rfl) ?_)
        refine OpsJ.nil ?_
        refine CodeJ.seq' ?_
        refine CodeJ.region ?_
        refine OpsJ.put rfl (OpJ.pure (OpP.move rfl) ?_)
        refine OpsJ.put rfl (OpJ.pure (OpP.len rfl) ?_)
        refine OpsJ.put rfl (OpJ.pure (OpP.move rfl) ?_)
        refine OpsJ.put rfl (OpJ.pure (OpP.len rfl) ?_)
        refine OpsJ.put rfl (OpJ.pure (OpP.lss rfl rfl) ?_)
        refine OpsJ.nil ?_
        by_cases hc92 : ((y84.1.length : Nat) : Int) < ((best_47.length : Nat) : Int)
        · rw [if_pos hc92] at h86
          refine CodeJ.cond_t rfl (decide_eq_true hc92) ?_
          refine CodeJ.region ?_
          refine OpsJ.put rfl (OpJ.pure (OpP.move rfl) ?_)
          refine OpsJ.put rfl (OpJ.pure (OpP.assign rfl) ?_)
          refine OpsJ.nil ?_
          refine CodeJ.region ?_
          refine OpsJ.put rfl (OpJ.pure (OpP.move rfl) ?_)
          refine OpsJ.put rfl (OpJ.pure (OpP.add64 rfl rfl) ?_)
          refine OpsJ.put rfl (OpJ.pure (OpP.assign rfl) ?_)
          refine OpsJ.nil ?_
          obtain rfl := Option.some.inj h86
          exact ⟨_, _, _, _, rfl, ⟨A87, c88, cs89, hr90, rfl, rfl⟩, IM.le_refl _, (SubE.cons rfl (SubE.cons rfl (SubE.cons rfl (SubE.cons rfl (SubE.nil _))))), (SubL.p0 (SubL.nil _))⟩
        · rw [if_neg hc92] at h86
          refine CodeJ.cond_f rfl (decide_eq_false hc92) ?_
          refine CodeJ.skip ?_
          refine CodeJ.region ?_
          refine OpsJ.put rfl (OpJ.pure (OpP.move rfl) ?_)
          refine OpsJ.put rfl (OpJ.pure (OpP.add64 rfl rfl) ?_)
          refine OpsJ.put rfl (OpJ.pure (OpP.assign rfl) ?_)
          refine OpsJ.nil ?_
          obtain rfl := Option.some.inj h86
          exact ⟨_, _, _, _, rfl, ⟨A48, c49, cs50, hr51, rfl, rfl⟩, IM.le_refl _, (SubE.cons rfl (SubE.cons rfl (SubE.cons rfl (SubE.cons rfl (SubE.nil _))))), (SubL.p1 (SubL.nil _))⟩
      · rw [if_neg hc80] at h74
        refine CodeJ.cond_f rfl (decide_eq_false hc80) ?_
        refine CodeJ.exit rfl ?_
        obtain rfl := Option.some.inj h74
        have ht93 := hne75 _ rfl
        exact ⟨_, _, _, ⟨A48, c49, cs50, best_47, ht93, hr51, rfl, rfl⟩, IM.le_refl _, (SubE.cons rfl (SubE.cons rfl (SubE.nil _))), (SubL.p0 (SubL.nil _))⟩
    · rw [if_neg hc79] at h74
      refine OpsJ.guard_n rfl rfl rfl rfl (decide_eq_false hc79) ?_
      refine OpsJ.guard_n rfl rfl rfl rfl (decide_eq_false hc79) ?_
      refine OpsJ.put rfl (OpJ.pure (OpP.pick_f rfl (decide_eq_false hc79) rfl) ?_)
      refine OpsJ.nil ?_
      refine CodeJ.cond_f rfl rfl ?_
      refine CodeJ.exit rfl ?_
      obtain rfl := Option.some.inj h74
      have ht94 := hne75 _ rfl
      exact ⟨_, _, _, ⟨A48, c49, cs50, best_47, ht94, hr51, rfl, rfl⟩, IM.le_refl _, (SubE.cons rfl (SubE.cons rfl (SubE.nil _))), (SubL.p0 (SubL.nil _))⟩
  · rintro _ _ ⟨A69, c70, cs71, best_68, rfl, hr72, rfl, rfl⟩
    (try dsimp only at h78)
    refine CodeJ.seq' ?_
    refine CodeJ.region ?_
    refine OpsJ.put rfl (OpJ.pure (OpP.move rfl) ?_)
    refine OpsJ.put rfl (OpJ.pure (OpP.move rfl) ?_)
    refine OpsJ.put rfl (OpJ.pure (OpP.assign rfl) ?_)
    refine OpsJ.put rfl (OpJ.pure (OpP.assign rfl) ?_)
    refine OpsJ.nil ?_
    refine CodeJ.ret' ?_
    obtain rfl := Option.some.inj h78
    exact Ret.mk0 ⟨A69, c70, cs71, rfl, hr72, rfl⟩ (ResJ.two Try.results36 rfl rfl) (IM.le_refl _) (SubL.p0 (SubL.nil _))
theorem winnowerlaw16_known_w (R : IM)  (y : Bool) (h : winnowerlaw16_known = some y) :
    CallJ Try.prog 38 #[] ⟨R, []⟩ (fun v D hs' => v = .bool y ∧ hs' = []) := by
  unfold winnowerlaw16_known at h
  refine CallJ.of0 Try.func38 rfl Try.ntmps38 (fun W0 => ?_)
  refine CodeJ.seq' ?_
  refine CodeJ.region ?_
  refine OpsJ.put rfl (OpJ.pure (OpP.assign rfl) ?_)
  refine OpsJ.nil ?_
  refine CodeJ.seq' ?_
  refine CodeJ.region ?_
  have hr2 : repL IM.nil [.int .i64 7, .int .i64 7, .int .i64 7, .int .i64 7, .int .i64 7] ([7, 7, 7, 7, 7] : List Int) := (repL_cons (c1 := [.int .i64 7]) (show Dat.rep _ _ 7 from rfl) (repL_cons (c1 := [.int .i64 7]) (show Dat.rep _ _ 7 from rfl) (repL_cons (c1 := [.int .i64 7]) (show Dat.rep _ _ 7 from rfl) (repL_cons (c1 := [.int .i64 7]) (show Dat.rep _ _ 7 from rfl) (repL_cons (c1 := [.int .i64 7]) (show Dat.rep _ _ 7 from rfl) (repL_nil _))))))
  refine OpsJ.put rfl (OpJ.buildSliceC (cs := [.int .i64 7, .int .i64 7, .int .i64 7, .int .i64 7, .int .i64 7]) rfl rfl (by exact rfl) (by exact rfl) (by exact rfl) (by exact rfl) (fun g1 => ?_))
  refine OpsJ.rowle (List.Perm.refl _) (fun hcap4 _ => ?_)
  obtain ⟨y8, hy9, h10⟩ := bind_ok h
  clear h
  refine OpsJ.put rfl (OpJ.callP Split.nil rfl (fun R5 hle6 hin7 => pack_Best_w R5 (some ⟨g1, 0, none⟩) 5 5 ([7, 7, 7, 7, 7] : List Int) (SlR.of_row (inRow hin7 (List.Mem.head _)) hr2 (IM.le_nil _)) rfl hcap4  _ hy9) ?_)
  rintro _ _ _ ⟨A11, c12, cs13, rfl, hr14, rfl⟩
  refine OpsJ.put rfl (OpJ.pure (OpP.move rfl) ?_)
  refine OpsJ.put rfl (OpJ.pure (OpP.extract rfl rfl) ?_)
  refine OpsJ.put rfl (OpJ.pure (OpP.extract rfl rfl) ?_)
  refine OpsJ.put rfl (OpJ.pure (OpP.assign rfl) ?_)
  refine OpsJ.put rfl (OpJ.pure (OpP.assign rfl) ?_)
  refine OpsJ.nil ?_
  refine CodeJ.seq' ?_
  refine CodeJ.region ?_
  refine OpsJ.put rfl (OpJ.pure (OpP.move rfl) ?_)
  refine OpsJ.put rfl (OpJ.pure (OpP.eql rfl rfl) ?_)
  refine OpsJ.put rfl (OpJ.pure (OpP.move rfl) ?_)
  by_cases hc16 : y8.2 = 0
  · rw [if_pos hc16] at h10
    refine OpsJ.guard_y rfl rfl rfl rfl (decide_eq_true hc16) ?_
    refine OpsJ.put rfl (OpJ.pure (OpP.move rfl) ?_)
    refine OpsJ.guard_y rfl rfl rfl rfl (decide_eq_true hc16) ?_
    refine OpsJ.put rfl (OpJ.pure (OpP.strW (List.Mem.head _) hr14 rfl rfl) ?_)
    refine OpsJ.guard_y rfl rfl rfl rfl (decide_eq_true hc16) ?_
    refine OpsJ.put rfl (OpJ.pure (OpP.eql_string rfl rfl) ?_)
    refine OpsJ.put rfl (OpJ.pure (OpP.pick_t rfl (decide_eq_true hc16) rfl) ?_)
    refine OpsJ.put rfl (OpJ.pure (OpP.assign rfl) ?_)
    refine OpsJ.nil ?_
    refine CodeJ.ret' ?_
    obtain rfl := Option.some.inj h10
    exact Ret.mk0 ⟨rfl, rfl⟩ (ResJ.one Try.results38 rfl) (IM.le_refl _) (SubL.nil _)
  · rw [if_neg hc16] at h10
    refine OpsJ.guard_n rfl rfl rfl rfl (decide_eq_false hc16) ?_
    refine OpsJ.guard_n rfl rfl rfl rfl (decide_eq_false hc16) ?_
    refine OpsJ.guard_n rfl rfl rfl rfl (decide_eq_false hc16) ?_
    refine OpsJ.put rfl (OpJ.pure (OpP.pick_f rfl (decide_eq_false hc16) rfl) ?_)
    refine OpsJ.put rfl (OpJ.pure (OpP.assign rfl) ?_)
    refine OpsJ.nil ?_
    refine CodeJ.ret' ?_
    obtain rfl := Option.some.inj h10
    exact Ret.mk0 ⟨rfl, rfl⟩ (ResJ.one Try.results38 rfl) (IM.le_refl _) (SubL.nil _)
theorem pack_Decode_w (R : IM) (A0_ : Option Addr) (n0_ c0_ : Nat) (p0_b : List UInt8) (hA0_ : SlR R A0_ p0_b) (hn0_ : p0_b.length = n0_) (hc0_ : n0_ ≤ c0_) (y : (List Int) × Int) (h : pack_Decode p0_b = some y) :
    CallJ Try.prog 54 #[.slice A0_ n0_ c0_] ⟨R, []⟩ (fun v D hs' => ∃ (B1 : Option Addr) (d2 : Nat) (ds3 : List Value), v = .tuple #[.slice B1 y.1.length d2, .int .i64 y.2] ∧ repL IM.nil ds3 y.1 ∧ hs' = [.row 3 1 B1 y.1.length d2 ds3]) := by
  subst hn0_
  unfold pack_Decode at h
  refine CallJ.of1 Try.func54 rfl Try.ntmps54 rfl (fun W0 => ?_)
  refine CodeJ.seq' ?_
  refine CodeJ.region ?_
  refine OpsJ.put rfl (OpJ.pure (OpP.assign rfl) ?_)
  refine OpsJ.put rfl (OpJ.pure (OpP.assign rfl) ?_)
  refine OpsJ.nil ?_
  refine CodeJ.seq' ?_
  refine CodeJ.region ?_
  refine OpsJ.put rfl (OpJ.pure (OpP.move rfl) ?_)
  obtain ⟨y4, hy5, h6⟩ := bind_ok h
  clear h
  refine OpsJ.put rfl (OpJ.callD Split.nil rfl (fun R1 hle2 hin3 => octet_NewReader_w R1 R (IM.le_trans (IM.le_refl _) hle2) A0_ p0_b.length c0_ p0_b (SlR.mono hA0_ (IM.le_trans (IM.le_refl _) hle2)) rfl hc0_  _ hy5) ?_)
  rintro _ D7 _ ⟨g9, A10, c11, rfl, hc12, hA13, rfl⟩ hd8
  refine OpsJ.put rfl (OpJ.pure (OpP.assign rfl) ?_)
  refine OpsJ.nil ?_
  refine CodeJ.seq' ?_
  refine CodeJ.region ?_
  refine OpsJ.put rfl (OpJ.pure (OpP.move rfl) ?_)
  obtain ⟨y18, hy19, h20⟩ := bind_ok h6
  clear h6
  refine OpsJ.put rfl (OpJ.callP (Split.p0 Split.nil) rfl (fun R15 hle16 hin17 => octet_Reader_Num_w R15 (R.or D7) (IM.le_trans (IM.le_refl _) hle16) g9 (y4.1, y4.2) A10 c11 hc12 (SlR.mono hA13 (IM.le_refl _))  _ hy19) ?_)
  rintro _ _ _ ⟨A21, c22, rfl, hc23, hA24, rfl⟩
  refine OpsJ.put rfl (OpJ.pure (OpP.assign rfl) ?_)
  refine OpsJ.nil ?_
  refine CodeJ.seq' ?_
  refine CodeJ.region ?_
  refine OpsJ.put rfl (OpJ.pure (OpP.move rfl) ?_)
  refine OpsJ.put rfl (OpJ.pure (OpP.move rfl) ?_)
  refine OpsJ.put rfl (OpJ.pure (OpP.move rfl) ?_)
  obtain ⟨y28, hy29, h30⟩ := bind_ok h20
  clear h20
  refine OpsJ.put rfl (OpJ.callP (Split.p0 Split.nil) rfl (fun R25 hle26 hin27 => octet_Reader_Num_w R25 (R.or D7) (IM.le_trans (IM.le_refl _) hle26) g9 (y18.1.1, y18.1.2) A21 c22 hc23 (SlR.mono hA24 (IM.le_refl _))  _ hy29) ?_)
  rintro _ _ _ ⟨A31, c32, rfl, hc33, hA34, rfl⟩
  obtain ⟨y38, hy39, h40⟩ := bind_ok h30
  clear h30
  refine OpsJ.put rfl (OpJ.callP (Split.p0 Split.nil) rfl (fun R35 hle36 hin37 => pack_take_w R35 (R.or D7) (IM.le_trans (IM.le_refl _) hle36) g9 (y28.1.1, y28.1.2) A31 c32 hc33 (SlR.mono hA34 (IM.le_refl _)) y18.2 y28.2  _ hy39) ?_)
  rintro _ _ _ ⟨A41, c42, A45, c46, cs47, rfl, hc43, hA44, hr48, rfl⟩
  refine OpsJ.put rfl (OpJ.pure (OpP.assign rfl) ?_)
  refine OpsJ.nil ?_
  refine CodeJ.seq' ?_
  refine CodeJ.seq' ?_
  refine CodeJ.region ?_
  refine OpsJ.put rfl (OpJ.pure (OpP.move rfl) ?_)
  obtain ⟨y53, hy54, h55⟩ := bind_ok h40
  clear h40
  refine OpsJ.put rfl (OpJ.callP (Split.p0 Split.nil) rfl (fun R50 hle51 hin52 => octet_Reader_Whole_w R50 (R.or D7) (IM.le_trans (IM.le_refl _) hle51) g9 (y38.1.1, y38.1.2) A41 c42 hc43 (SlR.mono hA44 (IM.le_refl _))  _ hy54) ?_)
  rintro _ _ _ ⟨A56, c57, rfl, hc58, hA59, rfl⟩
  refine OpsJ.put rfl (OpJ.pure (OpP.not rfl) ?_)
  refine OpsJ.put rfl (OpJ.pure (OpP.move rfl) ?_)
  by_cases hc60 : y53.2 = true
  · rw [if_pos hc60] at h55
    refine OpsJ.guard_y rfl rfl rfl rfl (congrArg Bool.not hc60) ?_
    refine OpsJ.put rfl (OpJ.pure (OpP.move rfl) ?_)
    refine OpsJ.guard_y rfl rfl rfl rfl (congrArg Bool.not hc60) ?_
    refine OpsJ.put rfl (OpJ.pure (OpP.gtr rfl rfl) ?_)
    refine OpsJ.put rfl (OpJ.pure (OpP.pick_f rfl (congrArg Bool.not hc60) rfl) ?_)
    refine OpsJ.nil ?_
    by_cases hc61 : y18.2 > 2
    · rw [if_pos hc61] at h55
      refine CodeJ.cond_t rfl (decide_eq_true hc61) ?_
      refine CodeJ.seq' ?_
      refine CodeJ.region ?_
      refine OpsJ.put rfl (OpJ.pure (OpP.assign rfl) ?_)
      refine OpsJ.put rfl (OpJ.pure (OpP.assign rfl) ?_)
      refine OpsJ.nil ?_
      refine CodeJ.nilrow 3 1 ?_
      refine CodeJ.ret' ?_
      obtain rfl := Option.some.inj h55
      exact Ret.mk0 ⟨none, 0, ([] : List Value), rfl, (repL_nil IM.nil), rfl⟩ (ResJ.two Try.results54 rfl rfl) (IM.le_trans (IM.le_refl _) (IM.le_or _ _)) (SubL.p0 (SubL.nil _))
    · rw [if_neg hc61] at h55
      refine CodeJ.cond_f rfl (decide_eq_false hc61) ?_
      refine CodeJ.skip ?_
      refine CodeJ.seq' ?_
      refine CodeJ.seq' ?_
      refine CodeJ.region ?_
      refine OpsJ.put rfl (OpJ.pure (OpP.move rfl) ?_)
      refine OpsJ.put rfl (OpJ.pure (OpP.move rfl) ?_)
      refine OpsJ.rowle (List.Perm.swap _ _ _) (fun hcap65 _ => ?_)
      obtain ⟨y69, hy70, h71⟩ := bind_ok h55
      clear h55
      refine OpsJ.put rfl (OpJ.callP Split.nil rfl (fun R66 hle67 hin68 => pack_told_w R66 y18.2 A45 y38.2.length c46 y38.2 (SlR.of_row (inRow hin68 (List.Mem.tail _ (List.Mem.head _))) hr48 (IM.le_nil _)) rfl hcap65  _ hy70) ?_)
      rintro _ _ _ ⟨A72, c73, cs74, rfl, hr75, rfl⟩
      refine OpsJ.put rfl (OpJ.pure (OpP.move rfl) ?_)
      refine OpsJ.put rfl (OpJ.pure (OpP.extract rfl rfl) ?_)
      refine OpsJ.put rfl (OpJ.pure (OpP.extract rfl rfl) ?_)
      refine OpsJ.put rfl (OpJ.pure (OpP.assign rfl) ?_)
      refine OpsJ.put rfl (OpJ.pure (OpP.assign rfl) ?_)
      refine OpsJ.nil ?_
      refine CodeJ.seq' ?_
      refine CodeJ.region ?_
      refine OpsJ.put rfl (OpJ.pure (OpP.move rfl) ?_)
      refine OpsJ.put rfl (OpJ.pure (OpP.neq rfl rfl) ?_)
      refine OpsJ.put rfl (OpJ.pure (OpP.move rfl) ?_)
      by_cases hc77 : y69.2 ≠ 0
      · rw [if_pos hc77] at h71
        refine OpsJ.guard_n rfl rfl rfl rfl (decide_eq_true hc77) ?_
        refine OpsJ.guard_n rfl rfl rfl rfl (decide_eq_true hc77) ?_
        refine OpsJ.guard_n rfl rfl rfl rfl (decide_eq_true hc77) ?_
        refine OpsJ.guard_n rfl rfl rfl rfl (decide_eq_true hc77) ?_
        refine OpsJ.put rfl (OpJ.pure (OpP.pick_t rfl (decide_eq_true hc77) rfl) ?_)
        refine OpsJ.nil ?_
        refine CodeJ.cond_t rfl rfl ?_
        refine CodeJ.seq' ?_
        refine CodeJ.region ?_
        refine OpsJ.put rfl (OpJ.pure (OpP.assign rfl) ?_)
        refine OpsJ.put rfl (OpJ.pure (OpP.assign rfl) ?_)
        refine OpsJ.nil ?_
        refine CodeJ.nilrow 3 1 ?_
        refine CodeJ.ret' ?_
        obtain rfl := Option.some.inj h71
        exact Ret.mk0 ⟨none, 0, ([] : List Value), rfl, (repL_nil IM.nil), rfl⟩ (ResJ.two Try.results54 rfl rfl) (IM.le_trans (IM.le_refl _) (IM.le_or _ _)) (SubL.p0 (SubL.nil _))
      · rw [if_neg hc77] at h71
        refine OpsJ.guard_y rfl rfl rfl rfl (decide_eq_false hc77) ?_
        refine OpsJ.put rfl (OpJ.pure (OpP.move rfl) ?_)
        refine OpsJ.guard_y rfl rfl rfl rfl (decide_eq_false hc77) ?_
        refine OpsJ.put rfl (OpJ.pure (OpP.move rfl) ?_)
        refine OpsJ.guard_y rfl rfl rfl rfl (decide_eq_false hc77) ?_
        refine OpsJ.rowle (List.Perm.refl _) (fun hcap81 _ => ?_)
        obtain ⟨y85, hy86, h87⟩ := bind_ok h71
        clear h71
        refine OpsJ.put rfl (OpJ.call0 rfl (fun R82 hle83 hin84 => bytes_Equal_w R82 A72 y69.1.length c73 y69.1 (SlR.of_row (inRow hin84 (List.Mem.head _)) hr75 (IM.le_nil _)) rfl hcap81 A0_ p0_b.length c0_ p0_b (SlR.mono hA0_ (IM.le_trans (IM.le_trans (IM.le_refl _) (IM.le_or _ _)) hle83)) rfl hc0_  _ hy86) ?_)
        rintro _ _ _ ⟨rfl, rfl⟩
        refine OpsJ.guard_y rfl rfl rfl rfl (decide_eq_false hc77) ?_
        refine OpsJ.put rfl (OpJ.pure (OpP.not rfl) ?_)
        refine OpsJ.put rfl (OpJ.pure (OpP.pick_f rfl (decide_eq_false hc77) rfl) ?_)
        refine OpsJ.nil ?_
        by_cases hc88 : y85 = true
        · rw [if_pos hc88] at h87
          refine CodeJ.cond_f rfl (congrArg Bool.not hc88) ?_
          refine CodeJ.skip ?_
          refine CodeJ.seq' ?_
          refine CodeJ.region ?_
          refine OpsJ.put rfl (OpJ.pure (OpP.move rfl) ?_)
          refine OpsJ.put rfl (OpJ.pure (OpP.assign rfl) ?_)
          refine OpsJ.put rfl (OpJ.pure (OpP.assign rfl) ?_)
          refine OpsJ.nil ?_
          refine CodeJ.ret' ?_
          obtain rfl := Option.some.inj h87
          exact Ret.mk0 ⟨A45, c46, cs47, rfl, hr48, rfl⟩ (ResJ.two Try.results54 rfl rfl) (IM.le_trans (IM.le_refl _) (IM.le_or _ _)) (SubL.p2 (SubL.nil _))
        · rw [if_neg hc88] at h87
          refine CodeJ.cond_t rfl (congrArg Bool.not (Bool.eq_false_iff.2 hc88)) ?_
          refine CodeJ.seq' ?_
          refine CodeJ.region ?_
          refine OpsJ.put rfl (OpJ.pure (OpP.assign rfl) ?_)
          refine OpsJ.put rfl (OpJ.pure (OpP.assign rfl) ?_)
          refine OpsJ.nil ?_
          refine CodeJ.nilrow 3 1 ?_
          refine CodeJ.ret' ?_
          obtain rfl := Option.some.inj h87
          exact Ret.mk0 ⟨none, 0, ([] : List Value), rfl, (repL_nil IM.nil), rfl⟩ (ResJ.two Try.results54 rfl rfl) (IM.le_trans (IM.le_refl _) (IM.le_or _ _)) (SubL.p0 (SubL.nil _))
  · rw [if_neg hc60] at h55
    refine OpsJ.guard_n rfl rfl rfl rfl (congrArg Bool.not (Bool.eq_false_iff.2 hc60)) ?_
    refine OpsJ.guard_n rfl rfl rfl rfl (congrArg Bool.not (Bool.eq_false_iff.2 hc60)) ?_
    refine OpsJ.put rfl (OpJ.pure (OpP.pick_t rfl (congrArg Bool.not (Bool.eq_false_iff.2 hc60)) rfl) ?_)
    refine OpsJ.nil ?_
    refine CodeJ.cond_t rfl rfl ?_
    refine CodeJ.seq' ?_
    refine CodeJ.region ?_
    refine OpsJ.put rfl (OpJ.pure (OpP.assign rfl) ?_)
    refine OpsJ.put rfl (OpJ.pure (OpP.assign rfl) ?_)
    refine OpsJ.nil ?_
    refine CodeJ.nilrow 3 1 ?_
    refine CodeJ.ret' ?_
    obtain rfl := Option.some.inj h55
    exact Ret.mk0 ⟨none, 0, ([] : List Value), rfl, (repL_nil IM.nil), rfl⟩ (ResJ.two Try.results54 rfl rfl) (IM.le_trans (IM.le_refl _) (IM.le_or _ _)) (SubL.p0 (SubL.nil _))
theorem winnowerlaw16_PackTells_w (R : IM) (A0_ : Option Addr) (n0_ c0_ : Nat) (p0_l : List Int) (hA0_ : SlR R A0_ p0_l) (hn0_ : p0_l.length = n0_) (hc0_ : n0_ ≤ c0_) (y : Bool) (h : winnowerlaw16_PackTells p0_l = some y) :
    CallJ Try.prog 7 #[.slice A0_ n0_ c0_] ⟨R, []⟩ (fun v D hs' => v = .bool y ∧ hs' = []) := by
  subst hn0_
  unfold winnowerlaw16_PackTells at h
  refine CallJ.of1 Try.func7 rfl Try.ntmps7 rfl (fun W0 => ?_)
  refine CodeJ.seq' ?_
  refine CodeJ.region ?_
  refine OpsJ.put rfl (OpJ.pure (OpP.assign rfl) ?_)
  refine OpsJ.nil ?_
  refine CodeJ.seq' ?_
  refine CodeJ.seq' ?_
  refine CodeJ.region ?_
  refine OpsJ.put rfl (OpJ.pure (OpP.move rfl) ?_)
  refine OpsJ.put rfl (OpJ.pure (OpP.len rfl) ?_)
  refine OpsJ.put rfl (OpJ.pure (OpP.gtr rfl rfl) ?_)
  refine OpsJ.nil ?_
  by_cases hc1 : ((p0_l.length : Nat) : Int) > 400
  · rw [if_pos hc1] at h
    refine CodeJ.cond_t rfl (decide_eq_true hc1) ?_
    refine CodeJ.seq' ?_
    refine CodeJ.region ?_
    refine OpsJ.put rfl (OpJ.pure (OpP.assign rfl) ?_)
    refine OpsJ.nil ?_
    refine CodeJ.ret' ?_
    obtain rfl := Option.some.inj h
    exact Ret.mk0 ⟨rfl, rfl⟩ (ResJ.one Try.results7 rfl) (IM.le_refl _) (SubL.nil _)
  · rw [if_neg hc1] at h
    refine CodeJ.cond_f rfl (decide_eq_false hc1) ?_
    refine CodeJ.skip ?_
    refine CodeJ.seq' ?_
    refine CodeJ.region ?_
    refine OpsJ.put rfl (OpJ.pure (OpP.move rfl) ?_)
    obtain ⟨y7, hy8, h9⟩ := bind_ok h
    clear h
    refine OpsJ.put rfl (OpJ.callP Split.nil rfl (fun R4 hle5 hin6 => pack_Plain_w R4 A0_ p0_l.length c0_ p0_l (SlR.mono hA0_ (IM.le_trans (IM.le_refl _) hle5)) rfl hc0_  _ hy8) ?_)
    rintro _ _ _ ⟨A10, c11, cs12, rfl, hr13, rfl⟩
    refine OpsJ.put rfl (OpJ.pure (OpP.move rfl) ?_)
    refine OpsJ.put rfl (OpJ.pure (OpP.extract rfl rfl) ?_)
    refine OpsJ.put rfl (OpJ.pure (OpP.extract rfl rfl) ?_)
    refine OpsJ.put rfl (OpJ.pure (OpP.assign rfl) ?_)
    refine OpsJ.put rfl (OpJ.pure (OpP.assign rfl) ?_)
    refine OpsJ.nil ?_
    refine CodeJ.seq' ?_
    refine CodeJ.region ?_
    refine OpsJ.put rfl (OpJ.pure (OpP.move rfl) ?_)
    obtain ⟨y18, hy19, h20⟩ := bind_ok h9
    clear h9
    refine OpsJ.put rfl (OpJ.callP Split.nil rfl (fun R15 hle16 hin17 => winnowerref16_Plain_w R15 A0_ p0_l.length c0_ p0_l (SlR.mono hA0_ (IM.le_trans (IM.le_refl _) hle16)) rfl hc0_  _ hy19) ?_)
    rintro _ _ _ ⟨A21, c22, cs23, rfl, hr24, rfl⟩
    refine OpsJ.put rfl (OpJ.pure (OpP.move rfl) ?_)
    refine OpsJ.put rfl (OpJ.pure (OpP.extract rfl rfl) ?_)
    refine OpsJ.put rfl (OpJ.pure (OpP.extract rfl rfl) ?_)
    refine OpsJ.put rfl (OpJ.pure (OpP.assign rfl) ?_)
    refine OpsJ.put rfl (OpJ.pure (OpP.assign rfl) ?_)
    refine OpsJ.nil ?_
    refine CodeJ.seq' ?_
    refine CodeJ.region ?_
    refine OpsJ.put rfl (OpJ.pure (OpP.move rfl) ?_)
    obtain ⟨y29, hy30, h31⟩ := bind_ok h20
    clear h20
    refine OpsJ.put rfl (OpJ.callP Split.nil rfl (fun R26 hle27 hin28 => pack_Delta_w R26 A0_ p0_l.length c0_ p0_l (SlR.mono hA0_ (IM.le_trans (IM.le_refl _) hle27)) rfl hc0_  _ hy30) ?_)
    rintro _ _ _ ⟨A32, c33, cs34, rfl, hr35, rfl⟩
    refine OpsJ.put rfl (OpJ.pure (OpP.move rfl) ?_)
    refine OpsJ.put rfl (OpJ.pure (OpP.extract rfl rfl) ?_)
    refine OpsJ.put rfl (OpJ.pure (OpP.extract rfl rfl) ?_)
    refine OpsJ.put rfl (OpJ.pure (OpP.assign rfl) ?_)
    refine OpsJ.put rfl (OpJ.pure (OpP.assign rfl) ?_)
    refine OpsJ.nil ?_
    refine CodeJ.seq' ?_
    refine CodeJ.region ?_
    refine OpsJ.put rfl (OpJ.pure (OpP.move rfl) ?_)
    obtain ⟨y40, hy41, h42⟩ := bind_ok h31
    clear h31
    refine OpsJ.put rfl (OpJ.callP Split.nil rfl (fun R37 hle38 hin39 => winnowerref16_Delta_w R37 A0_ p0_l.length c0_ p0_l (SlR.mono hA0_ (IM.le_trans (IM.le_refl _) hle38)) rfl hc0_  _ hy41) ?_)
    rintro _ _ _ ⟨A43, c44, cs45, rfl, hr46, rfl⟩
    refine OpsJ.put rfl (OpJ.pure (OpP.move rfl) ?_)
    refine OpsJ.put rfl (OpJ.pure (OpP.extract rfl rfl) ?_)
    refine OpsJ.put rfl (OpJ.pure (OpP.extract rfl rfl) ?_)
    refine OpsJ.put rfl (OpJ.pure (OpP.assign rfl) ?_)
    refine OpsJ.put rfl (OpJ.pure (OpP.assign rfl) ?_)
    refine OpsJ.nil ?_
    refine CodeJ.seq' ?_
    refine CodeJ.region ?_
    refine OpsJ.put rfl (OpJ.pure (OpP.move rfl) ?_)
    obtain ⟨y51, hy52, h53⟩ := bind_ok h42
    clear h42
    refine OpsJ.put rfl (OpJ.callP Split.nil rfl (fun R48 hle49 hin50 => pack_Runs_w R48 A0_ p0_l.length c0_ p0_l (SlR.mono hA0_ (IM.le_trans (IM.le_refl _) hle49)) rfl hc0_  _ hy52) ?_)
    rintro _ _ _ ⟨A54, c55, cs56, rfl, hr57, rfl⟩
    refine OpsJ.put rfl (OpJ.pure (OpP.move rfl) ?_)
    refine OpsJ.put rfl (OpJ.pure (OpP.extract rfl rfl) ?_)
    refine OpsJ.put rfl (OpJ.pure (OpP.extract rfl rfl) ?_)
    refine OpsJ.put rfl (OpJ.pure (OpP.assign rfl) ?_)
    refine OpsJ.put rfl (OpJ.pure (OpP.assign rfl) ?_)
    refine OpsJ.nil ?_
    refine CodeJ.seq' ?_
    refine CodeJ.region ?_
    refine OpsJ.put rfl (OpJ.pure (OpP.move rfl) ?_)
    obtain ⟨y62, hy63, h64⟩ := bind_ok h53
    clear h53
    refine OpsJ.put rfl (OpJ.callP Split.nil rfl (fun R59 hle60 hin61 => winnowerref16_Runs_w R59 A0_ p0_l.length c0_ p0_l (SlR.mono hA0_ (IM.le_trans (IM.le_refl _) hle60)) rfl hc0_  _ hy63) ?_)
    rintro _ _ _ ⟨A65, c66, cs67, rfl, hr68, rfl⟩
    refine OpsJ.put rfl (OpJ.pure (OpP.move rfl) ?_)
    refine OpsJ.put rfl (OpJ.pure (OpP.extract rfl rfl) ?_)
    refine OpsJ.put rfl (OpJ.pure (OpP.extract rfl rfl) ?_)
    refine OpsJ.put rfl (OpJ.pure (OpP.assign rfl) ?_)
    refine OpsJ.put rfl (OpJ.pure (OpP.assign rfl) ?_)
    refine OpsJ.nil ?_
    refine CodeJ.seq' ?_
    refine CodeJ.region ?_
    refine OpsJ.put rfl (OpJ.pure (OpP.move rfl) ?_)
    obtain ⟨y73, hy74, h75⟩ := bind_ok h64
    clear h64
    refine OpsJ.put rfl (OpJ.callP Split.nil rfl (fun R70 hle71 hin72 => pack_Best_w R70 A0_ p0_l.length c0_ p0_l (SlR.mono hA0_ (IM.le_trans (IM.le_refl _) hle71)) rfl hc0_  _ hy74) ?_)
    rintro _ _ _ ⟨A76, c77, cs78, rfl, hr79, rfl⟩
    refine OpsJ.put rfl (OpJ.pure (OpP.move rfl) ?_)
    refine OpsJ.put rfl (OpJ.pure (OpP.extract rfl rfl) ?_)
    refine OpsJ.put rfl (OpJ.pure (OpP.extract rfl rfl) ?_)
    refine OpsJ.put rfl (OpJ.pure (OpP.assign rfl) ?_)
    refine OpsJ.put rfl (OpJ.pure (OpP.assign rfl) ?_)
    refine OpsJ.nil ?_
    refine CodeJ.seq' ?_
    refine CodeJ.region ?_
    refine OpsJ.put rfl (OpJ.pure (OpP.move rfl) ?_)
    obtain ⟨y84, hy85, h86⟩ := bind_ok h75
    clear h75
    refine OpsJ.put rfl (OpJ.callP Split.nil rfl (fun R81 hle82 hin83 => winnowerref16_Best_w R81 A0_ p0_l.length c0_ p0_l (SlR.mono hA0_ (IM.le_trans (IM.le_refl _) hle82)) rfl hc0_  _ hy85) ?_)
    rintro _ _ _ ⟨A87, c88, cs89, rfl, hr90, rfl⟩
    refine OpsJ.put rfl (OpJ.pure (OpP.move rfl) ?_)
    refine OpsJ.put rfl (OpJ.pure (OpP.extract rfl rfl) ?_)
    refine OpsJ.put rfl (OpJ.pure (OpP.extract rfl rfl) ?_)
    refine OpsJ.put rfl (OpJ.pure (OpP.assign rfl) ?_)
    refine OpsJ.put rfl (OpJ.pure (OpP.assign rfl) ?_)
    refine OpsJ.nil ?_
    refine CodeJ.seq' ?_
    refine CodeJ.region ?_
    refine OpsJ.put rfl (OpJ.pure (OpP.move rfl) ?_)
    refine OpsJ.put rfl (OpJ.pure (OpP.strW (List.Mem.tail _ (List.Mem.tail _ (List.Mem.tail _ (List.Mem.tail _ (List.Mem.tail _ (List.Mem.tail _ (List.Mem.tail _ (List.Mem.head _)))))))) hr13 rfl rfl) ?_)
    refine OpsJ.put rfl (OpJ.pure (OpP.move rfl) ?_)
    refine OpsJ.put rfl (OpJ.pure (OpP.strW (List.Mem.tail _ (List.Mem.tail _ (List.Mem.tail _ (List.Mem.tail _ (List.Mem.tail _ (List.Mem.tail _ (List.Mem.head _))))))) hr24 rfl rfl) ?_)
    refine OpsJ.put rfl (OpJ.pure (OpP.eql_string rfl rfl) ?_)
    refine OpsJ.put rfl (OpJ.pure (OpP.move rfl) ?_)
    by_cases hc92 : (strOf y7.1) = (strOf y18.1)
    · rw [if_pos hc92] at h86
      refine OpsJ.guard_y rfl rfl rfl rfl (decide_eq_true hc92) ?_
      refine OpsJ.put rfl (OpJ.pure (OpP.move rfl) ?_)
      refine OpsJ.guard_y rfl rfl rfl rfl (decide_eq_true hc92) ?_
      refine OpsJ.put rfl (OpJ.pure (OpP.move rfl) ?_)
      refine OpsJ.guard_y rfl rfl rfl rfl (decide_eq_true hc92) ?_
      refine OpsJ.put rfl (OpJ.pure (OpP.eql rfl rfl) ?_)
      refine OpsJ.put rfl (OpJ.pure (OpP.pick_t rfl (decide_eq_true hc92) rfl) ?_)
      refine OpsJ.put rfl (OpJ.pure (OpP.move rfl) ?_)
      by_cases hc93 : y7.2 = y18.2
      · rw [if_pos hc93] at h86
        refine OpsJ.guard_y rfl rfl rfl rfl (decide_eq_true hc93) ?_
        refine OpsJ.put rfl (OpJ.pure (OpP.move rfl) ?_)
        refine OpsJ.guard_y rfl rfl rfl rfl (decide_eq_true hc93) ?_
        refine OpsJ.put rfl (OpJ.pure (OpP.strW (List.Mem.tail _ (List.Mem.tail _ (List.Mem.tail _ (List.Mem.tail _ (List.Mem.tail _ (List.Mem.head _)))))) hr35 rfl rfl) ?_)
        refine OpsJ.guard_y rfl rfl rfl rfl (decide_eq_true hc93) ?_
        refine OpsJ.put rfl (OpJ.pure (OpP.move rfl) ?_)
        refine OpsJ.guard_y rfl rfl rfl rfl (decide_eq_true hc93) ?_
        refine OpsJ.put rfl (OpJ.pure (OpP.strW (List.Mem.tail _ (List.Mem.tail _ (List.Mem.tail _ (List.Mem.tail _ (List.Mem.head _))))) hr46 rfl rfl) ?_)
        refine OpsJ.guard_y rfl rfl rfl rfl (decide_eq_true hc93) ?_
        refine OpsJ.put rfl (OpJ.pure (OpP.eql_string rfl rfl) ?_)
        refine OpsJ.put rfl (OpJ.pure (OpP.pick_t rfl (decide_eq_true hc93) rfl) ?_)
        refine OpsJ.put rfl (OpJ.pure (OpP.move rfl) ?_)
        by_cases hc94 : (strOf y29.1) = (strOf y40.1)
        · rw [if_pos hc94] at h86
          refine OpsJ.guard_y rfl rfl rfl rfl (decide_eq_true hc94) ?_
          refine OpsJ.put rfl (OpJ.pure (OpP.move rfl) ?_)
          refine OpsJ.guard_y rfl rfl rfl rfl (decide_eq_true hc94) ?_
          refine OpsJ.put rfl (OpJ.pure (OpP.move rfl) ?_)
          refine OpsJ.guard_y rfl rfl rfl rfl (decide_eq_true hc94) ?_
          refine OpsJ.put rfl (OpJ.pure (OpP.eql rfl rfl) ?_)
          refine OpsJ.put rfl (OpJ.pure (OpP.pick_t rfl (decide_eq_true hc94) rfl) ?_)
          refine OpsJ.put rfl (OpJ.pure (OpP.move rfl) ?_)
          by_cases hc95 : y29.2 = y40.2
          · rw [if_pos hc95] at h86
            refine OpsJ.guard_y rfl rfl rfl rfl (decide_eq_true hc95) ?_
            refine OpsJ.put rfl (OpJ.pure (OpP.move rfl) ?_)
            refine OpsJ.guard_y rfl rfl rfl rfl (decide_eq_true hc95) ?_
            refine OpsJ.put rfl (OpJ.pure (OpP.strW (List.Mem.tail _ (List.Mem.tail _ (List.Mem.tail _ (List.Mem.head _)))) hr57 rfl rfl) ?_)
            refine OpsJ.guard_y rfl rfl rfl rfl (decide_eq_true hc95) ?_
            refine OpsJ.put rfl (OpJ.pure (OpP.move rfl) ?_)
            refine OpsJ.guard_y rfl rfl rfl rfl (decide_eq_true hc95) ?_
            refine OpsJ.put rfl (OpJ.pure (OpP.strW (List.Mem.tail _ (List.Mem.tail _ (List.Mem.head _))) hr68 rfl rfl) ?_)
            refine OpsJ.guard_y rfl rfl rfl rfl (decide_eq_true hc95) ?_
            refine OpsJ.put rfl (OpJ.pure (OpP.eql_string rfl rfl) ?_)
            refine OpsJ.put rfl (OpJ.pure (OpP.pick_t rfl (decide_eq_true hc95) rfl) ?_)
            refine OpsJ.put rfl (OpJ.pure (OpP.move rfl) ?_)
            by_cases hc96 : (strOf y51.1) = (strOf y62.1)
            · rw [if_pos hc96] at h86
              refine OpsJ.guard_y rfl rfl rfl rfl (decide_eq_true hc96) ?_
              refine OpsJ.put rfl (OpJ.pure (OpP.move rfl) ?_)
              refine OpsJ.guard_y rfl rfl rfl rfl (decide_eq_true hc96) ?_
              refine OpsJ.put rfl (OpJ.pure (OpP.move rfl) ?_)
              refine OpsJ.guard_y rfl rfl rfl rfl (decide_eq_true hc96) ?_
              refine OpsJ.put rfl (OpJ.pure (OpP.eql rfl rfl) ?_)
              refine OpsJ.put rfl (OpJ.pure (OpP.pick_t rfl (decide_eq_true hc96) rfl) ?_)
              refine OpsJ.put rfl (OpJ.pure (OpP.move rfl) ?_)
              by_cases hc97 : y51.2 = y62.2
              · rw [if_pos hc97] at h86
                refine OpsJ.guard_y rfl rfl rfl rfl (decide_eq_true hc97) ?_
                refine OpsJ.put rfl (OpJ.pure (OpP.move rfl) ?_)
                refine OpsJ.guard_y rfl rfl rfl rfl (decide_eq_true hc97) ?_
                refine OpsJ.put rfl (OpJ.pure (OpP.strW (List.Mem.tail _ (List.Mem.head _)) hr79 rfl rfl) ?_)
                refine OpsJ.guard_y rfl rfl rfl rfl (decide_eq_true hc97) ?_
                refine OpsJ.put rfl (OpJ.pure (OpP.move rfl) ?_)
                refine OpsJ.guard_y rfl rfl rfl rfl (decide_eq_true hc97) ?_
                refine OpsJ.put rfl (OpJ.pure (OpP.strW (List.Mem.head _) hr90 rfl rfl) ?_)
                refine OpsJ.guard_y rfl rfl rfl rfl (decide_eq_true hc97) ?_
                refine OpsJ.put rfl (OpJ.pure (OpP.eql_string rfl rfl) ?_)
                refine OpsJ.put rfl (OpJ.pure (OpP.pick_t rfl (decide_eq_true hc97) rfl) ?_)
                refine OpsJ.put rfl (OpJ.pure (OpP.move rfl) ?_)
                by_cases hc98 : (strOf y73.1) = (strOf y84.1)
                · rw [if_pos hc98] at h86
                  refine OpsJ.guard_y rfl rfl rfl rfl (decide_eq_true hc98) ?_
                  refine OpsJ.put rfl (OpJ.pure (OpP.move rfl) ?_)
                  refine OpsJ.guard_y rfl rfl rfl rfl (decide_eq_true hc98) ?_
                  refine OpsJ.put rfl (OpJ.pure (OpP.move rfl) ?_)
                  refine OpsJ.guard_y rfl rfl rfl rfl (decide_eq_true hc98) ?_
                  refine OpsJ.put rfl (OpJ.pure (OpP.eql rfl rfl) ?_)
                  refine OpsJ.put rfl (OpJ.pure (OpP.pick_t rfl (decide_eq_true hc98) rfl) ?_)
                  refine OpsJ.put rfl (OpJ.pure (OpP.move rfl) ?_)
                  by_cases hc99 : y73.2 = y84.2
                  · rw [if_pos hc99] at h86
                    refine OpsJ.guard_y rfl rfl rfl rfl (decide_eq_true hc99) ?_
                    obtain ⟨y103, hy104, h105⟩ := bind_ok h86
                    clear h86
                    refine OpsJ.put rfl (OpJ.call0 rfl (fun R100 hle101 hin102 => winnowerlaw16_known_w R100   _ hy104) ?_)
                    rintro _ _ _ ⟨rfl, rfl⟩
                    refine OpsJ.put rfl (OpJ.pure (OpP.pick_t rfl (decide_eq_true hc99) rfl) ?_)
                    refine OpsJ.put rfl (OpJ.pure (OpP.assign rfl) ?_)
                    refine OpsJ.nil ?_
                    refine CodeJ.ret' ?_
                    obtain rfl := Option.some.inj h105
                    exact Ret.mk0 ⟨rfl, rfl⟩ (ResJ.one Try.results7 rfl) (IM.le_refl _) (SubL.nil _)
                  · rw [if_neg hc99] at h86
                    refine OpsJ.guard_n rfl rfl rfl rfl (decide_eq_false hc99) ?_
                    refine OpsJ.put rfl (OpJ.pure (OpP.pick_f rfl (decide_eq_false hc99) rfl) ?_)
                    refine OpsJ.put rfl (OpJ.pure (OpP.assign rfl) ?_)
                    refine OpsJ.nil ?_
                    refine CodeJ.ret' ?_
                    obtain rfl := Option.some.inj h86
                    exact Ret.mk0 ⟨rfl, rfl⟩ (ResJ.one Try.results7 rfl) (IM.le_refl _) (SubL.nil _)
                · rw [if_neg hc98] at h86
                  refine OpsJ.guard_n rfl rfl rfl rfl (decide_eq_false hc98) ?_
                  refine OpsJ.guard_n rfl rfl rfl rfl (decide_eq_false hc98) ?_
                  refine OpsJ.guard_n rfl rfl rfl rfl (decide_eq_false hc98) ?_
                  refine OpsJ.put rfl (OpJ.pure (OpP.pick_f rfl (decide_eq_false hc98) rfl) ?_)
                  refine OpsJ.put rfl (OpJ.pure (OpP.move rfl) ?_)
                  refine OpsJ.guard_n rfl rfl rfl rfl rfl ?_
                  refine OpsJ.put rfl (OpJ.pure (OpP.pick_f rfl rfl rfl) ?_)
                  refine OpsJ.put rfl (OpJ.pure (OpP.assign rfl) ?_)
                  refine OpsJ.nil ?_
                  refine CodeJ.ret' ?_
                  obtain rfl := Option.some.inj h86
                  exact Ret.mk0 ⟨rfl, rfl⟩ (ResJ.one Try.results7 rfl) (IM.le_refl _) (SubL.nil _)
              · rw [if_neg hc97] at h86
                refine OpsJ.guard_n rfl rfl rfl rfl (decide_eq_false hc97) ?_
                refine OpsJ.guard_n rfl rfl rfl rfl (decide_eq_false hc97) ?_
                refine OpsJ.guard_n rfl rfl rfl rfl (decide_eq_false hc97) ?_
                refine OpsJ.guard_n rfl rfl rfl rfl (decide_eq_false hc97) ?_
                refine OpsJ.guard_n rfl rfl rfl rfl (decide_eq_false hc97) ?_
                refine OpsJ.put rfl (OpJ.pure (OpP.pick_f rfl (decide_eq_false hc97) rfl) ?_)
                refine OpsJ.put rfl (OpJ.pure (OpP.move rfl) ?_)
                refine OpsJ.guard_n rfl rfl rfl rfl rfl ?_
                refine OpsJ.guard_n rfl rfl rfl rfl rfl ?_
                refine OpsJ.guard_n rfl rfl rfl rfl rfl ?_
                refine OpsJ.put rfl (OpJ.pure (OpP.pick_f rfl rfl rfl) ?_)
                refine OpsJ.put rfl (OpJ.pure (OpP.move rfl) ?_)
                refine OpsJ.guard_n rfl rfl rfl rfl rfl ?_
                refine OpsJ.put rfl (OpJ.pure (OpP.pick_f rfl rfl rfl) ?_)
                refine OpsJ.put rfl (OpJ.pure (OpP.assign rfl) ?_)
                refine OpsJ.nil ?_
                refine CodeJ.ret' ?_
                obtain rfl := Option.some.inj h86
                exact Ret.mk0 ⟨rfl, rfl⟩ (ResJ.one Try.results7 rfl) (IM.le_refl _) (SubL.nil _)
            · rw [if_neg hc96] at h86
              refine OpsJ.guard_n rfl rfl rfl rfl (decide_eq_false hc96) ?_
              refine OpsJ.guard_n rfl rfl rfl rfl (decide_eq_false hc96) ?_
              refine OpsJ.guard_n rfl rfl rfl rfl (decide_eq_false hc96) ?_
              refine OpsJ.put rfl (OpJ.pure (OpP.pick_f rfl (decide_eq_false hc96) rfl) ?_)
              refine OpsJ.put rfl (OpJ.pure (OpP.move rfl) ?_)
              refine OpsJ.guard_n rfl rfl rfl rfl rfl ?_
              refine OpsJ.guard_n rfl rfl rfl rfl rfl ?_
              refine OpsJ.guard_n rfl rfl rfl rfl rfl ?_
              refine OpsJ.guard_n rfl rfl rfl rfl rfl ?_
              refine OpsJ.guard_n rfl rfl rfl rfl rfl ?_
              refine OpsJ.put rfl (OpJ.pure (OpP.pick_f rfl rfl rfl) ?_)
              refine OpsJ.put rfl (OpJ.pure (OpP.move rfl) ?_)
              refine OpsJ.guard_n rfl rfl rfl rfl rfl ?_
              refine OpsJ.guard_n rfl rfl rfl rfl rfl ?_
              refine OpsJ.guard_n rfl rfl rfl rfl rfl ?_
              refine OpsJ.put rfl (OpJ.pure (OpP.pick_f rfl rfl rfl) ?_)
              refine OpsJ.put rfl (OpJ.pure (OpP.move rfl) ?_)
              refine OpsJ.guard_n rfl rfl rfl rfl rfl ?_
              refine OpsJ.put rfl (OpJ.pure (OpP.pick_f rfl rfl rfl) ?_)
              refine OpsJ.put rfl (OpJ.pure (OpP.assign rfl) ?_)
              refine OpsJ.nil ?_
              refine CodeJ.ret' ?_
              obtain rfl := Option.some.inj h86
              exact Ret.mk0 ⟨rfl, rfl⟩ (ResJ.one Try.results7 rfl) (IM.le_refl _) (SubL.nil _)
          · rw [if_neg hc95] at h86
            refine OpsJ.guard_n rfl rfl rfl rfl (decide_eq_false hc95) ?_
            refine OpsJ.guard_n rfl rfl rfl rfl (decide_eq_false hc95) ?_
            refine OpsJ.guard_n rfl rfl rfl rfl (decide_eq_false hc95) ?_
            refine OpsJ.guard_n rfl rfl rfl rfl (decide_eq_false hc95) ?_
            refine OpsJ.guard_n rfl rfl rfl rfl (decide_eq_false hc95) ?_
            refine OpsJ.put rfl (OpJ.pure (OpP.pick_f rfl (decide_eq_false hc95) rfl) ?_)
            refine OpsJ.put rfl (OpJ.pure (OpP.move rfl) ?_)
            refine OpsJ.guard_n rfl rfl rfl rfl rfl ?_
            refine OpsJ.guard_n rfl rfl rfl rfl rfl ?_
            refine OpsJ.guard_n rfl rfl rfl rfl rfl ?_
            refine OpsJ.put rfl (OpJ.pure (OpP.pick_f rfl rfl rfl) ?_)
            refine OpsJ.put rfl (OpJ.pure (OpP.move rfl) ?_)
            refine OpsJ.guard_n rfl rfl rfl rfl rfl ?_
            refine OpsJ.guard_n rfl rfl rfl rfl rfl ?_
            refine OpsJ.guard_n rfl rfl rfl rfl rfl ?_
            refine OpsJ.guard_n rfl rfl rfl rfl rfl ?_
            refine OpsJ.guard_n rfl rfl rfl rfl rfl ?_
            refine OpsJ.put rfl (OpJ.pure (OpP.pick_f rfl rfl rfl) ?_)
            refine OpsJ.put rfl (OpJ.pure (OpP.move rfl) ?_)
            refine OpsJ.guard_n rfl rfl rfl rfl rfl ?_
            refine OpsJ.guard_n rfl rfl rfl rfl rfl ?_
            refine OpsJ.guard_n rfl rfl rfl rfl rfl ?_
            refine OpsJ.put rfl (OpJ.pure (OpP.pick_f rfl rfl rfl) ?_)
            refine OpsJ.put rfl (OpJ.pure (OpP.move rfl) ?_)
            refine OpsJ.guard_n rfl rfl rfl rfl rfl ?_
            refine OpsJ.put rfl (OpJ.pure (OpP.pick_f rfl rfl rfl) ?_)
            refine OpsJ.put rfl (OpJ.pure (OpP.assign rfl) ?_)
            refine OpsJ.nil ?_
            refine CodeJ.ret' ?_
            obtain rfl := Option.some.inj h86
            exact Ret.mk0 ⟨rfl, rfl⟩ (ResJ.one Try.results7 rfl) (IM.le_refl _) (SubL.nil _)
        · rw [if_neg hc94] at h86
          refine OpsJ.guard_n rfl rfl rfl rfl (decide_eq_false hc94) ?_
          refine OpsJ.guard_n rfl rfl rfl rfl (decide_eq_false hc94) ?_
          refine OpsJ.guard_n rfl rfl rfl rfl (decide_eq_false hc94) ?_
          refine OpsJ.put rfl (OpJ.pure (OpP.pick_f rfl (decide_eq_false hc94) rfl) ?_)
          refine OpsJ.put rfl (OpJ.pure (OpP.move rfl) ?_)
          refine OpsJ.guard_n rfl rfl rfl rfl rfl ?_
          refine OpsJ.guard_n rfl rfl rfl rfl rfl ?_
          refine OpsJ.guard_n rfl rfl rfl rfl rfl ?_
          refine OpsJ.guard_n rfl rfl rfl rfl rfl ?_
          refine OpsJ.guard_n rfl rfl rfl rfl rfl ?_
          refine OpsJ.put rfl (OpJ.pure (OpP.pick_f rfl rfl rfl) ?_)
          refine OpsJ.put rfl (OpJ.pure (OpP.move rfl) ?_)
          refine OpsJ.guard_n rfl rfl rfl rfl rfl ?_
          refine OpsJ.guard_n rfl rfl rfl rfl rfl ?_
          refine OpsJ.guard_n rfl rfl rfl rfl rfl ?_
          refine OpsJ.put rfl (OpJ.pure (OpP.pick_f rfl rfl rfl) ?_)
          refine OpsJ.put rfl (OpJ.pure (OpP.move rfl) ?_)
          refine OpsJ.guard_n rfl rfl rfl rfl rfl ?_
          refine OpsJ.guard_n rfl rfl rfl rfl rfl ?_
          refine OpsJ.guard_n rfl rfl rfl rfl rfl ?_
          refine OpsJ.guard_n rfl rfl rfl rfl rfl ?_
          refine OpsJ.guard_n rfl rfl rfl rfl rfl ?_
          refine OpsJ.put rfl (OpJ.pure (OpP.pick_f rfl rfl rfl) ?_)
          refine OpsJ.put rfl (OpJ.pure (OpP.move rfl) ?_)
          refine OpsJ.guard_n rfl rfl rfl rfl rfl ?_
          refine OpsJ.guard_n rfl rfl rfl rfl rfl ?_
          refine OpsJ.guard_n rfl rfl rfl rfl rfl ?_
          refine OpsJ.put rfl (OpJ.pure (OpP.pick_f rfl rfl rfl) ?_)
          refine OpsJ.put rfl (OpJ.pure (OpP.move rfl) ?_)
          refine OpsJ.guard_n rfl rfl rfl rfl rfl ?_
          refine OpsJ.put rfl (OpJ.pure (OpP.pick_f rfl rfl rfl) ?_)
          refine OpsJ.put rfl (OpJ.pure (OpP.assign rfl) ?_)
          refine OpsJ.nil ?_
          refine CodeJ.ret' ?_
          obtain rfl := Option.some.inj h86
          exact Ret.mk0 ⟨rfl, rfl⟩ (ResJ.one Try.results7 rfl) (IM.le_refl _) (SubL.nil _)
      · rw [if_neg hc93] at h86
        refine OpsJ.guard_n rfl rfl rfl rfl (decide_eq_false hc93) ?_
        refine OpsJ.guard_n rfl rfl rfl rfl (decide_eq_false hc93) ?_
        refine OpsJ.guard_n rfl rfl rfl rfl (decide_eq_false hc93) ?_
        refine OpsJ.guard_n rfl rfl rfl rfl (decide_eq_false hc93) ?_
        refine OpsJ.guard_n rfl rfl rfl rfl (decide_eq_false hc93) ?_
        refine OpsJ.put rfl (OpJ.pure (OpP.pick_f rfl (decide_eq_false hc93) rfl) ?_)
        refine OpsJ.put rfl (OpJ.pure (OpP.move rfl) ?_)
        refine OpsJ.guard_n rfl rfl rfl rfl rfl ?_
        refine OpsJ.guard_n rfl rfl rfl rfl rfl ?_
        refine OpsJ.guard_n rfl rfl rfl rfl rfl ?_
        refine OpsJ.put rfl (OpJ.pure (OpP.pick_f rfl rfl rfl) ?_)
        refine OpsJ.put rfl (OpJ.pure (OpP.move rfl) ?_)
        refine OpsJ.guard_n rfl rfl rfl rfl rfl ?_
        refine OpsJ.guard_n rfl rfl rfl rfl rfl ?_
        refine OpsJ.guard_n rfl rfl rfl rfl rfl ?_
        refine OpsJ.guard_n rfl rfl rfl rfl rfl ?_
        refine OpsJ.guard_n rfl rfl rfl rfl rfl ?_
        refine OpsJ.put rfl (OpJ.pure (OpP.pick_f rfl rfl rfl) ?_)
        refine OpsJ.put rfl (OpJ.pure (OpP.move rfl) ?_)
        refine OpsJ.guard_n rfl rfl rfl rfl rfl ?_
        refine OpsJ.guard_n rfl rfl rfl rfl rfl ?_
        refine OpsJ.guard_n rfl rfl rfl rfl rfl ?_
        refine OpsJ.put rfl (OpJ.pure (OpP.pick_f rfl rfl rfl) ?_)
        refine OpsJ.put rfl (OpJ.pure (OpP.move rfl) ?_)
        refine OpsJ.guard_n rfl rfl rfl rfl rfl ?_
        refine OpsJ.guard_n rfl rfl rfl rfl rfl ?_
        refine OpsJ.guard_n rfl rfl rfl rfl rfl ?_
        refine OpsJ.guard_n rfl rfl rfl rfl rfl ?_
        refine OpsJ.guard_n rfl rfl rfl rfl rfl ?_
        refine OpsJ.put rfl (OpJ.pure (OpP.pick_f rfl rfl rfl) ?_)
        refine OpsJ.put rfl (OpJ.pure (OpP.move rfl) ?_)
        refine OpsJ.guard_n rfl rfl rfl rfl rfl ?_
        refine OpsJ.guard_n rfl rfl rfl rfl rfl ?_
        refine OpsJ.guard_n rfl rfl rfl rfl rfl ?_
        refine OpsJ.put rfl (OpJ.pure (OpP.pick_f rfl rfl rfl) ?_)
        refine OpsJ.put rfl (OpJ.pure (OpP.move rfl) ?_)
        refine OpsJ.guard_n rfl rfl rfl rfl rfl ?_
        refine OpsJ.put rfl (OpJ.pure (OpP.pick_f rfl rfl rfl) ?_)
        refine OpsJ.put rfl (OpJ.pure (OpP.assign rfl) ?_)
        refine OpsJ.nil ?_
        refine CodeJ.ret' ?_
        obtain rfl := Option.some.inj h86
        exact Ret.mk0 ⟨rfl, rfl⟩ (ResJ.one Try.results7 rfl) (IM.le_refl _) (SubL.nil _)
    · rw [if_neg hc92] at h86
      refine OpsJ.guard_n rfl rfl rfl rfl (decide_eq_false hc92) ?_
      refine OpsJ.guard_n rfl rfl rfl rfl (decide_eq_false hc92) ?_
      refine OpsJ.guard_n rfl rfl rfl rfl (decide_eq_false hc92) ?_
      refine OpsJ.put rfl (OpJ.pure (OpP.pick_f rfl (decide_eq_false hc92) rfl) ?_)
      refine OpsJ.put rfl (OpJ.pure (OpP.move rfl) ?_)
      refine OpsJ.guard_n rfl rfl rfl rfl rfl ?_
      refine OpsJ.guard_n rfl rfl rfl rfl rfl ?_
      refine OpsJ.guard_n rfl rfl rfl rfl rfl ?_
      refine OpsJ.guard_n rfl rfl rfl rfl rfl ?_
      refine OpsJ.guard_n rfl rfl rfl rfl rfl ?_
      refine OpsJ.put rfl (OpJ.pure (OpP.pick_f rfl rfl rfl) ?_)
      refine OpsJ.put rfl (OpJ.pure (OpP.move rfl) ?_)
      refine OpsJ.guard_n rfl rfl rfl rfl rfl ?_
      refine OpsJ.guard_n rfl rfl rfl rfl rfl ?_
      refine OpsJ.guard_n rfl rfl rfl rfl rfl ?_
      refine OpsJ.put rfl (OpJ.pure (OpP.pick_f rfl rfl rfl) ?_)
      refine OpsJ.put rfl (OpJ.pure (OpP.move rfl) ?_)
      refine OpsJ.guard_n rfl rfl rfl rfl rfl ?_
      refine OpsJ.guard_n rfl rfl rfl rfl rfl ?_
      refine OpsJ.guard_n rfl rfl rfl rfl rfl ?_
      refine OpsJ.guard_n rfl rfl rfl rfl rfl ?_
      refine OpsJ.guard_n rfl rfl rfl rfl rfl ?_
      refine OpsJ.put rfl (OpJ.pure (OpP.pick_f rfl rfl rfl) ?_)
      refine OpsJ.put rfl (OpJ.pure (OpP.move rfl) ?_)
      refine OpsJ.guard_n rfl rfl rfl rfl rfl ?_
      refine OpsJ.guard_n rfl rfl rfl rfl rfl ?_
      refine OpsJ.guard_n rfl rfl rfl rfl rfl ?_
      refine OpsJ.put rfl (OpJ.pure (OpP.pick_f rfl rfl rfl) ?_)
      refine OpsJ.put rfl (OpJ.pure (OpP.move rfl) ?_)
      refine OpsJ.guard_n rfl rfl rfl rfl rfl ?_
      refine OpsJ.guard_n rfl rfl rfl rfl rfl ?_
      refine OpsJ.guard_n rfl rfl rfl rfl rfl ?_
      refine OpsJ.guard_n rfl rfl rfl rfl rfl ?_
      refine OpsJ.guard_n rfl rfl rfl rfl rfl ?_
      refine OpsJ.put rfl (OpJ.pure (OpP.pick_f rfl rfl rfl) ?_)
      refine OpsJ.put rfl (OpJ.pure (OpP.move rfl) ?_)
      refine OpsJ.guard_n rfl rfl rfl rfl rfl ?_
      refine OpsJ.guard_n rfl rfl rfl rfl rfl ?_
      refine OpsJ.guard_n rfl rfl rfl rfl rfl ?_
      refine OpsJ.put rfl (OpJ.pure (OpP.pick_f rfl rfl rfl) ?_)
      refine OpsJ.put rfl (OpJ.pure (OpP.move rfl) ?_)
      refine OpsJ.guard_n rfl rfl rfl rfl rfl ?_
      refine OpsJ.put rfl (OpJ.pure (OpP.pick_f rfl rfl rfl) ?_)
      refine OpsJ.put rfl (OpJ.pure (OpP.assign rfl) ?_)
      refine OpsJ.nil ?_
      refine CodeJ.ret' ?_
      obtain rfl := Option.some.inj h86
      exact Ret.mk0 ⟨rfl, rfl⟩ (ResJ.one Try.results7 rfl) (IM.le_refl _) (SubL.nil _)
theorem winnowerlaw16_PackDecodes_w (R : IM) (A0_ : Option Addr) (n0_ c0_ : Nat) (p0_b : List UInt8) (hA0_ : SlR R A0_ p0_b) (hn0_ : p0_b.length = n0_) (hc0_ : n0_ ≤ c0_) (y : Bool) (h : winnowerlaw16_PackDecodes p0_b = some y) :
    CallJ Try.prog 12 #[.slice A0_ n0_ c0_] ⟨R, []⟩ (fun v D hs' => v = .bool y ∧ hs' = []) := by
  subst hn0_
  unfold winnowerlaw16_PackDecodes at h
  refine CallJ.of1 Try.func12 rfl Try.ntmps12 rfl (fun W0 => ?_)
  refine CodeJ.seq' ?_
  refine CodeJ.region ?_
  refine OpsJ.put rfl (OpJ.pure (OpP.assign rfl) ?_)
  refine OpsJ.nil ?_
  refine CodeJ.seq' ?_
  refine CodeJ.seq' ?_
  refine CodeJ.region ?_
  refine OpsJ.put rfl (OpJ.pure (OpP.move rfl) ?_)
  refine OpsJ.put rfl (OpJ.pure (OpP.len rfl) ?_)
  refine OpsJ.put rfl (OpJ.pure (OpP.gtr rfl rfl) ?_)
  refine OpsJ.nil ?_
  by_cases hc1 : ((p0_b.length : Nat) : Int) > 500
  · rw [if_pos hc1] at h
    refine CodeJ.cond_t rfl (decide_eq_true hc1) ?_
    refine CodeJ.seq' ?_
    refine CodeJ.region ?_
    refine OpsJ.put rfl (OpJ.pure (OpP.assign rfl) ?_)
    refine OpsJ.nil ?_
    refine CodeJ.ret' ?_
    obtain rfl := Option.some.inj h
    exact Ret.mk0 ⟨rfl, rfl⟩ (ResJ.one Try.results12 rfl) (IM.le_refl _) (SubL.nil _)
  · rw [if_neg hc1] at h
    refine CodeJ.cond_f rfl (decide_eq_false hc1) ?_
    refine CodeJ.skip ?_
    refine CodeJ.seq' ?_
    refine CodeJ.region ?_
    have hr5 : repL IM.nil [] ([] : List UInt8) := (repL_nil _)
    refine OpsJ.put rfl (OpJ.buildSliceC (cs := []) rfl rfl (by exact rfl) (by exact rfl) (by exact rfl) (by exact rfl) (fun g4 => ?_))
    refine OpsJ.put rfl (OpJ.pure (OpP.move rfl) ?_)
    obtain ⟨q7, hq8, h9⟩ := bind_ok h
    clear h
    obtain ⟨es10, hs11, hp12⟩ := SlR.out hA0_
    have hr15 : repL IM.nil (([] : List Value) ++ es10) q7 := app_rep hq8 hr5 (flat_rep hp12)
    refine OpsJ.put rfl (OpJ.appW hq8 rfl rfl (Src.ofR (RC.mono hs11 (IM.le_refl _))) hp12 (by exact rfl) (List.Perm.refl _) (by exact rfl) (by exact rfl) (by exact rfl) rfl rfl (fun A13 c14 => ?_))
    refine OpsJ.rowle (List.Perm.refl _) (fun hcap17 _ => ?_)
    obtain ⟨y21, hy22, h23⟩ := bind_ok h9
    clear h9
    refine OpsJ.put rfl (OpJ.callP Split.nil rfl (fun R18 hle19 hin20 => pack_Decode_w R18 A13 q7.length c14 q7 (SlR.of_row (inRow hin20 (List.Mem.head _)) hr15 (IM.le_nil _)) rfl hcap17  _ hy22) ?_)
    rintro _ _ _ ⟨A24, c25, cs26, rfl, hr27, rfl⟩
    refine OpsJ.put rfl (OpJ.pure (OpP.move rfl) ?_)
    refine OpsJ.put rfl (OpJ.pure (OpP.extract rfl rfl) ?_)
    refine OpsJ.put rfl (OpJ.pure (OpP.extract rfl rfl) ?_)
    refine OpsJ.put rfl (OpJ.pure (OpP.assign rfl) ?_)
    refine OpsJ.put rfl (OpJ.pure (OpP.assign rfl) ?_)
    refine OpsJ.nil ?_
    refine CodeJ.seq' ?_
    refine CodeJ.region ?_
    refine OpsJ.put rfl (OpJ.pure (OpP.move rfl) ?_)
    obtain ⟨y32, hy33, h34⟩ := bind_ok h23
    clear h23
    refine OpsJ.put rfl (OpJ.callP Split.nil rfl (fun R29 hle30 hin31 => winnowerref16_Decode_w R29 A0_ p0_b.length c0_ p0_b (SlR.mono hA0_ (IM.le_trans (IM.le_refl _) hle30)) rfl hc0_  _ hy33) ?_)
    rintro _ _ _ ⟨A35, c36, cs37, rfl, hr38, rfl⟩
    refine OpsJ.put rfl (OpJ.pure (OpP.move rfl) ?_)
    refine OpsJ.put rfl (OpJ.pure (OpP.extract rfl rfl) ?_)
    refine OpsJ.put rfl (OpJ.pure (OpP.extract rfl rfl) ?_)
    refine OpsJ.put rfl (OpJ.pure (OpP.assign rfl) ?_)
    refine OpsJ.put rfl (OpJ.pure (OpP.assign rfl) ?_)
    refine OpsJ.nil ?_
    refine CodeJ.seq' ?_
    refine CodeJ.region ?_
    refine OpsJ.put rfl (OpJ.pure (OpP.move rfl) ?_)
    refine OpsJ.put rfl (OpJ.pure (OpP.move rfl) ?_)
    refine OpsJ.rowle (List.Perm.swap _ _ _) (fun hcap40 _ => ?_)
    refine OpsJ.rowle (List.Perm.refl _) (fun hcap41 _ => ?_)
    obtain ⟨y45, hy46, h47⟩ := bind_ok h34
    clear h34
    refine OpsJ.put rfl (OpJ.call0 rfl (fun R42 hle43 hin44 => winnowerlaw16_numbers_w R42 A24 y21.1.length c25 y21.1 (SlR.of_row (inRow hin44 (List.Mem.tail _ (List.Mem.head _))) hr27 (IM.le_nil _)) rfl hcap40 A35 y32.1.length c36 y32.1 (SlR.of_row (inRow hin44 (List.Mem.head _)) hr38 (IM.le_nil _)) rfl hcap41  _ hy46) ?_)
    rintro _ _ _ ⟨rfl, rfl⟩
    refine OpsJ.put rfl (OpJ.pure (OpP.move rfl) ?_)
    by_cases hc48 : y45 = true
    · rw [if_pos hc48] at h47
      refine OpsJ.guard_y rfl rfl rfl rfl hc48 ?_
      refine OpsJ.put rfl (OpJ.pure (OpP.move rfl) ?_)
      refine OpsJ.guard_y rfl rfl rfl rfl hc48 ?_
      refine OpsJ.put rfl (OpJ.pure (OpP.move rfl) ?_)
      refine OpsJ.guard_y rfl rfl rfl rfl hc48 ?_
      refine OpsJ.put rfl (OpJ.pure (OpP.eql rfl rfl) ?_)
      refine OpsJ.put rfl (OpJ.pure (OpP.pick_t rfl hc48 rfl) ?_)
      refine OpsJ.put rfl (OpJ.pure (OpP.move rfl) ?_)
      by_cases hc49 : y21.2 = y32.2
      · rw [if_pos hc49] at h47
        refine OpsJ.guard_y rfl rfl rfl rfl (decide_eq_true hc49) ?_
        obtain ⟨y53, hy54, h55⟩ := bind_ok h47
        clear h47
        refine OpsJ.put rfl (OpJ.call0 rfl (fun R50 hle51 hin52 => winnowerlaw16_known_w R50   _ hy54) ?_)
        rintro _ _ _ ⟨rfl, rfl⟩
        refine OpsJ.put rfl (OpJ.pure (OpP.pick_t rfl (decide_eq_true hc49) rfl) ?_)
        refine OpsJ.put rfl (OpJ.pure (OpP.assign rfl) ?_)
        refine OpsJ.nil ?_
        refine CodeJ.ret' ?_
        obtain rfl := Option.some.inj h55
        exact Ret.mk0 ⟨rfl, rfl⟩ (ResJ.one Try.results12 rfl) (IM.le_refl _) (SubL.nil _)
      · rw [if_neg hc49] at h47
        refine OpsJ.guard_n rfl rfl rfl rfl (decide_eq_false hc49) ?_
        refine OpsJ.put rfl (OpJ.pure (OpP.pick_f rfl (decide_eq_false hc49) rfl) ?_)
        refine OpsJ.put rfl (OpJ.pure (OpP.assign rfl) ?_)
        refine OpsJ.nil ?_
        refine CodeJ.ret' ?_
        obtain rfl := Option.some.inj h47
        exact Ret.mk0 ⟨rfl, rfl⟩ (ResJ.one Try.results12 rfl) (IM.le_refl _) (SubL.nil _)
    · rw [if_neg hc48] at h47
      refine OpsJ.guard_n rfl rfl rfl rfl (Bool.eq_false_iff.2 hc48) ?_
      refine OpsJ.guard_n rfl rfl rfl rfl (Bool.eq_false_iff.2 hc48) ?_
      refine OpsJ.guard_n rfl rfl rfl rfl (Bool.eq_false_iff.2 hc48) ?_
      refine OpsJ.put rfl (OpJ.pure (OpP.pick_f rfl (Bool.eq_false_iff.2 hc48) rfl) ?_)
      refine OpsJ.put rfl (OpJ.pure (OpP.move rfl) ?_)
      refine OpsJ.guard_n rfl rfl rfl rfl rfl ?_
      refine OpsJ.put rfl (OpJ.pure (OpP.pick_f rfl rfl rfl) ?_)
      refine OpsJ.put rfl (OpJ.pure (OpP.assign rfl) ?_)
      refine OpsJ.nil ?_
      refine CodeJ.ret' ?_
      obtain rfl := Option.some.inj h47
      exact Ret.mk0 ⟨rfl, rfl⟩ (ResJ.one Try.results12 rfl) (IM.le_refl _) (SubL.nil _)
theorem winnowerlaw16_PackRuns_w (R : IM) (p0_n : Int) (p1_v : Int) (y : Bool) (h : winnowerlaw16_PackRuns p0_n p1_v = some y) :
    CallJ Try.prog 13 #[.int .i64 p0_n, .int .i64 p1_v] ⟨R, []⟩ (fun v D hs' => v = .bool y ∧ hs' = []) := by
  unfold winnowerlaw16_PackRuns at h
  refine CallJ.of2 Try.func13 rfl Try.ntmps13 rfl (fun W0 => ?_)
  refine CodeJ.seq' ?_
  refine CodeJ.region ?_
  refine OpsJ.put rfl (OpJ.pure (OpP.assign rfl) ?_)
  refine OpsJ.nil ?_
  refine CodeJ.seq' ?_
  refine CodeJ.seq' ?_
  refine CodeJ.region ?_
  refine OpsJ.put rfl (OpJ.pure (OpP.move rfl) ?_)
  refine OpsJ.put rfl (OpJ.pure (OpP.lss rfl rfl) ?_)
  refine OpsJ.put rfl (OpJ.pure (OpP.move rfl) ?_)
  by_cases hc1 : p0_n < 0
  · rw [if_pos hc1] at h
    refine OpsJ.guard_n rfl rfl rfl rfl (decide_eq_true hc1) ?_
    refine OpsJ.guard_n rfl rfl rfl rfl (decide_eq_true hc1) ?_
    refine OpsJ.put rfl (OpJ.pure (OpP.pick_t rfl (decide_eq_true hc1) rfl) ?_)
    refine OpsJ.put rfl (OpJ.pure (OpP.move rfl) ?_)
    refine OpsJ.guard_n rfl rfl rfl rfl rfl ?_
    refine OpsJ.guard_n rfl rfl rfl rfl rfl ?_
    refine OpsJ.put rfl (OpJ.pure (OpP.pick_t rfl rfl rfl) ?_)
    refine OpsJ.put rfl (OpJ.pure (OpP.move rfl) ?_)
    refine OpsJ.guard_n rfl rfl rfl rfl rfl ?_
    refine OpsJ.guard_n rfl rfl rfl rfl rfl ?_
    refine OpsJ.put rfl (OpJ.pure (OpP.pick_t rfl rfl rfl) ?_)
    refine OpsJ.nil ?_
    refine CodeJ.cond_t rfl rfl ?_
    refine CodeJ.seq' ?_
    refine CodeJ.region ?_
    refine OpsJ.put rfl (OpJ.pure (OpP.assign rfl) ?_)
    refine OpsJ.nil ?_
    refine CodeJ.ret' ?_
    obtain rfl := Option.some.inj h
    exact Ret.mk0 ⟨rfl, rfl⟩ (ResJ.one Try.results13 rfl) (IM.le_refl _) (SubL.nil _)
  · rw [if_neg hc1] at h
    refine OpsJ.guard_y rfl rfl rfl rfl (decide_eq_false hc1) ?_
    refine OpsJ.put rfl (OpJ.pure (OpP.move rfl) ?_)
    refine OpsJ.guard_y rfl rfl rfl rfl (decide_eq_false hc1) ?_
    refine OpsJ.put rfl (OpJ.pure (OpP.gtr rfl rfl) ?_)
    refine OpsJ.put rfl (OpJ.pure (OpP.pick_f rfl (decide_eq_false hc1) rfl) ?_)
    refine OpsJ.put rfl (OpJ.pure (OpP.move rfl) ?_)
    by_cases hc4 : p0_n > 40000
    · rw [if_pos hc4] at h
      refine OpsJ.guard_n rfl rfl rfl rfl (decide_eq_true hc4) ?_
      refine OpsJ.guard_n rfl rfl rfl rfl (decide_eq_true hc4) ?_
      refine OpsJ.put rfl (OpJ.pure (OpP.pick_t rfl (decide_eq_true hc4) rfl) ?_)
      refine OpsJ.put rfl (OpJ.pure (OpP.move rfl) ?_)
      refine OpsJ.guard_n rfl rfl rfl rfl rfl ?_
      refine OpsJ.guard_n rfl rfl rfl rfl rfl ?_
      refine OpsJ.put rfl (OpJ.pure (OpP.pick_t rfl rfl rfl) ?_)
      refine OpsJ.nil ?_
      refine CodeJ.cond_t rfl rfl ?_
      refine CodeJ.seq' ?_
      refine CodeJ.region ?_
      refine OpsJ.put rfl (OpJ.pure (OpP.assign rfl) ?_)
      refine OpsJ.nil ?_
      refine CodeJ.ret' ?_
      obtain rfl := Option.some.inj h
      exact Ret.mk0 ⟨rfl, rfl⟩ (ResJ.one Try.results13 rfl) (IM.le_refl _) (SubL.nil _)
    · rw [if_neg hc4] at h
      refine OpsJ.guard_y rfl rfl rfl rfl (decide_eq_false hc4) ?_
      refine OpsJ.put rfl (OpJ.pure (OpP.move rfl) ?_)
      refine OpsJ.guard_y rfl rfl rfl rfl (decide_eq_false hc4) ?_
      refine OpsJ.put rfl (OpJ.pure (OpP.lss rfl rfl) ?_)
      refine OpsJ.put rfl (OpJ.pure (OpP.pick_f rfl (decide_eq_false hc4) rfl) ?_)
      refine OpsJ.put rfl (OpJ.pure (OpP.move rfl) ?_)
      by_cases hc7 : p1_v < 0
      · rw [if_pos hc7] at h
        refine OpsJ.guard_n rfl rfl rfl rfl (decide_eq_true hc7) ?_
        refine OpsJ.guard_n rfl rfl rfl rfl (decide_eq_true hc7) ?_
        refine OpsJ.put rfl (OpJ.pure (OpP.pick_t rfl (decide_eq_true hc7) rfl) ?_)
        refine OpsJ.nil ?_
        refine CodeJ.cond_t rfl rfl ?_
        refine CodeJ.seq' ?_
        refine CodeJ.region ?_
        refine OpsJ.put rfl (OpJ.pure (OpP.assign rfl) ?_)
        refine OpsJ.nil ?_
        refine CodeJ.ret' ?_
        obtain rfl := Option.some.inj h
        exact Ret.mk0 ⟨rfl, rfl⟩ (ResJ.one Try.results13 rfl) (IM.le_refl _) (SubL.nil _)
      · rw [if_neg hc7] at h
        refine OpsJ.guard_y rfl rfl rfl rfl (decide_eq_false hc7) ?_
        refine OpsJ.put rfl (OpJ.pure (OpP.move rfl) ?_)
        refine OpsJ.guard_y rfl rfl rfl rfl (decide_eq_false hc7) ?_
        refine OpsJ.put rfl (OpJ.pure (OpP.gtr rfl rfl) ?_)
        refine OpsJ.put rfl (OpJ.pure (OpP.pick_f rfl (decide_eq_false hc7) rfl) ?_)
        refine OpsJ.nil ?_
        by_cases hc10 : p1_v > 1099511627776
        · rw [if_pos hc10] at h
          refine CodeJ.cond_t rfl (decide_eq_true hc10) ?_
          refine CodeJ.seq' ?_
          refine CodeJ.region ?_
          refine OpsJ.put rfl (OpJ.pure (OpP.assign rfl) ?_)
          refine OpsJ.nil ?_
          refine CodeJ.ret' ?_
          obtain rfl := Option.some.inj h
          exact Ret.mk0 ⟨rfl, rfl⟩ (ResJ.one Try.results13 rfl) (IM.le_refl _) (SubL.nil _)
        · rw [if_neg hc10] at h
          refine CodeJ.cond_f rfl (decide_eq_false hc10) ?_
          refine CodeJ.skip ?_
          refine CodeJ.seq' ?_
          refine CodeJ.region ?_
          refine OpsJ.put rfl (OpJ.pure (OpP.move rfl) ?_)
          obtain ⟨q13, hq14, h15⟩ := bind_ok h
          clear h
          refine OpsJ.put rfl (OpJ.makeS hq14 rfl rfl (by exact rfl) (by exact rfl) (fun A16 c17 cs18 hr19 => ?_))
          refine OpsJ.put rfl (OpJ.pure (OpP.assign rfl) ?_)
          refine OpsJ.nil ?_
          refine CodeJ.seq' ?_
          refine CodeJ.seq' ?_
          refine CodeJ.region ?_
          refine OpsJ.put rfl (OpJ.pure (OpP.assign rfl) ?_)
          refine OpsJ.nil ?_
          obtain ⟨t64, hl65, h66⟩ := bind_ok h15
          clear h15
          refine CodeJ.mid (fun e s => ∃ (cs59 : List Value) (l58 : List Int), l58 = t64 ∧ repL IM.nil cs59 l58 ∧ l58.length = q13.length ∧ e = [(0, .int .i64 p0_n), (5, .slice A16 q13.length c17)] ∧ s = ⟨R, [.row 3 1 A16 q13.length c17 cs59]⟩) ?_ ?_
          · refine CodeJ.block ?_
            refine CodeJ.loopM hl65 (fun (i_44, l45) e s => ∃ (cs46 : List Value), repL IM.nil cs46 l45 ∧ l45.length = q13.length ∧ e = [(0, .int .i64 p0_n), (1, .int .i64 p1_v), (5, .slice A16 q13.length c17), (6, .int .i64 i_44)] ∧ s = ⟨R, [.row 3 1 A16 q13.length c17 cs46]⟩) ⟨cs18, hr19, rfl, rfl, rfl⟩ (SubE.cons rfl (SubE.cons rfl (SubE.cons rfl (SubE.cons rfl (SubE.nil _))))) (SubL.p0 (SubL.nil _)) ?_
            rintro ⟨i_44, l45⟩ _ _ _ ⟨cs46, hr47, hn48, rfl, rfl⟩ h62 hne63
            (try dsimp only at h62); unfold winnowerlaw16_PackRuns_l0 at h62
            refine CodeJ.seq' ?_
            refine CodeJ.seq' ?_
            refine CodeJ.region ?_
            refine OpsJ.put rfl (OpJ.pure (OpP.move rfl) ?_)
            refine OpsJ.put rfl (OpJ.pure (OpP.move rfl) ?_)
            refine OpsJ.put rfl (OpJ.pure (OpP.lss rfl rfl) ?_)
            refine OpsJ.nil ?_
            by_cases hc67 : i_44 < p0_n
            · rw [if_pos hc67] at h62
              refine CodeJ.cond_t rfl (decide_eq_true hc67) ?_
              refine CodeJ.skip ?_
              refine CodeJ.seq' ?_
              refine CodeJ.block ?_
              refine CodeJ.region ?_
              refine OpsJ.put rfl (OpJ.pure (OpP.move rfl) ?_)
              refine OpsJ.put rfl (OpJ.pure (OpP.move rfl) ?_)
              refine OpsJ.put rfl (OpJ.pure (OpP.move rfl) ?_)
              obtain ⟨x68, hx69, h70⟩ := bind_ok h62
              clear h62
              have hE71 : ∀ j v, ([.int .i64 x68] : List Value)[j]? = some v → (cs46)[Int.toNat i_44 * Dat.size Int + j]? = some v := row_getF (α := Int) hr47 hx69
              refine OpsJ.put rfl (OpJ.pure (OpP.ixW (List.Mem.head _) hr47 hn48 hx69 (by exact rfl) (by exact rfl) rfl rfl) ?_)
              obtain ⟨q72, hq73, h75⟩ := bind_ok h70
              clear h70
              have hr74 : repL IM.nil (lsplice cs46 (Int.toNat i_44 * Dat.size Int) [.int .i64 p1_v]) q72 := set_rep hq73 hr47 (show Dat.rep IM.nil [.int .i64 p1_v] p1_v from rfl)
              refine OpsJ.act (OpJ.stW hq73 hr47 (show Dat.rep IM.nil [.int .i64 p1_v] p1_v from rfl) (by exact rfl) (by exact rfl) rfl (List.Perm.refl _) rfl rfl ?_)
              refine OpsJ.nil ?_
              refine CodeJ.region ?_
              refine OpsJ.put rfl (OpJ.pure (OpP.move rfl) ?_)
              refine OpsJ.put rfl (OpJ.pure (OpP.add64 rfl rfl) ?_)
              refine OpsJ.put rfl (OpJ.pure (OpP.assign rfl) ?_)
              refine OpsJ.nil ?_
              obtain rfl := Option.some.inj h75
              exact ⟨_, _, _, _, rfl, ⟨(lsplice cs46 (Int.toNat i_44 * Dat.size Int) [.int .i64 p1_v]), hr74, (set_len hq73 hn48), rfl, rfl⟩, IM.le_refl _, (SubE.cons rfl (SubE.cons rfl (SubE.cons rfl (SubE.cons rfl (SubE.nil _))))), (SubL.p0 (SubL.nil _))⟩
            · rw [if_neg hc67] at h62
              refine CodeJ.cond_f rfl (decide_eq_false hc67) ?_
              refine CodeJ.exit rfl ?_
              obtain rfl := Option.some.inj h62
              have ht76 := hne63 _ rfl
              exact ⟨_, _, _, ⟨cs46, l45, ht76, hr47, hn48, rfl, rfl⟩, IM.le_refl _, (SubE.cons rfl (SubE.cons rfl (SubE.nil _))), (SubL.p0 (SubL.nil _))⟩
          · rintro _ _ ⟨cs59, l58, rfl, hr60, hn61, rfl, rfl⟩
            (try dsimp only at h66)
            refine CodeJ.seq' ?_
            refine CodeJ.region ?_
            refine OpsJ.put rfl (OpJ.pure (OpP.move rfl) ?_)
            refine OpsJ.rowle (List.Perm.refl _) (fun hcap77 _ => ?_)
            obtain ⟨y81, hy82, h83⟩ := bind_ok h66
            clear h66
            refine OpsJ.put rfl (OpJ.callP Split.nil rfl (fun R78 hle79 hin80 => pack_Best_w R78 A16 q13.length c17 l58 (SlR.of_row (inRow hin80 (List.Mem.head _)) hr60 (IM.le_nil _)) hn61 hcap77  _ hy82) ?_)
            rintro _ _ _ ⟨A84, c85, cs86, rfl, hr87, rfl⟩
            refine OpsJ.put rfl (OpJ.pure (OpP.move rfl) ?_)
            refine OpsJ.put rfl (OpJ.pure (OpP.extract rfl rfl) ?_)
            refine OpsJ.put rfl (OpJ.pure (OpP.extract rfl rfl) ?_)
            refine OpsJ.put rfl (OpJ.pure (OpP.assign rfl) ?_)
            refine OpsJ.put rfl (OpJ.pure (OpP.assign rfl) ?_)
            refine OpsJ.nil ?_
            refine CodeJ.seq' ?_
            refine CodeJ.seq' ?_
            refine CodeJ.region ?_
            refine OpsJ.put rfl (OpJ.pure (OpP.move rfl) ?_)
            refine OpsJ.put rfl (OpJ.pure (OpP.gtr rfl rfl) ?_)
            refine OpsJ.nil ?_
            by_cases hc89 : p0_n > 32768
            · rw [if_pos hc89] at h83
              refine CodeJ.cond_t rfl (decide_eq_true hc89) ?_
              refine CodeJ.seq' ?_
              refine CodeJ.region ?_
              refine OpsJ.put rfl (OpJ.pure (OpP.move rfl) ?_)
              refine OpsJ.put rfl (OpJ.pure (OpP.len rfl) ?_)
              refine OpsJ.put rfl (OpJ.pure (OpP.eql rfl rfl) ?_)
              refine OpsJ.put rfl (OpJ.pure (OpP.move rfl) ?_)
              by_cases hc90 : ((y81.1.length : Nat) : Int) = 0
              · rw [if_pos hc90] at h83
                refine OpsJ.guard_y rfl rfl rfl rfl (decide_eq_true hc90) ?_
                refine OpsJ.put rfl (OpJ.pure (OpP.move rfl) ?_)
                refine OpsJ.guard_y rfl rfl rfl rfl (decide_eq_true hc90) ?_
                refine OpsJ.put rfl (OpJ.pure (OpP.eql rfl rfl) ?_)
                refine OpsJ.put rfl (OpJ.pure (OpP.pick_t rfl (decide_eq_true hc90) rfl) ?_)
                refine OpsJ.put rfl (OpJ.pure (OpP.move rfl) ?_)
                by_cases hc91 : y81.2 = 1
                · rw [if_pos hc91] at h83
                  refine OpsJ.guard_y rfl rfl rfl rfl (decide_eq_true hc91) ?_
                  obtain ⟨y95, hy96, h97⟩ := bind_ok h83
                  clear h83
                  refine OpsJ.put rfl (OpJ.call0 rfl (fun R92 hle93 hin94 => winnowerlaw16_known_w R92   _ hy96) ?_)
                  rintro _ _ _ ⟨rfl, rfl⟩
                  refine OpsJ.put rfl (OpJ.pure (OpP.pick_t rfl (decide_eq_true hc91) rfl) ?_)
                  refine OpsJ.put rfl (OpJ.pure (OpP.assign rfl) ?_)
                  refine OpsJ.nil ?_
                  refine CodeJ.ret' ?_
                  obtain rfl := Option.some.inj h97
                  exact Ret.mk0 ⟨rfl, rfl⟩ (ResJ.one Try.results13 rfl) (IM.le_refl _) (SubL.nil _)
                · rw [if_neg hc91] at h83
                  refine OpsJ.guard_n rfl rfl rfl rfl (decide_eq_false hc91) ?_
                  refine OpsJ.put rfl (OpJ.pure (OpP.pick_f rfl (decide_eq_false hc91) rfl) ?_)
                  refine OpsJ.put rfl (OpJ.pure (OpP.assign rfl) ?_)
                  refine OpsJ.nil ?_
                  refine CodeJ.ret' ?_
                  obtain rfl := Option.some.inj h83
                  exact Ret.mk0 ⟨rfl, rfl⟩ (ResJ.one Try.results13 rfl) (IM.le_refl _) (SubL.nil _)
              · rw [if_neg hc90] at h83
                refine OpsJ.guard_n rfl rfl rfl rfl (decide_eq_false hc90) ?_
                refine OpsJ.guard_n rfl rfl rfl rfl (decide_eq_false hc90) ?_
                refine OpsJ.put rfl (OpJ.pure (OpP.pick_f rfl (decide_eq_false hc90) rfl) ?_)
                refine OpsJ.put rfl (OpJ.pure (OpP.move rfl) ?_)
                refine OpsJ.guard_n rfl rfl rfl rfl rfl ?_
                refine OpsJ.put rfl (OpJ.pure (OpP.pick_f rfl rfl rfl) ?_)
                refine OpsJ.put rfl (OpJ.pure (OpP.assign rfl) ?_)
                refine OpsJ.nil ?_
                refine CodeJ.ret' ?_
                obtain rfl := Option.some.inj h83
                exact Ret.mk0 ⟨rfl, rfl⟩ (ResJ.one Try.results13 rfl) (IM.le_refl _) (SubL.nil _)
            · rw [if_neg hc89] at h83
              refine CodeJ.cond_f rfl (decide_eq_false hc89) ?_
              refine CodeJ.skip ?_
              refine CodeJ.seq' ?_
              refine CodeJ.region ?_
              refine OpsJ.put rfl (OpJ.pure (OpP.move rfl) ?_)
              refine OpsJ.rowle (List.Perm.refl _) (fun hcap104 _ => ?_)
              obtain ⟨y108, hy109, h110⟩ := bind_ok h83
              clear h83
              refine OpsJ.put rfl (OpJ.callP Split.nil rfl (fun R105 hle106 hin107 => pack_Decode_w R105 A84 y81.1.length c85 y81.1 (SlR.of_row (inRow hin107 (List.Mem.head _)) hr87 (IM.le_nil _)) rfl hcap104  _ hy109) ?_)
              rintro _ _ _ ⟨A111, c112, cs113, rfl, hr114, rfl⟩
              refine OpsJ.put rfl (OpJ.pure (OpP.move rfl) ?_)
              refine OpsJ.put rfl (OpJ.pure (OpP.extract rfl rfl) ?_)
              refine OpsJ.put rfl (OpJ.pure (OpP.extract rfl rfl) ?_)
              refine OpsJ.put rfl (OpJ.pure (OpP.assign rfl) ?_)
              refine OpsJ.put rfl (OpJ.pure (OpP.assign rfl) ?_)
              refine OpsJ.nil ?_
              refine CodeJ.seq' ?_
              refine CodeJ.region ?_
              refine OpsJ.put rfl (OpJ.pure (OpP.move rfl) ?_)
              refine OpsJ.put rfl (OpJ.pure (OpP.eql rfl rfl) ?_)
              refine OpsJ.put rfl (OpJ.pure (OpP.move rfl) ?_)
              by_cases hc116 : y81.2 = 0
              · rw [if_pos hc116] at h110
                refine OpsJ.guard_y rfl rfl rfl rfl (decide_eq_true hc116) ?_
                refine OpsJ.put rfl (OpJ.pure (OpP.move rfl) ?_)
                refine OpsJ.guard_y rfl rfl rfl rfl (decide_eq_true hc116) ?_
                refine OpsJ.put rfl (OpJ.pure (OpP.eql rfl rfl) ?_)
                refine OpsJ.put rfl (OpJ.pure (OpP.pick_t rfl (decide_eq_true hc116) rfl) ?_)
                refine OpsJ.put rfl (OpJ.pure (OpP.move rfl) ?_)
                by_cases hc117 : y108.2 = 0
                · rw [if_pos hc117] at h110
                  refine OpsJ.guard_y rfl rfl rfl rfl (decide_eq_true hc117) ?_
                  refine OpsJ.put rfl (OpJ.pure (OpP.move rfl) ?_)
                  refine OpsJ.guard_y rfl rfl rfl rfl (decide_eq_true hc117) ?_
                  refine OpsJ.put rfl (OpJ.pure (OpP.move rfl) ?_)
                  refine OpsJ.guard_y rfl rfl rfl rfl (decide_eq_true hc117) ?_
                  refine OpsJ.rowle (permm2 _ _ _ _) (fun hcap118 _ => ?_)
                  refine OpsJ.rowle (List.Perm.refl _) (fun hcap119 _ => ?_)
                  obtain ⟨y123, hy124, h125⟩ := bind_ok h110
                  clear h110
                  refine OpsJ.put rfl (OpJ.call0 rfl (fun R120 hle121 hin122 => winnowerlaw16_numbers_w R120 A16 q13.length c17 l58 (SlR.of_row (inRow hin122 (List.Mem.tail _ (List.Mem.tail _ (List.Mem.head _)))) hr60 (IM.le_nil _)) hn61 hcap118 A111 y108.1.length c112 y108.1 (SlR.of_row (inRow hin122 (List.Mem.head _)) hr114 (IM.le_nil _)) rfl hcap119  _ hy124) ?_)
                  rintro _ _ _ ⟨rfl, rfl⟩
                  refine OpsJ.put rfl (OpJ.pure (OpP.pick_t rfl (decide_eq_true hc117) rfl) ?_)
                  refine OpsJ.put rfl (OpJ.pure (OpP.move rfl) ?_)
                  by_cases hc126 : y123 = true
                  · rw [if_pos hc126] at h125
                    refine OpsJ.guard_y rfl rfl rfl rfl hc126 ?_
                    refine OpsJ.put rfl (OpJ.pure (OpP.move rfl) ?_)
                    refine OpsJ.guard_y rfl rfl rfl rfl hc126 ?_
                    refine OpsJ.put rfl (OpJ.pure (OpP.len rfl) ?_)
                    refine OpsJ.guard_y rfl rfl rfl rfl hc126 ?_
                    refine OpsJ.put rfl (OpJ.pure (OpP.leq rfl rfl) ?_)
                    refine OpsJ.put rfl (OpJ.pure (OpP.pick_t rfl hc126 rfl) ?_)
                    refine OpsJ.put rfl (OpJ.pure (OpP.move rfl) ?_)
                    by_cases hc127 : ((y81.1.length : Nat) : Int) ≤ 12
                    · rw [if_pos hc127] at h125
                      refine OpsJ.guard_y rfl rfl rfl rfl (decide_eq_true hc127) ?_
                      obtain ⟨y131, hy132, h133⟩ := bind_ok h125
                      clear h125
                      refine OpsJ.put rfl (OpJ.call0 rfl (fun R128 hle129 hin130 => winnowerlaw16_known_w R128   _ hy132) ?_)
                      rintro _ _ _ ⟨rfl, rfl⟩
                      refine OpsJ.put rfl (OpJ.pure (OpP.pick_t rfl (decide_eq_true hc127) rfl) ?_)
                      refine OpsJ.put rfl (OpJ.pure (OpP.assign rfl) ?_)
                      refine OpsJ.nil ?_
                      refine CodeJ.ret' ?_
                      obtain rfl := Option.some.inj h133
                      exact Ret.mk0 ⟨rfl, rfl⟩ (ResJ.one Try.results13 rfl) (IM.le_refl _) (SubL.nil _)
                    · rw [if_neg hc127] at h125
                      refine OpsJ.guard_n rfl rfl rfl rfl (decide_eq_false hc127) ?_
                      refine OpsJ.put rfl (OpJ.pure (OpP.pick_f rfl (decide_eq_false hc127) rfl) ?_)
                      refine OpsJ.put rfl (OpJ.pure (OpP.assign rfl) ?_)
                      refine OpsJ.nil ?_
                      refine CodeJ.ret' ?_
                      obtain rfl := Option.some.inj h125
                      exact Ret.mk0 ⟨rfl, rfl⟩ (ResJ.one Try.results13 rfl) (IM.le_refl _) (SubL.nil _)
                  · rw [if_neg hc126] at h125
                    refine OpsJ.guard_n rfl rfl rfl rfl (Bool.eq_false_iff.2 hc126) ?_
                    refine OpsJ.guard_n rfl rfl rfl rfl (Bool.eq_false_iff.2 hc126) ?_
                    refine OpsJ.guard_n rfl rfl rfl rfl (Bool.eq_false_iff.2 hc126) ?_
                    refine OpsJ.put rfl (OpJ.pure (OpP.pick_f rfl (Bool.eq_false_iff.2 hc126) rfl) ?_)
                    refine OpsJ.put rfl (OpJ.pure (OpP.move rfl) ?_)
                    refine OpsJ.guard_n rfl rfl rfl rfl rfl ?_
                    refine OpsJ.put rfl (OpJ.pure (OpP.pick_f rfl rfl rfl) ?_)
                    refine OpsJ.put rfl (OpJ.pure (OpP.assign rfl) ?_)
                    refine OpsJ.nil ?_
                    refine CodeJ.ret' ?_
                    obtain rfl := Option.some.inj h125
                    exact Ret.mk0 ⟨rfl, rfl⟩ (ResJ.one Try.results13 rfl) (IM.le_refl _) (SubL.nil _)
                · rw [if_neg hc117] at h110
                  refine OpsJ.guard_n rfl rfl rfl rfl (decide_eq_false hc117) ?_
                  refine OpsJ.guard_n rfl rfl rfl rfl (decide_eq_false hc117) ?_
                  refine OpsJ.guard_n rfl rfl rfl rfl (decide_eq_false hc117) ?_
                  refine OpsJ.put rfl (OpJ.pure (OpP.pick_f rfl (decide_eq_false hc117) rfl) ?_)
                  refine OpsJ.put rfl (OpJ.pure (OpP.move rfl) ?_)
                  refine OpsJ.guard_n rfl rfl rfl rfl rfl ?_
                  refine OpsJ.guard_n rfl rfl rfl rfl rfl ?_
                  refine OpsJ.guard_n rfl rfl rfl rfl rfl ?_
                  refine OpsJ.put rfl (OpJ.pure (OpP.pick_f rfl rfl rfl) ?_)
                  refine OpsJ.put rfl (OpJ.pure (OpP.move rfl) ?_)
                  refine OpsJ.guard_n rfl rfl rfl rfl rfl ?_
                  refine OpsJ.put rfl (OpJ.pure (OpP.pick_f rfl rfl rfl) ?_)
                  refine OpsJ.put rfl (OpJ.pure (OpP.assign rfl) ?_)
                  refine OpsJ.nil ?_
                  refine CodeJ.ret' ?_
                  obtain rfl := Option.some.inj h110
                  exact Ret.mk0 ⟨rfl, rfl⟩ (ResJ.one Try.results13 rfl) (IM.le_refl _) (SubL.nil _)
              · rw [if_neg hc116] at h110
                refine OpsJ.guard_n rfl rfl rfl rfl (decide_eq_false hc116) ?_
                refine OpsJ.guard_n rfl rfl rfl rfl (decide_eq_false hc116) ?_
                refine OpsJ.put rfl (OpJ.pure (OpP.pick_f rfl (decide_eq_false hc116) rfl) ?_)
                refine OpsJ.put rfl (OpJ.pure (OpP.move rfl) ?_)
                refine OpsJ.guard_n rfl rfl rfl rfl rfl ?_
                refine OpsJ.guard_n rfl rfl rfl rfl rfl ?_
                refine OpsJ.guard_n rfl rfl rfl rfl rfl ?_
                refine OpsJ.put rfl (OpJ.pure (OpP.pick_f rfl rfl rfl) ?_)
                refine OpsJ.put rfl (OpJ.pure (OpP.move rfl) ?_)
                refine OpsJ.guard_n rfl rfl rfl rfl rfl ?_
                refine OpsJ.guard_n rfl rfl rfl rfl rfl ?_
                refine OpsJ.guard_n rfl rfl rfl rfl rfl ?_
                refine OpsJ.put rfl (OpJ.pure (OpP.pick_f rfl rfl rfl) ?_)
                refine OpsJ.put rfl (OpJ.pure (OpP.move rfl) ?_)
                refine OpsJ.guard_n rfl rfl rfl rfl rfl ?_
                refine OpsJ.put rfl (OpJ.pure (OpP.pick_f rfl rfl rfl) ?_)
                refine OpsJ.put rfl (OpJ.pure (OpP.assign rfl) ?_)
                refine OpsJ.nil ?_
                refine CodeJ.ret' ?_
                obtain rfl := Option.some.inj h110
                exact Ret.mk0 ⟨rfl, rfl⟩ (ResJ.one Try.results13 rfl) (IM.le_refl _) (SubL.nil _)
theorem winnowerlaw16_PackRises_w (R : IM) (p0_from : Int) (A1_ : Option Addr) (n1_ c1_ : Nat) (p1_steps : List Int) (hA1_ : SlR R A1_ p1_steps) (hn1_ : p1_steps.length = n1_) (hc1_ : n1_ ≤ c1_) (y : Bool) (h : winnowerlaw16_PackRises p0_from p1_steps = some y) :
    CallJ Try.prog 14 #[.int .i64 p0_from, .slice A1_ n1_ c1_] ⟨R, []⟩ (fun v D hs' => v = .bool y ∧ hs' = []) := by
  subst hn1_
  unfold winnowerlaw16_PackRises at h
  refine CallJ.of2 Try.func14 rfl Try.ntmps14 rfl (fun W0 => ?_)
  refine CodeJ.seq' ?_
  refine CodeJ.region ?_
  refine OpsJ.put rfl (OpJ.pure (OpP.assign rfl) ?_)
  refine OpsJ.nil ?_
  refine CodeJ.seq' ?_
  refine CodeJ.seq' ?_
  refine CodeJ.region ?_
  refine OpsJ.put rfl (OpJ.pure (OpP.move rfl) ?_)
  refine OpsJ.put rfl (OpJ.pure (OpP.lss rfl rfl) ?_)
  refine OpsJ.put rfl (OpJ.pure (OpP.move rfl) ?_)
  by_cases hc1 : p0_from < 0
  · rw [if_pos hc1] at h
    refine OpsJ.guard_n rfl rfl rfl rfl (decide_eq_true hc1) ?_
    refine OpsJ.guard_n rfl rfl rfl rfl (decide_eq_true hc1) ?_
    refine OpsJ.put rfl (OpJ.pure (OpP.pick_t rfl (decide_eq_true hc1) rfl) ?_)
    refine OpsJ.put rfl (OpJ.pure (OpP.move rfl) ?_)
    refine OpsJ.guard_n rfl rfl rfl rfl rfl ?_
    refine OpsJ.guard_n rfl rfl rfl rfl rfl ?_
    refine OpsJ.guard_n rfl rfl rfl rfl rfl ?_
    refine OpsJ.put rfl (OpJ.pure (OpP.pick_t rfl rfl rfl) ?_)
    refine OpsJ.nil ?_
    refine CodeJ.cond_t rfl rfl ?_
    refine CodeJ.seq' ?_
    refine CodeJ.region ?_
    refine OpsJ.put rfl (OpJ.pure (OpP.assign rfl) ?_)
    refine OpsJ.nil ?_
    refine CodeJ.ret' ?_
    obtain rfl := Option.some.inj h
    exact Ret.mk0 ⟨rfl, rfl⟩ (ResJ.one Try.results14 rfl) (IM.le_refl _) (SubL.nil _)
  · rw [if_neg hc1] at h
    refine OpsJ.guard_y rfl rfl rfl rfl (decide_eq_false hc1) ?_
    refine OpsJ.put rfl (OpJ.pure (OpP.move rfl) ?_)
    refine OpsJ.guard_y rfl rfl rfl rfl (decide_eq_false hc1) ?_
    refine OpsJ.put rfl (OpJ.pure (OpP.gtr rfl rfl) ?_)
    refine OpsJ.put rfl (OpJ.pure (OpP.pick_f rfl (decide_eq_false hc1) rfl) ?_)
    refine OpsJ.put rfl (OpJ.pure (OpP.move rfl) ?_)
    by_cases hc4 : p0_from > 549755813888
    · rw [if_pos hc4] at h
      refine OpsJ.guard_n rfl rfl rfl rfl (decide_eq_true hc4) ?_
      refine OpsJ.guard_n rfl rfl rfl rfl (decide_eq_true hc4) ?_
      refine OpsJ.guard_n rfl rfl rfl rfl (decide_eq_true hc4) ?_
      refine OpsJ.put rfl (OpJ.pure (OpP.pick_t rfl (decide_eq_true hc4) rfl) ?_)
      refine OpsJ.nil ?_
      refine CodeJ.cond_t rfl rfl ?_
      refine CodeJ.seq' ?_
      refine CodeJ.region ?_
      refine OpsJ.put rfl (OpJ.pure (OpP.assign rfl) ?_)
      refine OpsJ.nil ?_
      refine CodeJ.ret' ?_
      obtain rfl := Option.some.inj h
      exact Ret.mk0 ⟨rfl, rfl⟩ (ResJ.one Try.results14 rfl) (IM.le_refl _) (SubL.nil _)
    · rw [if_neg hc4] at h
      refine OpsJ.guard_y rfl rfl rfl rfl (decide_eq_false hc4) ?_
      refine OpsJ.put rfl (OpJ.pure (OpP.move rfl) ?_)
      refine OpsJ.guard_y rfl rfl rfl rfl (decide_eq_false hc4) ?_
      refine OpsJ.put rfl (OpJ.pure (OpP.len rfl) ?_)
      refine OpsJ.guard_y rfl rfl rfl rfl (decide_eq_false hc4) ?_
      refine OpsJ.put rfl (OpJ.pure (OpP.gtr rfl rfl) ?_)
      refine OpsJ.put rfl (OpJ.pure (OpP.pick_f rfl (decide_eq_false hc4) rfl) ?_)
      refine OpsJ.nil ?_
      by_cases hc7 : ((p1_steps.length : Nat) : Int) > 300
      · rw [if_pos hc7] at h
        refine CodeJ.cond_t rfl (decide_eq_true hc7) ?_
        refine CodeJ.seq' ?_
        refine CodeJ.region ?_
        refine OpsJ.put rfl (OpJ.pure (OpP.assign rfl) ?_)
        refine OpsJ.nil ?_
        refine CodeJ.ret' ?_
        obtain rfl := Option.some.inj h
        exact Ret.mk0 ⟨rfl, rfl⟩ (ResJ.one Try.results14 rfl) (IM.le_refl _) (SubL.nil _)
      · rw [if_neg hc7] at h
        refine CodeJ.cond_f rfl (decide_eq_false hc7) ?_
        refine CodeJ.skip ?_
        refine CodeJ.seq' ?_
        refine CodeJ.region ?_
        refine OpsJ.put rfl (OpJ.pure (OpP.move rfl) ?_)
        have hr11 : repL IM.nil [.int .i64 p0_from] ([p0_from] : List Int) := (repL_cons (c1 := [.int .i64 p0_from]) (show Dat.rep _ _ p0_from from rfl) (repL_nil _))
        refine OpsJ.put rfl (OpJ.buildSliceC (cs := [.int .i64 p0_from]) rfl rfl (by exact rfl) (by exact rfl) (by exact rfl) (by exact rfl) (fun g10 => ?_))
        refine OpsJ.put rfl (OpJ.pure (OpP.assign rfl) ?_)
        refine OpsJ.nil ?_
        refine CodeJ.seq' ?_
        refine CodeJ.seq' ?_
        refine CodeJ.region ?_
        refine OpsJ.put rfl (OpJ.pure (OpP.assign rfl) ?_)
        refine OpsJ.nil ?_
        obtain ⟨t200, hl201, h202⟩ := bind_ok h
        clear h
        refine CodeJ.mid (fun e s => ∃ (A193 : Option Addr) (c194 : Nat) (cs195 : List Value) (l_192 : List Int), l_192 = t200 ∧ repL IM.nil cs195 l_192 ∧ e = [(5, .slice A193 l_192.length c194)] ∧ s = ⟨R, [.row 3 1 A193 l_192.length c194 cs195]⟩) ?_ ?_
        · refine CodeJ.block ?_
          refine CodeJ.loopM hl201 (fun (l_130, i_136) e s => ∃ (A131 : Option Addr) (c132 : Nat) (cs133 : List Value), repL IM.nil cs133 l_130 ∧ e = [(1, .slice A1_ p1_steps.length c1_), (5, .slice A131 l_130.length c132), (6, .int .i64 i_136)] ∧ s = ⟨R, [.row 3 1 A131 l_130.length c132 cs133]⟩) ⟨(some ⟨g10, 0, none⟩), 1, ([.int .i64 p0_from] : List Value), hr11, rfl, rfl⟩ (SubE.cons rfl (SubE.cons rfl (SubE.cons rfl (SubE.nil _)))) (SubL.p0 (SubL.nil _)) ?_
          rintro ⟨l_130, i_136⟩ _ _ _ ⟨A131, c132, cs133, hr134, rfl, rfl⟩ h198 hne199
          (try dsimp only at h198); unfold winnowerlaw16_PackRises_l0 at h198
          refine CodeJ.seq' ?_
          refine CodeJ.seq' ?_
          refine CodeJ.region ?_
          refine OpsJ.put rfl (OpJ.pure (OpP.move rfl) ?_)
          refine OpsJ.put rfl (OpJ.pure (OpP.move rfl) ?_)
          refine OpsJ.put rfl (OpJ.pure (OpP.len rfl) ?_)
          refine OpsJ.put rfl (OpJ.pure (OpP.lss rfl rfl) ?_)
          refine OpsJ.nil ?_
          by_cases hc203 : i_136 < ((p1_steps.length : Nat) : Int)
          · rw [if_pos hc203] at h198
            refine CodeJ.cond_t rfl (decide_eq_true hc203) ?_
            refine CodeJ.skip ?_
            refine CodeJ.seq' ?_
            refine CodeJ.block ?_
            refine HoldJ.start [] (by kernel_rfl) ?_
            refine HoldJ.take 0 rfl (by kernel_rfl) rfl (OpP.move rfl) ⟨(IM.le_refl _), (SubL.nil _)⟩ ?_
            refine HoldJ.take 1 rfl (by kernel_rfl) rfl (OpP.move rfl) ⟨(IM.le_refl _), (SubL.nil _)⟩ ?_
            refine HoldJ.take 2 rfl (by kernel_rfl) rfl (OpP.move rfl) ⟨(IM.le_refl _), (SubL.nil _)⟩ ?_
            refine HoldJ.take 5 rfl (by kernel_rfl) rfl (OpP.move rfl) ⟨(IM.le_refl _), (SubL.nil _)⟩ ?_
            refine HoldJ.take 6 rfl (by kernel_rfl) rfl (OpP.move rfl) ⟨(IM.le_refl _), (SubL.nil _)⟩ ?_
            obtain ⟨x240, hx241, h242⟩ := bind_ok h198
            clear h198
            have hE243 : RC _ (some ((adr A1_).add (Int.toNat i_136 * Dat.size Int))) [.int .i64 x240] := SlR.getF (α := Int) hA1_ hx241
            refine HoldJ.take 7 rfl (by kernel_rfl) rfl (OpP.ixR hA1_ rfl hx241 (by exact rfl) (by exact rfl) rfl rfl) ⟨(IM.le_refl _), (SubL.nil _)⟩ ?_
            refine HoldJ.take 8 rfl (by kernel_rfl) rfl (OpP.ldR0 (by exact rfl) hE243 (IM.le_refl _) rfl rfl) ⟨(IM.le_refl _), (SubL.nil _)⟩ ?_
            refine HoldJ.take 9 rfl (by kernel_rfl) rfl (OpP.iand rfl rfl) ⟨(IM.le_refl _), (SubL.nil _)⟩ ?_
            obtain ⟨x244, hx245, h246⟩ := bind_ok h242
            clear h242
            have hE247 : ∀ j v, ([.int .i64 x244] : List Value)[j]? = some v → (cs133)[Int.toNat i_136 * Dat.size Int + j]? = some v := row_getF (α := Int) hr134 hx245
            refine HoldJ.step 3 rfl (by kernel_rfl) rfl (OpJ.pure (OpP.ixW (List.Mem.head _) hr134 rfl hx245 (by exact rfl) (by exact rfl) rfl rfl) ?_)
            refine ⟨⟨(IM.le_refl _), (SubL.nil _)⟩, ?_⟩
            refine HoldJ.step 4 rfl (by kernel_rfl) rfl (OpJ.pure (OpP.ldW0 (by exact rfl) (List.Mem.head _) hE247 rfl rfl) ?_)
            refine ⟨⟨(IM.le_refl _), (SubL.nil _)⟩, ?_⟩
            refine HoldJ.take 10 rfl (by kernel_rfl) rfl (OpP.add64 rfl rfl) ⟨(IM.le_refl _), (SubL.nil _)⟩ ?_
            have hr249 : repL IM.nil [.int .i64 (w64 (x244 + (iand x240 31)))] ([w64 (x244 + (iand x240 31))] : List Int) := (repL_cons (c1 := [.int .i64 (w64 (x244 + (iand x240 31)))]) (show Dat.rep _ _ (w64 (x244 + (iand x240 31))) from rfl) (repL_nil _))
            refine HoldJ.step 11 rfl (by kernel_rfl) rfl (OpJ.buildSliceC (cs := [.int .i64 (w64 (x244 + (iand x240 31)))]) rfl rfl (by exact rfl) (by exact rfl) (by exact rfl) (by exact rfl) (fun g248 => ?_))
            refine ⟨⟨(IM.le_refl _), (SubL.nil _)⟩, ?_⟩
            obtain ⟨q251, hq252, h253⟩ := bind_ok h246
            clear h246
            have hr256 : repL IM.nil (cs133 ++ ([.int .i64 (w64 (x244 + (iand x240 31)))] : List Value)) q251 := app_rep hq252 hr134 hr249
            refine HoldJ.step 12 rfl (by kernel_rfl) rfl (OpJ.appW hq252 rfl rfl (Src.ofRow (List.Mem.head _)) hr249 (by exact rfl) (List.Perm.swap _ _ _) (by exact rfl) (by exact rfl) (by exact rfl) rfl rfl (fun A254 c255 => ?_))
            refine ⟨⟨(IM.le_refl _), (SubL.nil _)⟩, ?_⟩
            refine HoldJ.take 13 rfl (by kernel_rfl) rfl (OpP.assign rfl) ⟨(IM.le_refl _), (SubL.nil _)⟩ ?_
            refine HoldJ.fin (by kernel_rfl) ?_
            refine CodeJ.region ?_
            refine OpsJ.put rfl (OpJ.pure (OpP.move rfl) ?_)
            refine OpsJ.put rfl (OpJ.pure (OpP.add64 rfl rfl) ?_)
            refine OpsJ.put rfl (OpJ.pure (OpP.assign rfl) ?_)
            refine OpsJ.nil ?_
            obtain rfl := Option.some.inj h253
            exact ⟨_, _, _, _, rfl, ⟨A254, c255, (cs133 ++ ([.int .i64 (w64 (x244 + (iand x240 31)))] : List Value)), hr256, rfl, rfl⟩, IM.le_refl _, (SubE.cons rfl (SubE.cons rfl (SubE.cons rfl (SubE.nil _)))), (SubL.p0 (SubL.nil _))⟩
          · rw [if_neg hc203] at h198
            refine CodeJ.cond_f rfl (decide_eq_false hc203) ?_
            refine CodeJ.exit rfl ?_
            obtain rfl := Option.some.inj h198
            have ht258 := hne199 _ rfl
            exact ⟨_, _, _, ⟨A131, c132, cs133, l_130, ht258, hr134, rfl, rfl⟩, IM.le_refl _, (SubE.cons rfl (SubE.nil _)), (SubL.p0 (SubL.nil _))⟩
        · rintro _ _ ⟨A193, c194, cs195, l_192, rfl, hr196, rfl, rfl⟩
          (try dsimp only at h202)
          refine CodeJ.seq' ?_
          refine CodeJ.region ?_
          refine OpsJ.put rfl (OpJ.pure (OpP.move rfl) ?_)
          refine OpsJ.rowle (List.Perm.refl _) (fun hcap259 _ => ?_)
          obtain ⟨y263, hy264, h265⟩ := bind_ok h202
          clear h202
          refine OpsJ.put rfl (OpJ.callP Split.nil rfl (fun R260 hle261 hin262 => pack_Best_w R260 A193 l_192.length c194 l_192 (SlR.of_row (inRow hin262 (List.Mem.head _)) hr196 (IM.le_nil _)) rfl hcap259  _ hy264) ?_)
          rintro _ _ _ ⟨A266, c267, cs268, rfl, hr269, rfl⟩
          refine OpsJ.put rfl (OpJ.pure (OpP.move rfl) ?_)
          refine OpsJ.put rfl (OpJ.pure (OpP.extract rfl rfl) ?_)
          refine OpsJ.put rfl (OpJ.pure (OpP.extract rfl rfl) ?_)
          refine OpsJ.put rfl (OpJ.pure (OpP.assign rfl) ?_)
          refine OpsJ.put rfl (OpJ.pure (OpP.assign rfl) ?_)
          refine OpsJ.nil ?_
          refine CodeJ.seq' ?_
          refine CodeJ.region ?_
          refine OpsJ.put rfl (OpJ.pure (OpP.move rfl) ?_)
          refine OpsJ.rowle (List.Perm.refl _) (fun hcap271 _ => ?_)
          obtain ⟨y275, hy276, h277⟩ := bind_ok h265
          clear h265
          refine OpsJ.put rfl (OpJ.callP Split.nil rfl (fun R272 hle273 hin274 => pack_Decode_w R272 A266 y263.1.length c267 y263.1 (SlR.of_row (inRow hin274 (List.Mem.head _)) hr269 (IM.le_nil _)) rfl hcap271  _ hy276) ?_)
          rintro _ _ _ ⟨A278, c279, cs280, rfl, hr281, rfl⟩
          refine OpsJ.put rfl (OpJ.pure (OpP.move rfl) ?_)
          refine OpsJ.put rfl (OpJ.pure (OpP.extract rfl rfl) ?_)
          refine OpsJ.put rfl (OpJ.pure (OpP.extract rfl rfl) ?_)
          refine OpsJ.put rfl (OpJ.pure (OpP.assign rfl) ?_)
          refine OpsJ.put rfl (OpJ.pure (OpP.assign rfl) ?_)
          refine OpsJ.nil ?_
          refine CodeJ.seq' ?_
          refine CodeJ.region ?_
          refine OpsJ.put rfl (OpJ.pure (OpP.move rfl) ?_)
          refine OpsJ.put rfl (OpJ.pure (OpP.eql rfl rfl) ?_)
          refine OpsJ.put rfl (OpJ.pure (OpP.move rfl) ?_)
          by_cases hc283 : y263.2 = 0
          · rw [if_pos hc283] at h277
            refine OpsJ.guard_y rfl rfl rfl rfl (decide_eq_true hc283) ?_
            refine OpsJ.put rfl (OpJ.pure (OpP.move rfl) ?_)
            refine OpsJ.guard_y rfl rfl rfl rfl (decide_eq_true hc283) ?_
            refine OpsJ.put rfl (OpJ.pure (OpP.eql rfl rfl) ?_)
            refine OpsJ.put rfl (OpJ.pure (OpP.pick_t rfl (decide_eq_true hc283) rfl) ?_)
            refine OpsJ.put rfl (OpJ.pure (OpP.move rfl) ?_)
            by_cases hc284 : y275.2 = 0
            · rw [if_pos hc284] at h277
              refine OpsJ.guard_y rfl rfl rfl rfl (decide_eq_true hc284) ?_
              refine OpsJ.put rfl (OpJ.pure (OpP.move rfl) ?_)
              refine OpsJ.guard_y rfl rfl rfl rfl (decide_eq_true hc284) ?_
              refine OpsJ.put rfl (OpJ.pure (OpP.move rfl) ?_)
              refine OpsJ.guard_y rfl rfl rfl rfl (decide_eq_true hc284) ?_
              refine OpsJ.rowle (permm2 _ _ _ _) (fun hcap285 _ => ?_)
              refine OpsJ.rowle (List.Perm.refl _) (fun hcap286 _ => ?_)
              obtain ⟨y290, hy291, h292⟩ := bind_ok h277
              clear h277
              refine OpsJ.put rfl (OpJ.call0 rfl (fun R287 hle288 hin289 => winnowerlaw16_numbers_w R287 A193 l_192.length c194 l_192 (SlR.of_row (inRow hin289 (List.Mem.tail _ (List.Mem.tail _ (List.Mem.head _)))) hr196 (IM.le_nil _)) rfl hcap285 A278 y275.1.length c279 y275.1 (SlR.of_row (inRow hin289 (List.Mem.head _)) hr281 (IM.le_nil _)) rfl hcap286  _ hy291) ?_)
              rintro _ _ _ ⟨rfl, rfl⟩
              refine OpsJ.put rfl (OpJ.pure (OpP.pick_t rfl (decide_eq_true hc284) rfl) ?_)
              refine OpsJ.put rfl (OpJ.pure (OpP.move rfl) ?_)
              by_cases hc293 : y290 = true
              · rw [if_pos hc293] at h292
                refine OpsJ.guard_y rfl rfl rfl rfl hc293 ?_
                refine OpsJ.put rfl (OpJ.pure (OpP.move rfl) ?_)
                refine OpsJ.guard_y rfl rfl rfl rfl hc293 ?_
                refine OpsJ.put rfl (OpJ.pure (OpP.len rfl) ?_)
                refine OpsJ.guard_y rfl rfl rfl rfl hc293 ?_
                refine OpsJ.put rfl (OpJ.pure (OpP.move rfl) ?_)
                refine OpsJ.guard_y rfl rfl rfl rfl hc293 ?_
                refine OpsJ.put rfl (OpJ.pure (OpP.len rfl) ?_)
                refine OpsJ.guard_y rfl rfl rfl rfl hc293 ?_
                refine OpsJ.put rfl (OpJ.pure (OpP.add64 rfl rfl) ?_)
                refine OpsJ.guard_y rfl rfl rfl rfl hc293 ?_
                refine OpsJ.put rfl (OpJ.pure (OpP.leq rfl rfl) ?_)
                refine OpsJ.put rfl (OpJ.pure (OpP.pick_t rfl hc293 rfl) ?_)
                refine OpsJ.put rfl (OpJ.pure (OpP.move rfl) ?_)
                by_cases hc294 : ((y263.1.length : Nat) : Int) ≤ w64 (10 + ((l_192.length : Nat) : Int))
                · rw [if_pos hc294] at h292
                  refine OpsJ.guard_y rfl rfl rfl rfl (decide_eq_true hc294) ?_
                  obtain ⟨y298, hy299, h300⟩ := bind_ok h292
                  clear h292
                  refine OpsJ.put rfl (OpJ.call0 rfl (fun R295 hle296 hin297 => winnowerlaw16_known_w R295   _ hy299) ?_)
                  rintro _ _ _ ⟨rfl, rfl⟩
                  refine OpsJ.put rfl (OpJ.pure (OpP.pick_t rfl (decide_eq_true hc294) rfl) ?_)
                  refine OpsJ.put rfl (OpJ.pure (OpP.assign rfl) ?_)
                  refine OpsJ.nil ?_
                  refine CodeJ.ret' ?_
                  obtain rfl := Option.some.inj h300
                  exact Ret.mk0 ⟨rfl, rfl⟩ (ResJ.one Try.results14 rfl) (IM.le_refl _) (SubL.nil _)
                · rw [if_neg hc294] at h292
                  refine OpsJ.guard_n rfl rfl rfl rfl (decide_eq_false hc294) ?_
                  refine OpsJ.put rfl (OpJ.pure (OpP.pick_f rfl (decide_eq_false hc294) rfl) ?_)
                  refine OpsJ.put rfl (OpJ.pure (OpP.assign rfl) ?_)
                  refine OpsJ.nil ?_
                  refine CodeJ.ret' ?_
                  obtain rfl := Option.some.inj h292
                  exact Ret.mk0 ⟨rfl, rfl⟩ (ResJ.one Try.results14 rfl) (IM.le_refl _) (SubL.nil _)
              · rw [if_neg hc293] at h292
                refine OpsJ.guard_n rfl rfl rfl rfl (Bool.eq_false_iff.2 hc293) ?_
                refine OpsJ.guard_n rfl rfl rfl rfl (Bool.eq_false_iff.2 hc293) ?_
                refine OpsJ.guard_n rfl rfl rfl rfl (Bool.eq_false_iff.2 hc293) ?_
                refine OpsJ.guard_n rfl rfl rfl rfl (Bool.eq_false_iff.2 hc293) ?_
                refine OpsJ.guard_n rfl rfl rfl rfl (Bool.eq_false_iff.2 hc293) ?_
                refine OpsJ.guard_n rfl rfl rfl rfl (Bool.eq_false_iff.2 hc293) ?_
                refine OpsJ.put rfl (OpJ.pure (OpP.pick_f rfl (Bool.eq_false_iff.2 hc293) rfl) ?_)
                refine OpsJ.put rfl (OpJ.pure (OpP.move rfl) ?_)
                refine OpsJ.guard_n rfl rfl rfl rfl rfl ?_
                refine OpsJ.put rfl (OpJ.pure (OpP.pick_f rfl rfl rfl) ?_)
                refine OpsJ.put rfl (OpJ.pure (OpP.assign rfl) ?_)
                refine OpsJ.nil ?_
                refine CodeJ.ret' ?_
                obtain rfl := Option.some.inj h292
                exact Ret.mk0 ⟨rfl, rfl⟩ (ResJ.one Try.results14 rfl) (IM.le_refl _) (SubL.nil _)
            · rw [if_neg hc284] at h277
              refine OpsJ.guard_n rfl rfl rfl rfl (decide_eq_false hc284) ?_
              refine OpsJ.guard_n rfl rfl rfl rfl (decide_eq_false hc284) ?_
              refine OpsJ.guard_n rfl rfl rfl rfl (decide_eq_false hc284) ?_
              refine OpsJ.put rfl (OpJ.pure (OpP.pick_f rfl (decide_eq_false hc284) rfl) ?_)
              refine OpsJ.put rfl (OpJ.pure (OpP.move rfl) ?_)
              refine OpsJ.guard_n rfl rfl rfl rfl rfl ?_
              refine OpsJ.guard_n rfl rfl rfl rfl rfl ?_
              refine OpsJ.guard_n rfl rfl rfl rfl rfl ?_
              refine OpsJ.guard_n rfl rfl rfl rfl rfl ?_
              refine OpsJ.guard_n rfl rfl rfl rfl rfl ?_
              refine OpsJ.guard_n rfl rfl rfl rfl rfl ?_
              refine OpsJ.put rfl (OpJ.pure (OpP.pick_f rfl rfl rfl) ?_)
              refine OpsJ.put rfl (OpJ.pure (OpP.move rfl) ?_)
              refine OpsJ.guard_n rfl rfl rfl rfl rfl ?_
              refine OpsJ.put rfl (OpJ.pure (OpP.pick_f rfl rfl rfl) ?_)
              refine OpsJ.put rfl (OpJ.pure (OpP.assign rfl) ?_)
              refine OpsJ.nil ?_
              refine CodeJ.ret' ?_
              obtain rfl := Option.some.inj h277
              exact Ret.mk0 ⟨rfl, rfl⟩ (ResJ.one Try.results14 rfl) (IM.le_refl _) (SubL.nil _)
          · rw [if_neg hc283] at h277
            refine OpsJ.guard_n rfl rfl rfl rfl (decide_eq_false hc283) ?_
            refine OpsJ.guard_n rfl rfl rfl rfl (decide_eq_false hc283) ?_
            refine OpsJ.put rfl (OpJ.pure (OpP.pick_f rfl (decide_eq_false hc283) rfl) ?_)
            refine OpsJ.put rfl (OpJ.pure (OpP.move rfl) ?_)
            refine OpsJ.guard_n rfl rfl rfl rfl rfl ?_
            refine OpsJ.guard_n rfl rfl rfl rfl rfl ?_
            refine OpsJ.guard_n rfl rfl rfl rfl rfl ?_
            refine OpsJ.put rfl (OpJ.pure (OpP.pick_f rfl rfl rfl) ?_)
            refine OpsJ.put rfl (OpJ.pure (OpP.move rfl) ?_)
            refine OpsJ.guard_n rfl rfl rfl rfl rfl ?_
            refine OpsJ.guard_n rfl rfl rfl rfl rfl ?_
            refine OpsJ.guard_n rfl rfl rfl rfl rfl ?_
            refine OpsJ.guard_n rfl rfl rfl rfl rfl ?_
            refine OpsJ.guard_n rfl rfl rfl rfl rfl ?_
            refine OpsJ.guard_n rfl rfl rfl rfl rfl ?_
            refine OpsJ.put rfl (OpJ.pure (OpP.pick_f rfl rfl rfl) ?_)
            refine OpsJ.put rfl (OpJ.pure (OpP.move rfl) ?_)
            refine OpsJ.guard_n rfl rfl rfl rfl rfl ?_
            refine OpsJ.put rfl (OpJ.pure (OpP.pick_f rfl rfl rfl) ?_)
            refine OpsJ.put rfl (OpJ.pure (OpP.assign rfl) ?_)
            refine OpsJ.nil ?_
            refine CodeJ.ret' ?_
            obtain rfl := Option.some.inj h277
            exact Ret.mk0 ⟨rfl, rfl⟩ (ResJ.one Try.results14 rfl) (IM.le_refl _) (SubL.nil _)
theorem winnowerlaw16_PackBack_w (R : IM) (A0_ : Option Addr) (n0_ c0_ : Nat) (p0_l : List Int) (hA0_ : SlR R A0_ p0_l) (hn0_ : p0_l.length = n0_) (hc0_ : n0_ ≤ c0_) (y : Bool) (h : winnowerlaw16_PackBack p0_l = some y) :
    CallJ Try.prog 15 #[.slice A0_ n0_ c0_] ⟨R, []⟩ (fun v D hs' => v = .bool y ∧ hs' = []) := by
  subst hn0_
  unfold winnowerlaw16_PackBack at h
  refine CallJ.of1 Try.func15 rfl Try.ntmps15 rfl (fun W0 => ?_)
  refine CodeJ.seq' ?_
  refine CodeJ.region ?_
  refine OpsJ.put rfl (OpJ.pure (OpP.assign rfl) ?_)
  refine OpsJ.nil ?_
  refine CodeJ.seq' ?_
  refine CodeJ.seq' ?_
  refine CodeJ.region ?_
  refine OpsJ.put rfl (OpJ.pure (OpP.move rfl) ?_)
  refine OpsJ.put rfl (OpJ.pure (OpP.len rfl) ?_)
  refine OpsJ.put rfl (OpJ.pure (OpP.gtr rfl rfl) ?_)
  refine OpsJ.nil ?_
  by_cases hc1 : ((p0_l.length : Nat) : Int) > 400
  · rw [if_pos hc1] at h
    refine CodeJ.cond_t rfl (decide_eq_true hc1) ?_
    refine CodeJ.seq' ?_
    refine CodeJ.region ?_
    refine OpsJ.put rfl (OpJ.pure (OpP.assign rfl) ?_)
    refine OpsJ.nil ?_
    refine CodeJ.ret' ?_
    obtain rfl := Option.some.inj h
    exact Ret.mk0 ⟨rfl, rfl⟩ (ResJ.one Try.results15 rfl) (IM.le_refl _) (SubL.nil _)
  · rw [if_neg hc1] at h
    refine CodeJ.cond_f rfl (decide_eq_false hc1) ?_
    refine CodeJ.skip ?_
    refine CodeJ.seq' ?_
    refine CodeJ.seq' ?_
    refine CodeJ.region ?_
    refine OpsJ.put rfl (OpJ.pure (OpP.assign rfl) ?_)
    refine OpsJ.nil ?_
    obtain ⟨t68, hl69, h70⟩ := bind_ok h
    clear h
    refine CodeJ.mid (fun e s => .inr () = t68 ∧ e = [(0, .slice A0_ p0_l.length c0_)] ∧ s = ⟨R, []⟩) ?_ ?_
    · refine CodeJ.block ?_
      refine CodeJ.loopM hl69 (fun i_45 e s => e = [(0, .slice A0_ p0_l.length c0_), (3, .int .i64 i_45)] ∧ s = ⟨R, []⟩) ⟨rfl, rfl⟩ (SubE.cons rfl (SubE.cons rfl (SubE.nil _))) (SubL.nil _) ?_
      rintro i_45 _ _ _ ⟨rfl, rfl⟩ h66 hne67
      (try dsimp only at h66); unfold winnowerlaw16_PackBack_l0 at h66
      refine CodeJ.seq' ?_
      refine CodeJ.seq' ?_
      refine CodeJ.region ?_
      refine OpsJ.put rfl (OpJ.pure (OpP.move rfl) ?_)
      refine OpsJ.put rfl (OpJ.pure (OpP.move rfl) ?_)
      refine OpsJ.put rfl (OpJ.pure (OpP.len rfl) ?_)
      refine OpsJ.put rfl (OpJ.pure (OpP.lss rfl rfl) ?_)
      refine OpsJ.nil ?_
      by_cases hc71 : i_45 < ((p0_l.length : Nat) : Int)
      · rw [if_pos hc71] at h66
        refine CodeJ.cond_t rfl (decide_eq_true hc71) ?_
        refine CodeJ.skip ?_
        refine CodeJ.seq' ?_
        refine CodeJ.block ?_
        refine CodeJ.seq' ?_
        refine CodeJ.region ?_
        refine OpsJ.put rfl (OpJ.pure (OpP.move rfl) ?_)
        refine OpsJ.put rfl (OpJ.pure (OpP.move rfl) ?_)
        obtain ⟨x72, hx73, h74⟩ := bind_ok h66
        clear h66
        have hE75 : RC _ (some ((adr A0_).add (Int.toNat i_45 * Dat.size Int))) [.int .i64 x72] := SlR.getF (α := Int) hA0_ hx73
        refine OpsJ.put rfl (OpJ.pure (OpP.ixR hA0_ rfl hx73 (by exact rfl) (by exact rfl) rfl rfl) ?_)
        refine OpsJ.put rfl (OpJ.pure (OpP.ldR0 (by exact rfl) hE75 (IM.le_refl _) rfl rfl) ?_)
        refine OpsJ.put rfl (OpJ.pure (OpP.lss rfl rfl) ?_)
        refine OpsJ.put rfl (OpJ.pure (OpP.move rfl) ?_)
        by_cases hc76 : x72 < 0
        · rw [if_pos hc76] at h74
          refine OpsJ.guard_n rfl rfl rfl rfl (decide_eq_true hc76) ?_
          refine OpsJ.guard_n rfl rfl rfl rfl (decide_eq_true hc76) ?_
          refine OpsJ.guard_n rfl rfl rfl rfl (decide_eq_true hc76) ?_
          refine OpsJ.guard_n rfl rfl rfl rfl (decide_eq_true hc76) ?_
          refine OpsJ.guard_n rfl rfl rfl rfl (decide_eq_true hc76) ?_
          refine OpsJ.put rfl (OpJ.pure (OpP.pick_t rfl (decide_eq_true hc76) rfl) ?_)
          refine OpsJ.nil ?_
          refine CodeJ.cond_t rfl rfl ?_
          refine CodeJ.seq' ?_
          refine CodeJ.region ?_
          obtain ⟨y80, hy81, h82⟩ := bind_ok h74
          clear h74
          refine OpsJ.put rfl (OpJ.call0 rfl (fun R77 hle78 hin79 => winnowerlaw16_known_w R77   _ hy81) ?_)
          rintro _ _ _ ⟨rfl, rfl⟩
          refine OpsJ.put rfl (OpJ.pure (OpP.assign rfl) ?_)
          refine OpsJ.nil ?_
          obtain rfl := Option.some.inj h82
          have ht83 := hne67 _ rfl
          subst ht83
          simp only [Sum.elim_inl] at h70
          refine CodeJ.ret' ?_
          obtain rfl := Option.some.inj h70
          exact Ret.mk0 ⟨rfl, rfl⟩ (ResJ.one Try.results15 rfl) (IM.le_refl _) (SubL.nil _)
        · rw [if_neg hc76] at h74
          refine OpsJ.guard_y rfl rfl rfl rfl (decide_eq_false hc76) ?_
          refine OpsJ.put rfl (OpJ.pure (OpP.move rfl) ?_)
          refine OpsJ.guard_y rfl rfl rfl rfl (decide_eq_false hc76) ?_
          refine OpsJ.put rfl (OpJ.pure (OpP.move rfl) ?_)
          refine OpsJ.guard_y rfl rfl rfl rfl (decide_eq_false hc76) ?_
          have hE86 : RC _ (some ((adr A0_).add (Int.toNat i_45 * Dat.size Int))) [.int .i64 x72] := SlR.getF (α := Int) hA0_ hx73
          refine OpsJ.put rfl (OpJ.pure (OpP.ixR hA0_ rfl hx73 (by exact rfl) (by exact rfl) rfl rfl) ?_)
          refine OpsJ.guard_y rfl rfl rfl rfl (decide_eq_false hc76) ?_
          refine OpsJ.put rfl (OpJ.pure (OpP.ldR0 (by exact rfl) hE86 (IM.le_refl _) rfl rfl) ?_)
          refine OpsJ.guard_y rfl rfl rfl rfl (decide_eq_false hc76) ?_
          refine OpsJ.put rfl (OpJ.pure (OpP.gtr rfl rfl) ?_)
          refine OpsJ.put rfl (OpJ.pure (OpP.pick_f rfl (decide_eq_false hc76) rfl) ?_)
          refine OpsJ.nil ?_
          by_cases hc87 : x72 > 1099511627776
          · rw [if_pos hc87] at h74
            refine CodeJ.cond_t rfl (decide_eq_true hc87) ?_
            refine CodeJ.seq' ?_
            refine CodeJ.region ?_
            obtain ⟨y91, hy92, h93⟩ := bind_ok h74
            clear h74
            refine OpsJ.put rfl (OpJ.call0 rfl (fun R88 hle89 hin90 => winnowerlaw16_known_w R88   _ hy92) ?_)
            rintro _ _ _ ⟨rfl, rfl⟩
            refine OpsJ.put rfl (OpJ.pure (OpP.assign rfl) ?_)
            refine OpsJ.nil ?_
            obtain rfl := Option.some.inj h93
            have ht94 := hne67 _ rfl
            subst ht94
            simp only [Sum.elim_inl] at h70
            refine CodeJ.ret' ?_
            obtain rfl := Option.some.inj h70
            exact Ret.mk0 ⟨rfl, rfl⟩ (ResJ.one Try.results15 rfl) (IM.le_refl _) (SubL.nil _)
          · rw [if_neg hc87] at h74
            refine CodeJ.cond_f rfl (decide_eq_false hc87) ?_
            refine CodeJ.skip ?_
            refine CodeJ.region ?_
            refine OpsJ.put rfl (OpJ.pure (OpP.move rfl) ?_)
            refine OpsJ.put rfl (OpJ.pure (OpP.add64 rfl rfl) ?_)
            refine OpsJ.put rfl (OpJ.pure (OpP.assign rfl) ?_)
            refine OpsJ.nil ?_
            obtain rfl := Option.some.inj h74
            exact ⟨_, _, _, _, rfl, ⟨rfl, rfl⟩, IM.le_refl _, (SubE.cons rfl (SubE.cons rfl (SubE.nil _))), (SubL.nil _)⟩
      · rw [if_neg hc71] at h66
        refine CodeJ.cond_f rfl (decide_eq_false hc71) ?_
        refine CodeJ.exit rfl ?_
        obtain rfl := Option.some.inj h66
        have ht97 := hne67 _ rfl
        exact ⟨_, _, _, ⟨ht97, rfl, rfl⟩, IM.le_refl _, (SubE.cons rfl (SubE.nil _)), (SubL.nil _)⟩
    · rintro _ _ ⟨rfl, rfl, rfl⟩
      simp only [Sum.elim_inr] at h70
      refine CodeJ.seq' ?_
      refine CodeJ.region ?_
      refine OpsJ.put rfl (OpJ.pure (OpP.move rfl) ?_)
      obtain ⟨y101, hy102, h103⟩ := bind_ok h70
      clear h70
      refine OpsJ.put rfl (OpJ.callP Split.nil rfl (fun R98 hle99 hin100 => pack_Plain_w R98 A0_ p0_l.length c0_ p0_l (SlR.mono hA0_ (IM.le_trans (IM.le_refl _) hle99)) rfl hc0_  _ hy102) ?_)
      rintro _ _ _ ⟨A104, c105, cs106, rfl, hr107, rfl⟩
      refine OpsJ.put rfl (OpJ.pure (OpP.move rfl) ?_)
      refine OpsJ.put rfl (OpJ.pure (OpP.extract rfl rfl) ?_)
      refine OpsJ.put rfl (OpJ.pure (OpP.extract rfl rfl) ?_)
      refine OpsJ.put rfl (OpJ.pure (OpP.assign rfl) ?_)
      refine OpsJ.put rfl (OpJ.pure (OpP.assign rfl) ?_)
      refine OpsJ.nil ?_
      refine CodeJ.seq' ?_
      refine CodeJ.region ?_
      refine OpsJ.put rfl (OpJ.pure (OpP.move rfl) ?_)
      obtain ⟨y112, hy113, h114⟩ := bind_ok h103
      clear h103
      refine OpsJ.put rfl (OpJ.callP Split.nil rfl (fun R109 hle110 hin111 => pack_Delta_w R109 A0_ p0_l.length c0_ p0_l (SlR.mono hA0_ (IM.le_trans (IM.le_refl _) hle110)) rfl hc0_  _ hy113) ?_)
      rintro _ _ _ ⟨A115, c116, cs117, rfl, hr118, rfl⟩
      refine OpsJ.put rfl (OpJ.pure (OpP.move rfl) ?_)
      refine OpsJ.put rfl (OpJ.pure (OpP.extract rfl rfl) ?_)
      refine OpsJ.put rfl (OpJ.pure (OpP.extract rfl rfl) ?_)
      refine OpsJ.put rfl (OpJ.pure (OpP.assign rfl) ?_)
      refine OpsJ.put rfl (OpJ.pure (OpP.assign rfl) ?_)
      refine OpsJ.nil ?_
      refine CodeJ.seq' ?_
      refine CodeJ.region ?_
      refine OpsJ.put rfl (OpJ.pure (OpP.move rfl) ?_)
      obtain ⟨y123, hy124, h125⟩ := bind_ok h114
      clear h114
      refine OpsJ.put rfl (OpJ.callP Split.nil rfl (fun R120 hle121 hin122 => pack_Runs_w R120 A0_ p0_l.length c0_ p0_l (SlR.mono hA0_ (IM.le_trans (IM.le_refl _) hle121)) rfl hc0_  _ hy124) ?_)
      rintro _ _ _ ⟨A126, c127, cs128, rfl, hr129, rfl⟩
      refine OpsJ.put rfl (OpJ.pure (OpP.move rfl) ?_)
      refine OpsJ.put rfl (OpJ.pure (OpP.extract rfl rfl) ?_)
      refine OpsJ.put rfl (OpJ.pure (OpP.extract rfl rfl) ?_)
      refine OpsJ.put rfl (OpJ.pure (OpP.assign rfl) ?_)
      refine OpsJ.put rfl (OpJ.pure (OpP.assign rfl) ?_)
      refine OpsJ.nil ?_
      refine CodeJ.seq' ?_
      refine CodeJ.region ?_
      refine OpsJ.put rfl (OpJ.pure (OpP.move rfl) ?_)
      obtain ⟨y134, hy135, h136⟩ := bind_ok h125
      clear h125
      refine OpsJ.put rfl (OpJ.callP Split.nil rfl (fun R131 hle132 hin133 => pack_Best_w R131 A0_ p0_l.length c0_ p0_l (SlR.mono hA0_ (IM.le_trans (IM.le_refl _) hle132)) rfl hc0_  _ hy135) ?_)
      rintro _ _ _ ⟨A137, c138, cs139, rfl, hr140, rfl⟩
      refine OpsJ.put rfl (OpJ.pure (OpP.move rfl) ?_)
      refine OpsJ.put rfl (OpJ.pure (OpP.extract rfl rfl) ?_)
      refine OpsJ.put rfl (OpJ.pure (OpP.extract rfl rfl) ?_)
      refine OpsJ.put rfl (OpJ.pure (OpP.assign rfl) ?_)
      refine OpsJ.put rfl (OpJ.pure (OpP.assign rfl) ?_)
      refine OpsJ.nil ?_
      refine CodeJ.seq' ?_
      refine CodeJ.region ?_
      refine OpsJ.put rfl (OpJ.pure (OpP.move rfl) ?_)
      refine OpsJ.put rfl (OpJ.pure (OpP.move rfl) ?_)
      refine OpsJ.put rfl (OpJ.pure (OpP.move rfl) ?_)
      refine OpsJ.put rfl (OpJ.pure (OpP.move rfl) ?_)
      refine OpsJ.rowle (permm3 _ _ _ _ _) (fun hcap146 hlen147 => ?_)
      refine OpsJ.freeze (permm3 _ _ _ _ _) (fun D142 hd143 hin144 => ?_)
      have hA145 : SlR (R.or D142) A104 y101.1 := SlR.of_row (RC.mono hin144 (IM.le_or_right hd143)) hr107 (IM.le_nil _)
      refine OpsJ.rowle (permm2 _ _ _ _) (fun hcap152 hlen153 => ?_)
      refine OpsJ.freeze (permm2 _ _ _ _) (fun D148 hd149 hin150 => ?_)
      have hA151 : SlR ((R.or D142).or D148) A115 y112.1 := SlR.of_row (RC.mono hin150 (IM.le_or_right hd149)) hr118 (IM.le_nil _)
      refine OpsJ.rowle (List.Perm.swap _ _ _) (fun hcap158 hlen159 => ?_)
      refine OpsJ.freeze (List.Perm.swap _ _ _) (fun D154 hd155 hin156 => ?_)
      have hA157 : SlR (((R.or D142).or D148).or D154) A126 y123.1 := SlR.of_row (RC.mono hin156 (IM.le_or_right hd155)) hr129 (IM.le_nil _)
      refine OpsJ.rowle (List.Perm.refl _) (fun hcap164 hlen165 => ?_)
      refine OpsJ.freeze (List.Perm.refl _) (fun D160 hd161 hin162 => ?_)
      have hA163 : SlR ((((R.or D142).or D148).or D154).or D160) A137 y134.1 := SlR.of_row (RC.mono hin162 (IM.le_or_right hd161)) hr140 (IM.le_nil _)
      have hr167 : repL ((((R.or D142).or D148).or D154).or D160) [.slice A104 y101.1.length c105, .slice A115 y112.1.length c116, .slice A126 y123.1.length c127, .slice A137 y134.1.length c138] ([y101.1, y112.1, y123.1, y134.1] : List (List UInt8)) := (repL_cons (c1 := [.slice A104 y101.1.length c105]) (show Dat.rep _ _ y101.1 from ⟨A104, c105, rfl, hcap146, SlR.mono hA145 (IM.le_trans (IM.le_trans (IM.le_trans (IM.le_refl _) (IM.le_or _ _)) (IM.le_or _ _)) (IM.le_or _ _))⟩) (repL_cons (c1 := [.slice A115 y112.1.length c116]) (show Dat.rep _ _ y112.1 from ⟨A115, c116, rfl, hcap152, SlR.mono hA151 (IM.le_trans (IM.le_trans (IM.le_refl _) (IM.le_or _ _)) (IM.le_or _ _))⟩) (repL_cons (c1 := [.slice A126 y123.1.length c127]) (show Dat.rep _ _ y123.1 from ⟨A126, c127, rfl, hcap158, SlR.mono hA157 (IM.le_trans (IM.le_refl _) (IM.le_or _ _))⟩) (repL_cons (c1 := [.slice A137 y134.1.length c138]) (show Dat.rep _ _ y134.1 from ⟨A137, c138, rfl, hcap164, SlR.mono hA163 (IM.le_refl _)⟩) (repL_nil _)))))
      refine OpsJ.put rfl (OpJ.buildSliceC (cs := [.slice A104 y101.1.length c105, .slice A115 y112.1.length c116, .slice A126 y123.1.length c127, .slice A137 y134.1.length c138]) rfl rfl (by exact rfl) (by exact rfl) (by exact rfl) (by exact rfl) (fun g166 => ?_))
      refine OpsJ.put rfl (OpJ.pure (OpP.assign rfl) ?_)
      refine OpsJ.nil ?_
      refine CodeJ.seq' ?_
      refine CodeJ.seq' ?_
      refine CodeJ.region ?_
      refine OpsJ.put rfl (OpJ.pure (OpP.assign rfl) ?_)
      refine OpsJ.nil ?_
      obtain ⟨t278, hl279, h280⟩ := bind_ok h136
      clear h136
      refine CodeJ.mid (fun e s => .inr () = t278 ∧ e = [(11, .int .i64 y134.2)] ∧ s = ⟨((((R.or D142).or D148).or D154).or D160), []⟩) ?_ ?_
      · refine CodeJ.block ?_
        refine CodeJ.loopM hl279 (fun i_240 e s => e = [(0, .slice A0_ p0_l.length c0_), (10, .slice A137 y134.1.length c138), (11, .int .i64 y134.2), (12, .slice (some ⟨g166, 0, none⟩) 4 4), (13, .int .i64 i_240)] ∧ s = ⟨((((R.or D142).or D148).or D154).or D160), [.row 23 1 (some ⟨g166, 0, none⟩) 4 4 ([.slice A104 y101.1.length c105, .slice A115 y112.1.length c116, .slice A126 y123.1.length c127, .slice A137 y134.1.length c138] : List Value)]⟩) ⟨rfl, rfl⟩ (SubE.cons rfl (SubE.cons rfl (SubE.cons rfl (SubE.cons rfl (SubE.cons rfl (SubE.nil _)))))) (SubL.p0 (SubL.nil _)) ?_
        rintro i_240 _ _ _ ⟨rfl, rfl⟩ h276 hne277
        (try dsimp only at h276); unfold winnowerlaw16_PackBack_l1 at h276
        refine CodeJ.seq' ?_
        refine CodeJ.seq' ?_
        refine CodeJ.region ?_
        refine OpsJ.put rfl (OpJ.pure (OpP.move rfl) ?_)
        refine OpsJ.put rfl (OpJ.pure (OpP.lss rfl rfl) ?_)
        refine OpsJ.nil ?_
        by_cases hc281 : i_240 < 4
        · rw [if_pos hc281] at h276
          refine CodeJ.cond_t rfl (decide_eq_true hc281) ?_
          refine CodeJ.skip ?_
          refine CodeJ.seq' ?_
          refine CodeJ.block ?_
          refine CodeJ.seq' ?_
          refine CodeJ.region ?_
          refine OpsJ.put rfl (OpJ.pure (OpP.move rfl) ?_)
          refine OpsJ.put rfl (OpJ.pure (OpP.move rfl) ?_)
          obtain ⟨x282, hx283, h284⟩ := bind_ok h276
          clear h276
          obtain ⟨_, ⟨A286, c287, rfl, hc288, hA289⟩, hE285⟩ := row_getN hr167 hx283
          refine OpsJ.put rfl (OpJ.pure (OpP.ixW (List.Mem.head _) hr167 rfl hx283 (by exact rfl) (by exact rfl) rfl rfl) ?_)
          refine OpsJ.put rfl (OpJ.pure (OpP.ldW0 (by exact rfl) (List.Mem.head _) hE285 rfl rfl) ?_)
          obtain ⟨y293, hy294, h295⟩ := bind_ok h284
          clear h284
          refine OpsJ.put rfl (OpJ.callP Split.nil rfl (fun R290 hle291 hin292 => pack_Decode_w R290 A286 x282.length c287 x282 (SlR.mono hA289 (IM.le_trans (IM.le_refl _) hle291)) rfl hc288  _ hy294) ?_)
          rintro _ _ _ ⟨A296, c297, cs298, rfl, hr299, rfl⟩
          refine OpsJ.put rfl (OpJ.pure (OpP.move rfl) ?_)
          refine OpsJ.put rfl (OpJ.pure (OpP.extract rfl rfl) ?_)
          refine OpsJ.put rfl (OpJ.pure (OpP.extract rfl rfl) ?_)
          refine OpsJ.put rfl (OpJ.pure (OpP.assign rfl) ?_)
          refine OpsJ.put rfl (OpJ.pure (OpP.assign rfl) ?_)
          refine OpsJ.nil ?_
          refine CodeJ.seq' ?_
          refine CodeJ.region ?_
          refine OpsJ.put rfl (OpJ.pure (OpP.move rfl) ?_)
          refine OpsJ.put rfl (OpJ.pure (OpP.neq rfl rfl) ?_)
          refine OpsJ.put rfl (OpJ.pure (OpP.move rfl) ?_)
          by_cases hc301 : y293.2 ≠ 0
          · rw [if_pos hc301] at h295
            refine OpsJ.guard_n rfl rfl rfl rfl (decide_eq_true hc301) ?_
            refine OpsJ.guard_n rfl rfl rfl rfl (decide_eq_true hc301) ?_
            refine OpsJ.guard_n rfl rfl rfl rfl (decide_eq_true hc301) ?_
            refine OpsJ.guard_n rfl rfl rfl rfl (decide_eq_true hc301) ?_
            refine OpsJ.put rfl (OpJ.pure (OpP.pick_t rfl (decide_eq_true hc301) rfl) ?_)
            refine OpsJ.put rfl (OpJ.pure (OpP.move rfl) ?_)
            refine OpsJ.guard_n rfl rfl rfl rfl rfl ?_
            refine OpsJ.guard_n rfl rfl rfl rfl rfl ?_
            refine OpsJ.guard_n rfl rfl rfl rfl rfl ?_
            refine OpsJ.guard_n rfl rfl rfl rfl rfl ?_
            refine OpsJ.guard_n rfl rfl rfl rfl rfl ?_
            refine OpsJ.guard_n rfl rfl rfl rfl rfl ?_
            refine OpsJ.guard_n rfl rfl rfl rfl rfl ?_
            refine OpsJ.guard_n rfl rfl rfl rfl rfl ?_
            refine OpsJ.put rfl (OpJ.pure (OpP.pick_t rfl rfl rfl) ?_)
            refine OpsJ.nil ?_
            refine CodeJ.cond_t rfl rfl ?_
            refine CodeJ.seq' ?_
            refine CodeJ.region ?_
            refine OpsJ.put rfl (OpJ.pure (OpP.assign rfl) ?_)
            refine OpsJ.nil ?_
            obtain rfl := Option.some.inj h295
            have ht302 := hne277 _ rfl
            subst ht302
            simp only [Sum.elim_inl] at h280
            refine CodeJ.ret' ?_
            obtain rfl := Option.some.inj h280
            exact Ret.mk0 ⟨rfl, rfl⟩ (ResJ.one Try.results15 rfl) (IM.le_trans (IM.le_trans (IM.le_trans (IM.le_trans (IM.le_refl _) (IM.le_or _ _)) (IM.le_or _ _)) (IM.le_or _ _)) (IM.le_or _ _)) (SubL.nil _)
          · rw [if_neg hc301] at h295
            refine OpsJ.guard_y rfl rfl rfl rfl (decide_eq_false hc301) ?_
            refine OpsJ.put rfl (OpJ.pure (OpP.move rfl) ?_)
            refine OpsJ.guard_y rfl rfl rfl rfl (decide_eq_false hc301) ?_
            refine OpsJ.put rfl (OpJ.pure (OpP.move rfl) ?_)
            refine OpsJ.guard_y rfl rfl rfl rfl (decide_eq_false hc301) ?_
            refine OpsJ.rowle (List.Perm.refl _) (fun hcap305 _ => ?_)
            obtain ⟨y309, hy310, h311⟩ := bind_ok h295
            clear h295
            refine OpsJ.put rfl (OpJ.call0 rfl (fun R306 hle307 hin308 => winnowerlaw16_numbers_w R306 A0_ p0_l.length c0_ p0_l (SlR.mono hA0_ (IM.le_trans (IM.le_trans (IM.le_trans (IM.le_trans (IM.le_trans (IM.le_refl _) (IM.le_or _ _)) (IM.le_or _ _)) (IM.le_or _ _)) (IM.le_or _ _)) hle307)) rfl hc0_ A296 y293.1.length c297 y293.1 (SlR.of_row (inRow hin308 (List.Mem.head _)) hr299 (IM.le_nil _)) rfl hcap305  _ hy310) ?_)
            rintro _ _ _ ⟨rfl, rfl⟩
            refine OpsJ.guard_y rfl rfl rfl rfl (decide_eq_false hc301) ?_
            refine OpsJ.put rfl (OpJ.pure (OpP.not rfl) ?_)
            refine OpsJ.put rfl (OpJ.pure (OpP.pick_f rfl (decide_eq_false hc301) rfl) ?_)
            refine OpsJ.put rfl (OpJ.pure (OpP.move rfl) ?_)
            by_cases hc312 : y309 = true
            · rw [if_pos hc312] at h311
              refine OpsJ.guard_y rfl rfl rfl rfl (congrArg Bool.not hc312) ?_
              refine OpsJ.put rfl (OpJ.pure (OpP.move rfl) ?_)
              refine OpsJ.guard_y rfl rfl rfl rfl (congrArg Bool.not hc312) ?_
              refine OpsJ.put rfl (OpJ.pure (OpP.len rfl) ?_)
              refine OpsJ.guard_y rfl rfl rfl rfl (congrArg Bool.not hc312) ?_
              refine OpsJ.put rfl (OpJ.pure (OpP.move rfl) ?_)
              refine OpsJ.guard_y rfl rfl rfl rfl (congrArg Bool.not hc312) ?_
              refine OpsJ.put rfl (OpJ.pure (OpP.move rfl) ?_)
              refine OpsJ.guard_y rfl rfl rfl rfl (congrArg Bool.not hc312) ?_
              obtain ⟨_, ⟨A314, c315, rfl, hc316, hA317⟩, hE313⟩ := row_getN hr167 hx283
              refine OpsJ.put rfl (OpJ.pure (OpP.ixW (List.Mem.tail _ (List.Mem.head _)) hr167 rfl hx283 (by exact rfl) (by exact rfl) rfl rfl) ?_)
              refine OpsJ.guard_y rfl rfl rfl rfl (congrArg Bool.not hc312) ?_
              refine OpsJ.put rfl (OpJ.pure (OpP.ldW0 (by exact rfl) (List.Mem.tail _ (List.Mem.head _)) hE313 rfl rfl) ?_)
              refine OpsJ.guard_y rfl rfl rfl rfl (congrArg Bool.not hc312) ?_
              refine OpsJ.put rfl (OpJ.pure (OpP.len rfl) ?_)
              refine OpsJ.guard_y rfl rfl rfl rfl (congrArg Bool.not hc312) ?_
              refine OpsJ.put rfl (OpJ.pure (OpP.gtr rfl rfl) ?_)
              refine OpsJ.put rfl (OpJ.pure (OpP.pick_f rfl (congrArg Bool.not hc312) rfl) ?_)
              refine OpsJ.nil ?_
              by_cases hc318 : ((y134.1.length : Nat) : Int) > ((x282.length : Nat) : Int)
              · rw [if_pos hc318] at h311
                refine CodeJ.cond_t rfl (decide_eq_true hc318) ?_
                refine CodeJ.seq' ?_
                refine CodeJ.region ?_
                refine OpsJ.put rfl (OpJ.pure (OpP.assign rfl) ?_)
                refine OpsJ.nil ?_
                obtain rfl := Option.some.inj h311
                have ht319 := hne277 _ rfl
                subst ht319
                simp only [Sum.elim_inl] at h280
                refine CodeJ.ret' ?_
                obtain rfl := Option.some.inj h280
                exact Ret.mk0 ⟨rfl, rfl⟩ (ResJ.one Try.results15 rfl) (IM.le_trans (IM.le_trans (IM.le_trans (IM.le_trans (IM.le_refl _) (IM.le_or _ _)) (IM.le_or _ _)) (IM.le_or _ _)) (IM.le_or _ _)) (SubL.nil _)
              · rw [if_neg hc318] at h311
                refine CodeJ.cond_f rfl (decide_eq_false hc318) ?_
                refine CodeJ.skip ?_
                refine CodeJ.region ?_
                refine OpsJ.put rfl (OpJ.pure (OpP.move rfl) ?_)
                refine OpsJ.put rfl (OpJ.pure (OpP.add64 rfl rfl) ?_)
                refine OpsJ.put rfl (OpJ.pure (OpP.assign rfl) ?_)
                refine OpsJ.nil ?_
                obtain rfl := Option.some.inj h311
                exact ⟨_, _, _, _, rfl, ⟨rfl, rfl⟩, IM.le_refl _, (SubE.cons rfl (SubE.cons rfl (SubE.cons rfl (SubE.cons rfl (SubE.cons rfl (SubE.nil _)))))), (SubL.p1 (SubL.nil _))⟩
            · rw [if_neg hc312] at h311
              refine OpsJ.guard_n rfl rfl rfl rfl (congrArg Bool.not (Bool.eq_false_iff.2 hc312)) ?_
              refine OpsJ.guard_n rfl rfl rfl rfl (congrArg Bool.not (Bool.eq_false_iff.2 hc312)) ?_
              refine OpsJ.guard_n rfl rfl rfl rfl (congrArg Bool.not (Bool.eq_false_iff.2 hc312)) ?_
              refine OpsJ.guard_n rfl rfl rfl rfl (congrArg Bool.not (Bool.eq_false_iff.2 hc312)) ?_
              refine OpsJ.guard_n rfl rfl rfl rfl (congrArg Bool.not (Bool.eq_false_iff.2 hc312)) ?_
              refine OpsJ.guard_n rfl rfl rfl rfl (congrArg Bool.not (Bool.eq_false_iff.2 hc312)) ?_
              refine OpsJ.guard_n rfl rfl rfl rfl (congrArg Bool.not (Bool.eq_false_iff.2 hc312)) ?_
              refine OpsJ.guard_n rfl rfl rfl rfl (congrArg Bool.not (Bool.eq_false_iff.2 hc312)) ?_
              refine OpsJ.put rfl (OpJ.pure (OpP.pick_t rfl (congrArg Bool.not (Bool.eq_false_iff.2 hc312)) rfl) ?_)
              refine OpsJ.nil ?_
              refine CodeJ.cond_t rfl rfl ?_
              refine CodeJ.seq' ?_
              refine CodeJ.region ?_
              refine OpsJ.put rfl (OpJ.pure (OpP.assign rfl) ?_)
              refine OpsJ.nil ?_
              obtain rfl := Option.some.inj h311
              have ht322 := hne277 _ rfl
              subst ht322
              simp only [Sum.elim_inl] at h280
              refine CodeJ.ret' ?_
              obtain rfl := Option.some.inj h280
              exact Ret.mk0 ⟨rfl, rfl⟩ (ResJ.one Try.results15 rfl) (IM.le_trans (IM.le_trans (IM.le_trans (IM.le_trans (IM.le_refl _) (IM.le_or _ _)) (IM.le_or _ _)) (IM.le_or _ _)) (IM.le_or _ _)) (SubL.nil _)
        · rw [if_neg hc281] at h276
          refine CodeJ.cond_f rfl (decide_eq_false hc281) ?_
          refine CodeJ.exit rfl ?_
          obtain rfl := Option.some.inj h276
          have ht325 := hne277 _ rfl
          exact ⟨_, _, _, ⟨ht325, rfl, rfl⟩, IM.le_refl _, (SubE.cons rfl (SubE.nil _)), (SubL.nil _)⟩
      · rintro _ _ ⟨rfl, rfl, rfl⟩
        simp only [Sum.elim_inr] at h280
        refine CodeJ.seq' ?_
        refine CodeJ.region ?_
        refine OpsJ.put rfl (OpJ.pure (OpP.move rfl) ?_)
        refine OpsJ.put rfl (OpJ.pure (OpP.eql rfl rfl) ?_)
        refine OpsJ.put rfl (OpJ.pure (OpP.move rfl) ?_)
        by_cases hc326 : y134.2 = 0
        · rw [if_pos hc326] at h280
          refine OpsJ.guard_y rfl rfl rfl rfl (decide_eq_true hc326) ?_
          obtain ⟨y330, hy331, h332⟩ := bind_ok h280
          clear h280
          refine OpsJ.put rfl (OpJ.call0 rfl (fun R327 hle328 hin329 => winnowerlaw16_known_w R327   _ hy331) ?_)
          rintro _ _ _ ⟨rfl, rfl⟩
          refine OpsJ.put rfl (OpJ.pure (OpP.pick_t rfl (decide_eq_true hc326) rfl) ?_)
          refine OpsJ.put rfl (OpJ.pure (OpP.assign rfl) ?_)
          refine OpsJ.nil ?_
          refine CodeJ.ret' ?_
          obtain rfl := Option.some.inj h332
          exact Ret.mk0 ⟨rfl, rfl⟩ (ResJ.one Try.results15 rfl) (IM.le_trans (IM.le_trans (IM.le_trans (IM.le_trans (IM.le_refl _) (IM.le_or _ _)) (IM.le_or _ _)) (IM.le_or _ _)) (IM.le_or _ _)) (SubL.nil _)
        · rw [if_neg hc326] at h280
          refine OpsJ.guard_n rfl rfl rfl rfl (decide_eq_false hc326) ?_
          refine OpsJ.put rfl (OpJ.pure (OpP.pick_f rfl (decide_eq_false hc326) rfl) ?_)
          refine OpsJ.put rfl (OpJ.pure (OpP.assign rfl) ?_)
          refine OpsJ.nil ?_
          refine CodeJ.ret' ?_
          obtain rfl := Option.some.inj h280
          exact Ret.mk0 ⟨rfl, rfl⟩ (ResJ.one Try.results15 rfl) (IM.le_trans (IM.le_trans (IM.le_trans (IM.le_trans (IM.le_refl _) (IM.le_or _ _)) (IM.le_or _ _)) (IM.le_or _ _)) (IM.le_or _ _)) (SubL.nil _)
end Go.Proofs.Ytdicpnnmhjgnbaa.FW
