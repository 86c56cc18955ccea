/- printed by ex.py: walks -/
import Derived.Test.YtcbnamlioeiaeaaX3
import Derived.Test.YtcbnamlioeiaeaaT2
import Derived.Test.YtcbnamlioeiaeaaPtQ
import Derived.Test.YtcbnamlioeiaeaaPtK0
namespace Go.Proofs.Ytcbnamlioeiaeaa.FW
open Go Go.RowKit Go.Proofs
set_option linter.unusedVariables false
set_option linter.unusedSimpArgs false
set_option maxRecDepth 100000
set_option maxHeartbeats 4000000
attribute [local irreducible] OpsJ CodeJ OpJ OpQ OpP QuietJ CallJ HoldJ StepAt Src RC SlR repL
theorem winnowerlaw14_PartMerges_w (R : IM) (A0_ : Option Addr) (n0_ c0_ : Nat) (p0_t : List (Bool × ByteArray)) (hA0_ : SlR R A0_ p0_t) (hn0_ : p0_t.length = n0_) (hc0_ : n0_ ≤ c0_) (A1_ : Option Addr) (n1_ c1_ : Nat) (p1_l : List (Int × ByteArray)) (hA1_ : SlR R A1_ p1_l) (hn1_ : p1_l.length = n1_) (hc1_ : n1_ ≤ c1_) (A2_ : Option Addr) (n2_ c2_ : Nat) (p2_m : List (Int × ByteArray)) (hA2_ : SlR R A2_ p2_m) (hn2_ : p2_m.length = n2_) (hc2_ : n2_ ≤ c2_) (y : Bool) (h : winnowerlaw14_PartMerges p0_t p1_l p2_m = some y) :
    CallJ Try.prog 5 #[.slice A0_ n0_ c0_, .slice A1_ n1_ c1_, .slice A2_ n2_ c2_] ⟨R, []⟩ (fun v D hs' => v = .bool y ∧ hs' = []) := by
  subst hn0_
  subst hn1_
  subst hn2_
  unfold winnowerlaw14_PartMerges at h
  refine CallJ.of3 Try.func5 rfl Try.ntmps5 rfl (fun W0 => ?_)
  refine CodeJ.seq' ?_
  refine CodeJ.region ?_
  refine OpsJ.put rfl (OpJ.pure (OpP.assign rfl) ?_)
  refine OpsJ.nil ?_
  refine CodeJ.seq' ?_
  refine CodeJ.seq' ?_
  refine CodeJ.region ?_
  refine OpsJ.put rfl (OpJ.pure (OpP.move rfl) ?_)
  obtain ⟨y4, hy5, h6⟩ := bind_ok h
  clear h
  refine OpsJ.put rfl (OpJ.call0 rfl (fun R1 hle2 hin3 => winnowerlaw14_wide_w R1 A0_ p0_t.length c0_ p0_t (SlR.mono hA0_ (IM.le_trans (IM.le_refl _) hle2)) rfl hc0_  _ hy5) ?_)
  rintro _ _ _ ⟨rfl, rfl⟩
  refine OpsJ.put rfl (OpJ.pure (OpP.move rfl) ?_)
  by_cases hc7 : y4 = true
  · rw [if_pos hc7] at h6
    refine OpsJ.guard_n rfl rfl rfl rfl hc7 ?_
    refine OpsJ.guard_n rfl rfl rfl rfl hc7 ?_
    refine OpsJ.put rfl (OpJ.pure (OpP.pick_t rfl hc7 rfl) ?_)
    refine OpsJ.put rfl (OpJ.pure (OpP.move rfl) ?_)
    refine OpsJ.guard_n rfl rfl rfl rfl rfl ?_
    refine OpsJ.guard_n rfl rfl rfl rfl rfl ?_
    refine OpsJ.put rfl (OpJ.pure (OpP.pick_t rfl rfl rfl) ?_)
    refine OpsJ.put rfl (OpJ.pure (OpP.move rfl) ?_)
    refine OpsJ.guard_n rfl rfl rfl rfl rfl ?_
    refine OpsJ.guard_n rfl rfl rfl rfl rfl ?_
    refine OpsJ.guard_n rfl rfl rfl rfl rfl ?_
    refine OpsJ.guard_n rfl rfl rfl rfl rfl ?_
    refine OpsJ.guard_n rfl rfl rfl rfl rfl ?_
    refine OpsJ.put rfl (OpJ.pure (OpP.pick_t rfl rfl rfl) ?_)
    refine OpsJ.nil ?_
    refine CodeJ.cond_t rfl rfl ?_
    refine CodeJ.seq' ?_
    refine CodeJ.region ?_
    refine OpsJ.put rfl (OpJ.pure (OpP.assign rfl) ?_)
    refine OpsJ.nil ?_
    refine CodeJ.ret' ?_
    obtain rfl := Option.some.inj h6
    exact Ret.mk0 ⟨rfl, rfl⟩ (ResJ.one Try.results5 rfl) (IM.le_refl _) (SubL.nil _)
  · rw [if_neg hc7] at h6
    refine OpsJ.guard_y rfl rfl rfl rfl (Bool.eq_false_iff.2 hc7) ?_
    refine OpsJ.put rfl (OpJ.pure (OpP.move rfl) ?_)
    refine OpsJ.guard_y rfl rfl rfl rfl (Bool.eq_false_iff.2 hc7) ?_
    obtain ⟨y11, hy12, h13⟩ := bind_ok h6
    clear h6
    refine OpsJ.put rfl (OpJ.call0 rfl (fun R8 hle9 hin10 => winnowerlaw14_long_w R8 A1_ p1_l.length c1_ p1_l (SlR.mono hA1_ (IM.le_trans (IM.le_refl _) hle9)) rfl hc1_  _ hy12) ?_)
    rintro _ _ _ ⟨rfl, rfl⟩
    refine OpsJ.put rfl (OpJ.pure (OpP.pick_f rfl (Bool.eq_false_iff.2 hc7) rfl) ?_)
    refine OpsJ.put rfl (OpJ.pure (OpP.move rfl) ?_)
    by_cases hc14 : y11 = true
    · rw [if_pos hc14] at h13
      refine OpsJ.guard_n rfl rfl rfl rfl hc14 ?_
      refine OpsJ.guard_n rfl rfl rfl rfl hc14 ?_
      refine OpsJ.put rfl (OpJ.pure (OpP.pick_t rfl hc14 rfl) ?_)
      refine OpsJ.put rfl (OpJ.pure (OpP.move rfl) ?_)
      refine OpsJ.guard_n rfl rfl rfl rfl rfl ?_
      refine OpsJ.guard_n rfl rfl rfl rfl rfl ?_
      refine OpsJ.guard_n rfl rfl rfl rfl rfl ?_
      refine OpsJ.guard_n rfl rfl rfl rfl rfl ?_
      refine OpsJ.guard_n rfl rfl rfl rfl rfl ?_
      refine OpsJ.put rfl (OpJ.pure (OpP.pick_t rfl rfl rfl) ?_)
      refine OpsJ.nil ?_
      refine CodeJ.cond_t rfl rfl ?_
      refine CodeJ.seq' ?_
      refine CodeJ.region ?_
      refine OpsJ.put rfl (OpJ.pure (OpP.assign rfl) ?_)
      refine OpsJ.nil ?_
      refine CodeJ.ret' ?_
      obtain rfl := Option.some.inj h13
      exact Ret.mk0 ⟨rfl, rfl⟩ (ResJ.one Try.results5 rfl) (IM.le_refl _) (SubL.nil _)
    · rw [if_neg hc14] at h13
      refine OpsJ.guard_y rfl rfl rfl rfl (Bool.eq_false_iff.2 hc14) ?_
      refine OpsJ.put rfl (OpJ.pure (OpP.move rfl) ?_)
      refine OpsJ.guard_y rfl rfl rfl rfl (Bool.eq_false_iff.2 hc14) ?_
      obtain ⟨y18, hy19, h20⟩ := bind_ok h13
      clear h13
      refine OpsJ.put rfl (OpJ.call0 rfl (fun R15 hle16 hin17 => winnowerlaw14_long_w R15 A2_ p2_m.length c2_ p2_m (SlR.mono hA2_ (IM.le_trans (IM.le_refl _) hle16)) rfl hc2_  _ hy19) ?_)
      rintro _ _ _ ⟨rfl, rfl⟩
      refine OpsJ.put rfl (OpJ.pure (OpP.pick_f rfl (Bool.eq_false_iff.2 hc14) rfl) ?_)
      refine OpsJ.put rfl (OpJ.pure (OpP.move rfl) ?_)
      by_cases hc21 : y18 = true
      · rw [if_pos hc21] at h20
        refine OpsJ.guard_n rfl rfl rfl rfl hc21 ?_
        refine OpsJ.guard_n rfl rfl rfl rfl hc21 ?_
        refine OpsJ.guard_n rfl rfl rfl rfl hc21 ?_
        refine OpsJ.guard_n rfl rfl rfl rfl hc21 ?_
        refine OpsJ.guard_n rfl rfl rfl rfl hc21 ?_
        refine OpsJ.put rfl (OpJ.pure (OpP.pick_t rfl hc21 rfl) ?_)
        refine OpsJ.nil ?_
        refine CodeJ.cond_t rfl rfl ?_
        refine CodeJ.seq' ?_
        refine CodeJ.region ?_
        refine OpsJ.put rfl (OpJ.pure (OpP.assign rfl) ?_)
        refine OpsJ.nil ?_
        refine CodeJ.ret' ?_
        obtain rfl := Option.some.inj h20
        exact Ret.mk0 ⟨rfl, rfl⟩ (ResJ.one Try.results5 rfl) (IM.le_refl _) (SubL.nil _)
      · rw [if_neg hc21] at h20
        refine OpsJ.guard_y rfl rfl rfl rfl (Bool.eq_false_iff.2 hc21) ?_
        refine OpsJ.put rfl (OpJ.pure (OpP.move rfl) ?_)
        refine OpsJ.guard_y rfl rfl rfl rfl (Bool.eq_false_iff.2 hc21) ?_
        refine OpsJ.put rfl (OpJ.pure (OpP.len rfl) ?_)
        refine OpsJ.guard_y rfl rfl rfl rfl (Bool.eq_false_iff.2 hc21) ?_
        refine OpsJ.put rfl (OpJ.pure (OpP.move rfl) ?_)
        refine OpsJ.guard_y rfl rfl rfl rfl (Bool.eq_false_iff.2 hc21) ?_
        refine OpsJ.put rfl (OpJ.pure (OpP.len rfl) ?_)
        refine OpsJ.guard_y rfl rfl rfl rfl (Bool.eq_false_iff.2 hc21) ?_
        refine OpsJ.put rfl (OpJ.pure (OpP.neq rfl rfl) ?_)
        refine OpsJ.put rfl (OpJ.pure (OpP.pick_f rfl (Bool.eq_false_iff.2 hc21) rfl) ?_)
        refine OpsJ.nil ?_
        by_cases hc22 : ((p0_t.length : Nat) : Int) ≠ ((p1_l.length : Nat) : Int)
        · rw [if_pos hc22] at h20
          refine CodeJ.cond_t rfl (decide_eq_true hc22) ?_
          refine CodeJ.seq' ?_
          refine CodeJ.region ?_
          refine OpsJ.put rfl (OpJ.pure (OpP.assign rfl) ?_)
          refine OpsJ.nil ?_
          refine CodeJ.ret' ?_
          obtain rfl := Option.some.inj h20
          exact Ret.mk0 ⟨rfl, rfl⟩ (ResJ.one Try.results5 rfl) (IM.le_refl _) (SubL.nil _)
        · rw [if_neg hc22] at h20
          refine CodeJ.cond_f rfl (decide_eq_false hc22) ?_
          refine CodeJ.skip ?_
          refine CodeJ.seq' ?_
          refine CodeJ.region ?_
          refine OpsJ.put rfl (OpJ.pure (OpP.move rfl) ?_)
          refine OpsJ.put rfl (OpJ.pure (OpP.move rfl) ?_)
          obtain ⟨y26, hy27, h28⟩ := bind_ok h20
          clear h20
          refine OpsJ.put rfl (OpJ.call1 rfl (fun R23 hle24 hin25 => part_Merge_w R23 A0_ p0_t.length c0_ p0_t (SlR.mono hA0_ (IM.le_trans (IM.le_refl _) hle24)) rfl hc0_ A1_ p1_l.length c1_ p1_l (SlR.mono hA1_ (IM.le_trans (IM.le_refl _) hle24)) rfl hc1_  _ hy27) ?_)
          rintro _ _ _ ⟨A29, c30, cs31, rfl, hr32, rfl⟩
          refine OpsJ.put rfl (OpJ.pure (OpP.assign rfl) ?_)
          refine OpsJ.nil ?_
          refine CodeJ.seq' ?_
          refine CodeJ.seq' ?_
          refine CodeJ.region ?_
          refine OpsJ.put rfl (OpJ.pure (OpP.move rfl) ?_)
          refine OpsJ.put rfl (OpJ.pure (OpP.move rfl) ?_)
          refine OpsJ.rowle (List.Perm.refl _) (fun hcap34 _ => ?_)
          obtain ⟨y38, hy39, h40⟩ := bind_ok h28
          clear h28
          refine OpsJ.put rfl (OpJ.call0 rfl (fun R35 hle36 hin37 => part_Fits_w R35 A29 y26.length c30 y26 (SlR.of_row (inRow hin37 (List.Mem.head _)) hr32 (IM.le_nil _)) rfl hcap34 A1_ p1_l.length c1_ p1_l (SlR.mono hA1_ (IM.le_trans (IM.le_refl _) hle36)) rfl hc1_  _ hy39) ?_)
          rintro _ _ _ ⟨rfl, rfl⟩
          refine OpsJ.put rfl (OpJ.pure (OpP.not rfl) ?_)
          refine OpsJ.put rfl (OpJ.pure (OpP.move rfl) ?_)
          by_cases hc41 : y38 = true
          · rw [if_pos hc41] at h40
            refine OpsJ.guard_y rfl rfl rfl rfl (congrArg Bool.not hc41) ?_
            refine OpsJ.put rfl (OpJ.pure (OpP.move rfl) ?_)
            refine OpsJ.guard_y rfl rfl rfl rfl (congrArg Bool.not hc41) ?_
            refine OpsJ.put rfl (OpJ.pure (OpP.move rfl) ?_)
            refine OpsJ.guard_y rfl rfl rfl rfl (congrArg Bool.not hc41) ?_
            obtain ⟨y45, hy46, h47⟩ := bind_ok h40
            clear h40
            refine OpsJ.put rfl (OpJ.call0 rfl (fun R42 hle43 hin44 => part_Fits_w R42 A0_ p0_t.length c0_ p0_t (SlR.mono hA0_ (IM.le_trans (IM.le_refl _) hle43)) rfl hc0_ A2_ p2_m.length c2_ p2_m (SlR.mono hA2_ (IM.le_trans (IM.le_refl _) hle43)) rfl hc2_  _ hy46) ?_)
            rintro _ _ _ ⟨rfl, rfl⟩
            refine OpsJ.guard_y rfl rfl rfl rfl (congrArg Bool.not hc41) ?_
            refine OpsJ.put rfl (OpJ.pure (OpP.move rfl) ?_)
            by_cases hc48 : y45 = true
            · rw [if_pos hc48] at h47
              refine OpsJ.guard_y rfl rfl rfl rfl hc48 ?_
              refine OpsJ.put rfl (OpJ.pure (OpP.move rfl) ?_)
              refine OpsJ.guard_y rfl rfl rfl rfl hc48 ?_
              refine OpsJ.put rfl (OpJ.pure (OpP.move rfl) ?_)
              refine OpsJ.guard_y rfl rfl rfl rfl hc48 ?_
              refine OpsJ.rowle (List.Perm.refl _) (fun hcap49 _ => ?_)
              obtain ⟨y53, hy54, h55⟩ := bind_ok h47
              clear h47
              refine OpsJ.put rfl (OpJ.call0 rfl (fun R50 hle51 hin52 => part_Fits_w R50 A29 y26.length c30 y26 (SlR.of_row (inRow hin52 (List.Mem.head _)) hr32 (IM.le_nil _)) rfl hcap49 A2_ p2_m.length c2_ p2_m (SlR.mono hA2_ (IM.le_trans (IM.le_refl _) hle51)) rfl hc2_  _ hy54) ?_)
              rintro _ _ _ ⟨rfl, rfl⟩
              refine OpsJ.guard_y rfl rfl rfl rfl hc48 ?_
              refine OpsJ.put rfl (OpJ.pure (OpP.not rfl) ?_)
              refine OpsJ.guard_y rfl rfl rfl rfl (congrArg Bool.not hc41) ?_
              refine OpsJ.put rfl (OpJ.pure (OpP.pick_t rfl hc48 rfl) ?_)
              refine OpsJ.put rfl (OpJ.pure (OpP.pick_f rfl (congrArg Bool.not hc41) rfl) ?_)
              refine OpsJ.put rfl (OpJ.pure (OpP.move rfl) ?_)
              by_cases hc56 : y53 = true
              · rw [if_pos hc56] at h55
                refine OpsJ.guard_y rfl rfl rfl rfl (congrArg Bool.not hc56) ?_
                refine OpsJ.put rfl (OpJ.pure (OpP.move rfl) ?_)
                refine OpsJ.guard_y rfl rfl rfl rfl (congrArg Bool.not hc56) ?_
                refine OpsJ.put rfl (OpJ.pure (OpP.len rfl) ?_)
                refine OpsJ.guard_y rfl rfl rfl rfl (congrArg Bool.not hc56) ?_
                refine OpsJ.put rfl (OpJ.pure (OpP.move rfl) ?_)
                refine OpsJ.guard_y rfl rfl rfl rfl (congrArg Bool.not hc56) ?_
                refine OpsJ.put rfl (OpJ.pure (OpP.len rfl) ?_)
                refine OpsJ.guard_y rfl rfl rfl rfl (congrArg Bool.not hc56) ?_
                refine OpsJ.put rfl (OpJ.pure (OpP.neq rfl rfl) ?_)
                refine OpsJ.put rfl (OpJ.pure (OpP.pick_f rfl (congrArg Bool.not hc56) rfl) ?_)
                refine OpsJ.nil ?_
                by_cases hc57 : ((y26.length : Nat) : Int) ≠ ((p0_t.length : Nat) : Int)
                · rw [if_pos hc57] at h55
                  refine CodeJ.cond_t rfl (decide_eq_true hc57) ?_
                  refine CodeJ.seq' ?_
                  refine CodeJ.region ?_
                  refine OpsJ.put rfl (OpJ.pure (OpP.assign rfl) ?_)
                  refine OpsJ.nil ?_
                  refine CodeJ.ret' ?_
                  obtain rfl := Option.some.inj h55
                  exact Ret.mk0 ⟨rfl, rfl⟩ (ResJ.one Try.results5 rfl) (IM.le_refl _) (SubL.nil _)
                · rw [if_neg hc57] at h55
                  refine CodeJ.cond_f rfl (decide_eq_false hc57) ?_
                  refine CodeJ.skip ?_
                  refine CodeJ.seq' ?_
                  refine CodeJ.seq' ?_
                  refine CodeJ.region ?_
                  refine OpsJ.put rfl (OpJ.pure (OpP.assign rfl) ?_)
                  refine OpsJ.nil ?_
                  obtain ⟨t137, hl138, h139⟩ := bind_ok h55
                  clear h55
                  refine CodeJ.mid (fun e s => .inr () = t137 ∧ e = [(1, .slice A1_ p1_l.length c1_), (7, .slice A29 y26.length c30)] ∧ s = ⟨R, [.row 41 2 A29 y26.length c30 cs31]⟩) ?_ ?_
                  · refine CodeJ.block ?_
                    refine CodeJ.loopM hl138 (fun i_109 e s => e = [(0, .slice A0_ p0_t.length c0_), (1, .slice A1_ p1_l.length c1_), (7, .slice A29 y26.length c30), (8, .int .i64 i_109)] ∧ s = ⟨R, [.row 41 2 A29 y26.length c30 cs31]⟩) ⟨rfl, rfl⟩ (SubE.cons rfl (SubE.cons rfl (SubE.cons rfl (SubE.cons rfl (SubE.nil _))))) (SubL.p0 (SubL.nil _)) ?_
                    rintro i_109 _ _ _ ⟨rfl, rfl⟩ h135 hne136
                    (try dsimp only at h135); unfold winnowerlaw14_PartMerges_l0 at h135
                    refine CodeJ.seq' ?_
                    refine CodeJ.seq' ?_
                    refine CodeJ.region ?_
                    refine OpsJ.put rfl (OpJ.pure (OpP.move rfl) ?_)
                    refine OpsJ.put rfl (OpJ.pure (OpP.move rfl) ?_)
                    refine OpsJ.put rfl (OpJ.pure (OpP.len rfl) ?_)
                    refine OpsJ.put rfl (OpJ.pure (OpP.lss rfl rfl) ?_)
                    refine OpsJ.nil ?_
                    by_cases hc140 : i_109 < ((p0_t.length : Nat) : Int)
                    · rw [if_pos hc140] at h135
                      refine CodeJ.cond_t rfl (decide_eq_true hc140) ?_
                      refine CodeJ.skip ?_
                      refine CodeJ.seq' ?_
                      refine CodeJ.block ?_
                      refine CodeJ.seq' ?_
                      refine CodeJ.drawn (by kernel_rfl) (by kernel_rfl) ?_
                      refine QuietJ.put rfl (OpQ.pure (OpP.move rfl) ?_)
                      refine QuietJ.put rfl (OpQ.pure (OpP.move rfl) ?_)
                      obtain ⟨x141, hx142, h143⟩ := bind_ok h135
                      clear h135
                      have hE144 : ∀ j v, ([.bool x141.1, .string x141.2] : List Value)[j]? = some v → (cs31)[Int.toNat i_109 * Dat.size (Bool × ByteArray) + j]? = some v := row_getF (α := Bool × ByteArray) hr32 hx142
                      refine QuietJ.put rfl (OpQ.pure (OpP.ixW (List.Mem.head _) hr32 rfl hx142 (by exact rfl) (by exact rfl) rfl rfl) ?_)
                      refine QuietJ.put rfl (OpQ.pure (OpP.fldAddr rfl (by exact rfl)) ?_)
                      refine QuietJ.put rfl (OpQ.pure (OpP.ldW (by exact rfl) (List.Mem.head _) hE144 rfl rfl) ?_)
                      refine QuietJ.put rfl (OpQ.pure (OpP.move rfl) ?_)
                      refine QuietJ.put rfl (OpQ.pure (OpP.move rfl) ?_)
                      obtain ⟨x145, hx146, h147⟩ := bind_ok h143
                      clear h143
                      have hE148 : RC _ (some ((adr A0_).add (Int.toNat i_109 * Dat.size (Bool × ByteArray)))) [.bool x145.1, .string x145.2] := SlR.getF (α := Bool × ByteArray) hA0_ hx146
                      refine QuietJ.put rfl (OpQ.pure (OpP.ixR hA0_ rfl hx146 (by exact rfl) (by exact rfl) rfl rfl) ?_)
                      refine QuietJ.put rfl (OpQ.pure (OpP.fldAddr rfl (by exact rfl)) ?_)
                      refine QuietJ.put rfl (OpQ.pure (OpP.ldR (by exact rfl) hE148 (IM.le_refl _) rfl rfl) ?_)
                      refine QuietJ.put rfl (OpQ.pure (OpP.move rfl) ?_)
                      by_cases hc149 : x145.1 = true
                      · rw [if_pos hc149] at h147
                        refine QuietJ.guard_n rfl rfl rfl rfl hc149 ?_
                        refine QuietJ.guard_n rfl rfl rfl rfl hc149 ?_
                        refine QuietJ.guard_n rfl rfl rfl rfl hc149 ?_
                        refine QuietJ.guard_n rfl rfl rfl rfl hc149 ?_
                        refine QuietJ.guard_n rfl rfl rfl rfl hc149 ?_
                        refine QuietJ.guard_n rfl rfl rfl rfl hc149 ?_
                        refine QuietJ.guard_n rfl rfl rfl rfl hc149 ?_
                        refine QuietJ.guard_n rfl rfl rfl rfl hc149 ?_
                        refine QuietJ.guard_n rfl rfl rfl rfl hc149 ?_
                        refine QuietJ.guard_n rfl rfl rfl rfl hc149 ?_
                        refine QuietJ.guard_n rfl rfl rfl rfl hc149 ?_
                        refine QuietJ.put rfl (OpQ.pure (OpP.pick_t rfl hc149 rfl) ?_)
                        refine QuietJ.put rfl (OpQ.pure (OpP.neq_bool rfl rfl) ?_)
                        refine QuietJ.put rfl (OpQ.pure (OpP.move rfl) ?_)
                        by_cases hc150 : (!(x141.1 == true)) = true
                        · rw [if_pos hc150] at h147
                          refine QuietJ.guard_n rfl rfl rfl rfl hc150 ?_
                          refine QuietJ.guard_n rfl rfl rfl rfl hc150 ?_
                          refine QuietJ.guard_n rfl rfl rfl rfl hc150 ?_
                          refine QuietJ.guard_n rfl rfl rfl rfl hc150 ?_
                          refine QuietJ.guard_n rfl rfl rfl rfl hc150 ?_
                          refine QuietJ.guard_n rfl rfl rfl rfl hc150 ?_
                          refine QuietJ.gund rfl rfl rfl rfl ?_
                          refine QuietJ.gund rfl rfl rfl rfl ?_
                          refine QuietJ.gund rfl rfl rfl rfl ?_
                          refine QuietJ.gund rfl rfl rfl rfl ?_
                          refine QuietJ.gund rfl rfl rfl rfl ?_
                          refine QuietJ.gund rfl rfl rfl rfl ?_
                          refine QuietJ.guard_n rfl rfl rfl rfl hc150 ?_
                          refine QuietJ.put rfl (OpQ.pure (OpP.pick_t rfl hc150 rfl) ?_)
                          refine QuietJ.nil ?_
                          refine CodeJ.cond_t rfl rfl ?_
                          refine CodeJ.seq' ?_
                          refine CodeJ.region ?_
                          refine OpsJ.put rfl (OpJ.pure (OpP.assign rfl) ?_)
                          refine OpsJ.nil ?_
                          obtain rfl := Option.some.inj h147
                          have ht151 := hne136 _ rfl
                          subst ht151
                          simp only [Sum.elim_inl] at h139
                          refine CodeJ.ret' ?_
                          obtain rfl := Option.some.inj h139
                          exact Ret.mk0 ⟨rfl, rfl⟩ (ResJ.one Try.results5 rfl) (IM.le_refl _) (SubL.nil _)
                        · rw [if_neg hc150] at h147
                          refine QuietJ.guard_y rfl rfl rfl rfl (Bool.eq_false_iff.2 hc150) ?_
                          refine QuietJ.put rfl (OpQ.pure (OpP.move rfl) ?_)
                          refine QuietJ.guard_y rfl rfl rfl rfl (Bool.eq_false_iff.2 hc150) ?_
                          refine QuietJ.put rfl (OpQ.pure (OpP.move rfl) ?_)
                          refine QuietJ.guard_y rfl rfl rfl rfl (Bool.eq_false_iff.2 hc150) ?_
                          have hE152 : ∀ j v, ([.bool x141.1, .string x141.2] : List Value)[j]? = some v → (cs31)[Int.toNat i_109 * Dat.size (Bool × ByteArray) + j]? = some v := row_getF (α := Bool × ByteArray) hr32 hx142
                          refine QuietJ.put rfl (OpQ.pure (OpP.ixW (List.Mem.head _) hr32 rfl hx142 (by exact rfl) (by exact rfl) rfl rfl) ?_)
                          refine QuietJ.guard_y rfl rfl rfl rfl (Bool.eq_false_iff.2 hc150) ?_
                          refine QuietJ.put rfl (OpQ.pure (OpP.fldAddr rfl (by exact rfl)) ?_)
                          refine QuietJ.guard_y rfl rfl rfl rfl (Bool.eq_false_iff.2 hc150) ?_
                          refine QuietJ.put rfl (OpQ.pure (OpP.ldW (by exact rfl) (List.Mem.head _) hE152 rfl rfl) ?_)
                          refine QuietJ.guard_y rfl rfl rfl rfl (Bool.eq_false_iff.2 hc150) ?_
                          refine QuietJ.put rfl (OpQ.pure (OpP.move rfl) ?_)
                          by_cases hc153 : x141.1 = true
                          · rw [if_pos hc153] at h147
                            refine QuietJ.guard_y rfl rfl rfl rfl hc153 ?_
                            refine QuietJ.put rfl (OpQ.pure (OpP.move rfl) ?_)
                            refine QuietJ.guard_y rfl rfl rfl rfl hc153 ?_
                            refine QuietJ.put rfl (OpQ.pure (OpP.move rfl) ?_)
                            refine QuietJ.guard_y rfl rfl rfl rfl hc153 ?_
                            have hE154 : ∀ j v, ([.bool x141.1, .string x141.2] : List Value)[j]? = some v → (cs31)[Int.toNat i_109 * Dat.size (Bool × ByteArray) + j]? = some v := row_getF (α := Bool × ByteArray) hr32 hx142
                            refine QuietJ.put rfl (OpQ.pure (OpP.ixW (List.Mem.head _) hr32 rfl hx142 (by exact rfl) (by exact rfl) rfl rfl) ?_)
                            refine QuietJ.guard_y rfl rfl rfl rfl hc153 ?_
                            refine QuietJ.put rfl (OpQ.pure (OpP.fldAddr rfl (by exact rfl)) ?_)
                            refine QuietJ.guard_y rfl rfl rfl rfl hc153 ?_
                            refine QuietJ.put rfl (OpQ.pure (OpP.ldW (by exact rfl) (List.Mem.head _) hE154 rfl rfl) ?_)
                            refine QuietJ.guard_y rfl rfl rfl rfl hc153 ?_
                            refine QuietJ.put rfl (OpQ.pure (OpP.neqS rfl rfl) ?_)
                            refine QuietJ.guard_y rfl rfl rfl rfl (Bool.eq_false_iff.2 hc150) ?_
                            refine QuietJ.put rfl (OpQ.pure (OpP.pick_t rfl hc153 rfl) ?_)
                            refine QuietJ.put rfl (OpQ.pure (OpP.pick_f rfl (Bool.eq_false_iff.2 hc150) rfl) ?_)
                            refine QuietJ.nil ?_
                            by_cases hc155 : x141.2 ≠ (⟨#[]⟩ : ByteArray)
                            · rw [if_pos hc155] at h147
                              refine CodeJ.cond_t rfl (decide_eq_true hc155) ?_
                              refine CodeJ.seq' ?_
                              refine CodeJ.region ?_
                              refine OpsJ.put rfl (OpJ.pure (OpP.assign rfl) ?_)
                              refine OpsJ.nil ?_
                              obtain rfl := Option.some.inj h147
                              have ht156 := hne136 _ rfl
                              subst ht156
                              simp only [Sum.elim_inl] at h139
                              refine CodeJ.ret' ?_
                              obtain rfl := Option.some.inj h139
                              exact Ret.mk0 ⟨rfl, rfl⟩ (ResJ.one Try.results5 rfl) (IM.le_refl _) (SubL.nil _)
                            · rw [if_neg hc155] at h147
                              refine CodeJ.cond_f rfl (decide_eq_false hc155) ?_
                              refine CodeJ.skip ?_
                              refine CodeJ.region ?_
                              refine OpsJ.put rfl (OpJ.pure (OpP.move rfl) ?_)
                              refine OpsJ.put rfl (OpJ.pure (OpP.add64 rfl rfl) ?_)
                              refine OpsJ.put rfl (OpJ.pure (OpP.assign rfl) ?_)
                              refine OpsJ.nil ?_
                              obtain rfl := Option.some.inj h147
                              exact ⟨_, _, _, _, rfl, ⟨rfl, rfl⟩, IM.le_refl _, (SubE.cons rfl (SubE.cons rfl (SubE.cons rfl (SubE.cons rfl (SubE.nil _))))), (SubL.p0 (SubL.nil _))⟩
                          · rw [if_neg hc153] at h147
                            refine QuietJ.guard_n rfl rfl rfl rfl (Bool.eq_false_iff.2 hc153) ?_
                            refine QuietJ.guard_n rfl rfl rfl rfl (Bool.eq_false_iff.2 hc153) ?_
                            refine QuietJ.guard_n rfl rfl rfl rfl (Bool.eq_false_iff.2 hc153) ?_
                            refine QuietJ.guard_n rfl rfl rfl rfl (Bool.eq_false_iff.2 hc153) ?_
                            refine QuietJ.guard_n rfl rfl rfl rfl (Bool.eq_false_iff.2 hc153) ?_
                            refine QuietJ.guard_n rfl rfl rfl rfl (Bool.eq_false_iff.2 hc153) ?_
                            refine QuietJ.guard_y rfl rfl rfl rfl (Bool.eq_false_iff.2 hc150) ?_
                            refine QuietJ.put rfl (OpQ.pure (OpP.pick_f rfl (Bool.eq_false_iff.2 hc153) rfl) ?_)
                            refine QuietJ.put rfl (OpQ.pure (OpP.pick_f rfl (Bool.eq_false_iff.2 hc150) rfl) ?_)
                            refine QuietJ.nil ?_
                            refine CodeJ.cond_f rfl rfl ?_
                            refine CodeJ.skip ?_
                            refine CodeJ.region ?_
                            refine OpsJ.put rfl (OpJ.pure (OpP.move rfl) ?_)
                            refine OpsJ.put rfl (OpJ.pure (OpP.add64 rfl rfl) ?_)
                            refine OpsJ.put rfl (OpJ.pure (OpP.assign rfl) ?_)
                            refine OpsJ.nil ?_
                            obtain rfl := Option.some.inj h147
                            exact ⟨_, _, _, _, rfl, ⟨rfl, rfl⟩, IM.le_refl _, (SubE.cons rfl (SubE.cons rfl (SubE.cons rfl (SubE.cons rfl (SubE.nil _))))), (SubL.p0 (SubL.nil _))⟩
                      · rw [if_neg hc149] at h147
                        refine QuietJ.guard_y rfl rfl rfl rfl (Bool.eq_false_iff.2 hc149) ?_
                        refine QuietJ.put rfl (OpQ.pure (OpP.move rfl) ?_)
                        refine QuietJ.guard_y rfl rfl rfl rfl (Bool.eq_false_iff.2 hc149) ?_
                        refine QuietJ.put rfl (OpQ.pure (OpP.move rfl) ?_)
                        refine QuietJ.guard_y rfl rfl rfl rfl (Bool.eq_false_iff.2 hc149) ?_
                        have hE157 : RC _ (some ((adr A0_).add (Int.toNat i_109 * Dat.size (Bool × ByteArray)))) [.bool x145.1, .string x145.2] := SlR.getF (α := Bool × ByteArray) hA0_ hx146
                        refine QuietJ.put rfl (OpQ.pure (OpP.ixR hA0_ rfl hx146 (by exact rfl) (by exact rfl) rfl rfl) ?_)
                        refine QuietJ.guard_y rfl rfl rfl rfl (Bool.eq_false_iff.2 hc149) ?_
                        refine QuietJ.put rfl (OpQ.pure (OpP.fldAddr rfl (by exact rfl)) ?_)
                        refine QuietJ.guard_y rfl rfl rfl rfl (Bool.eq_false_iff.2 hc149) ?_
                        refine QuietJ.put rfl (OpQ.pure (OpP.ldR (by exact rfl) hE157 (IM.le_refl _) rfl rfl) ?_)
                        refine QuietJ.guard_y rfl rfl rfl rfl (Bool.eq_false_iff.2 hc149) ?_
                        refine QuietJ.put rfl (OpQ.pure (OpP.move rfl) ?_)
                        refine QuietJ.guard_y rfl rfl rfl rfl (Bool.eq_false_iff.2 hc149) ?_
                        refine QuietJ.put rfl (OpQ.pure (OpP.move rfl) ?_)
                        refine QuietJ.guard_y rfl rfl rfl rfl (Bool.eq_false_iff.2 hc149) ?_
                        obtain ⟨x158, hx159, h160⟩ := bind_ok h147
                        clear h147
                        have hE161 : RC _ (some ((adr A1_).add (Int.toNat i_109 * Dat.size (Int × ByteArray)))) [.int .i64 x158.1, .string x158.2] := SlR.getF (α := Int × ByteArray) hA1_ hx159
                        refine QuietJ.put rfl (OpQ.pure (OpP.ixR hA1_ rfl hx159 (by exact rfl) (by exact rfl) rfl rfl) ?_)
                        refine QuietJ.guard_y rfl rfl rfl rfl (Bool.eq_false_iff.2 hc149) ?_
                        refine QuietJ.put rfl (OpQ.pure (OpP.fldAddr rfl (by exact rfl)) ?_)
                        refine QuietJ.guard_y rfl rfl rfl rfl (Bool.eq_false_iff.2 hc149) ?_
                        refine QuietJ.put rfl (OpQ.pure (OpP.ldR (by exact rfl) hE161 (IM.le_refl _) rfl rfl) ?_)
                        refine QuietJ.guard_y rfl rfl rfl rfl (Bool.eq_false_iff.2 hc149) ?_
                        refine QuietJ.put rfl (OpQ.pure (OpP.neqS rfl rfl) ?_)
                        refine QuietJ.put rfl (OpQ.pure (OpP.pick_f rfl (Bool.eq_false_iff.2 hc149) rfl) ?_)
                        refine QuietJ.put rfl (OpQ.pure (OpP.neq_bool rfl rfl) ?_)
                        refine QuietJ.put rfl (OpQ.pure (OpP.move rfl) ?_)
                        by_cases hc162 : (!(x141.1 == decide (x145.2 ≠ x158.2))) = true
                        · rw [if_pos hc162] at h160
                          refine QuietJ.guard_n rfl rfl rfl rfl hc162 ?_
                          refine QuietJ.guard_n rfl rfl rfl rfl hc162 ?_
                          refine QuietJ.guard_n rfl rfl rfl rfl hc162 ?_
                          refine QuietJ.guard_n rfl rfl rfl rfl hc162 ?_
                          refine QuietJ.guard_n rfl rfl rfl rfl hc162 ?_
                          refine QuietJ.guard_n rfl rfl rfl rfl hc162 ?_
                          refine QuietJ.gund rfl rfl rfl rfl ?_
                          refine QuietJ.gund rfl rfl rfl rfl ?_
                          refine QuietJ.gund rfl rfl rfl rfl ?_
                          refine QuietJ.gund rfl rfl rfl rfl ?_
                          refine QuietJ.gund rfl rfl rfl rfl ?_
                          refine QuietJ.gund rfl rfl rfl rfl ?_
                          refine QuietJ.guard_n rfl rfl rfl rfl hc162 ?_
                          refine QuietJ.put rfl (OpQ.pure (OpP.pick_t rfl hc162 rfl) ?_)
                          refine QuietJ.nil ?_
                          refine CodeJ.cond_t rfl rfl ?_
                          refine CodeJ.seq' ?_
                          refine CodeJ.region ?_
                          refine OpsJ.put rfl (OpJ.pure (OpP.assign rfl) ?_)
                          refine OpsJ.nil ?_
                          obtain rfl := Option.some.inj h160
                          have ht163 := hne136 _ rfl
                          subst ht163
                          simp only [Sum.elim_inl] at h139
                          refine CodeJ.ret' ?_
                          obtain rfl := Option.some.inj h139
                          exact Ret.mk0 ⟨rfl, rfl⟩ (ResJ.one Try.results5 rfl) (IM.le_refl _) (SubL.nil _)
                        · rw [if_neg hc162] at h160
                          refine QuietJ.guard_y rfl rfl rfl rfl (Bool.eq_false_iff.2 hc162) ?_
                          refine QuietJ.put rfl (OpQ.pure (OpP.move rfl) ?_)
                          refine QuietJ.guard_y rfl rfl rfl rfl (Bool.eq_false_iff.2 hc162) ?_
                          refine QuietJ.put rfl (OpQ.pure (OpP.move rfl) ?_)
                          refine QuietJ.guard_y rfl rfl rfl rfl (Bool.eq_false_iff.2 hc162) ?_
                          have hE164 : ∀ j v, ([.bool x141.1, .string x141.2] : List Value)[j]? = some v → (cs31)[Int.toNat i_109 * Dat.size (Bool × ByteArray) + j]? = some v := row_getF (α := Bool × ByteArray) hr32 hx142
                          refine QuietJ.put rfl (OpQ.pure (OpP.ixW (List.Mem.head _) hr32 rfl hx142 (by exact rfl) (by exact rfl) rfl rfl) ?_)
                          refine QuietJ.guard_y rfl rfl rfl rfl (Bool.eq_false_iff.2 hc162) ?_
                          refine QuietJ.put rfl (OpQ.pure (OpP.fldAddr rfl (by exact rfl)) ?_)
                          refine QuietJ.guard_y rfl rfl rfl rfl (Bool.eq_false_iff.2 hc162) ?_
                          refine QuietJ.put rfl (OpQ.pure (OpP.ldW (by exact rfl) (List.Mem.head _) hE164 rfl rfl) ?_)
                          refine QuietJ.guard_y rfl rfl rfl rfl (Bool.eq_false_iff.2 hc162) ?_
                          refine QuietJ.put rfl (OpQ.pure (OpP.move rfl) ?_)
                          by_cases hc165 : x141.1 = true
                          · rw [if_pos hc165] at h160
                            refine QuietJ.guard_y rfl rfl rfl rfl hc165 ?_
                            refine QuietJ.put rfl (OpQ.pure (OpP.move rfl) ?_)
                            refine QuietJ.guard_y rfl rfl rfl rfl hc165 ?_
                            refine QuietJ.put rfl (OpQ.pure (OpP.move rfl) ?_)
                            refine QuietJ.guard_y rfl rfl rfl rfl hc165 ?_
                            have hE166 : ∀ j v, ([.bool x141.1, .string x141.2] : List Value)[j]? = some v → (cs31)[Int.toNat i_109 * Dat.size (Bool × ByteArray) + j]? = some v := row_getF (α := Bool × ByteArray) hr32 hx142
                            refine QuietJ.put rfl (OpQ.pure (OpP.ixW (List.Mem.head _) hr32 rfl hx142 (by exact rfl) (by exact rfl) rfl rfl) ?_)
                            refine QuietJ.guard_y rfl rfl rfl rfl hc165 ?_
                            refine QuietJ.put rfl (OpQ.pure (OpP.fldAddr rfl (by exact rfl)) ?_)
                            refine QuietJ.guard_y rfl rfl rfl rfl hc165 ?_
                            refine QuietJ.put rfl (OpQ.pure (OpP.ldW (by exact rfl) (List.Mem.head _) hE166 rfl rfl) ?_)
                            refine QuietJ.guard_y rfl rfl rfl rfl hc165 ?_
                            refine QuietJ.put rfl (OpQ.pure (OpP.neqS rfl rfl) ?_)
                            refine QuietJ.guard_y rfl rfl rfl rfl (Bool.eq_false_iff.2 hc162) ?_
                            refine QuietJ.put rfl (OpQ.pure (OpP.pick_t rfl hc165 rfl) ?_)
                            refine QuietJ.put rfl (OpQ.pure (OpP.pick_f rfl (Bool.eq_false_iff.2 hc162) rfl) ?_)
                            refine QuietJ.nil ?_
                            by_cases hc167 : x141.2 ≠ (⟨#[]⟩ : ByteArray)
                            · rw [if_pos hc167] at h160
                              refine CodeJ.cond_t rfl (decide_eq_true hc167) ?_
                              refine CodeJ.seq' ?_
                              refine CodeJ.region ?_
                              refine OpsJ.put rfl (OpJ.pure (OpP.assign rfl) ?_)
                              refine OpsJ.nil ?_
                              obtain rfl := Option.some.inj h160
                              have ht168 := hne136 _ rfl
                              subst ht168
                              simp only [Sum.elim_inl] at h139
                              refine CodeJ.ret' ?_
                              obtain rfl := Option.some.inj h139
                              exact Ret.mk0 ⟨rfl, rfl⟩ (ResJ.one Try.results5 rfl) (IM.le_refl _) (SubL.nil _)
                            · rw [if_neg hc167] at h160
                              refine CodeJ.cond_f rfl (decide_eq_false hc167) ?_
                              refine CodeJ.skip ?_
                              refine CodeJ.region ?_
                              refine OpsJ.put rfl (OpJ.pure (OpP.move rfl) ?_)
                              refine OpsJ.put rfl (OpJ.pure (OpP.add64 rfl rfl) ?_)
                              refine OpsJ.put rfl (OpJ.pure (OpP.assign rfl) ?_)
                              refine OpsJ.nil ?_
                              obtain rfl := Option.some.inj h160
                              exact ⟨_, _, _, _, rfl, ⟨rfl, rfl⟩, IM.le_refl _, (SubE.cons rfl (SubE.cons rfl (SubE.cons rfl (SubE.cons rfl (SubE.nil _))))), (SubL.p0 (SubL.nil _))⟩
                          · rw [if_neg hc165] at h160
                            refine QuietJ.guard_n rfl rfl rfl rfl (Bool.eq_false_iff.2 hc165) ?_
                            refine QuietJ.guard_n rfl rfl rfl rfl (Bool.eq_false_iff.2 hc165) ?_
                            refine QuietJ.guard_n rfl rfl rfl rfl (Bool.eq_false_iff.2 hc165) ?_
                            refine QuietJ.guard_n rfl rfl rfl rfl (Bool.eq_false_iff.2 hc165) ?_
                            refine QuietJ.guard_n rfl rfl rfl rfl (Bool.eq_false_iff.2 hc165) ?_
                            refine QuietJ.guard_n rfl rfl rfl rfl (Bool.eq_false_iff.2 hc165) ?_
                            refine QuietJ.guard_y rfl rfl rfl rfl (Bool.eq_false_iff.2 hc162) ?_
                            refine QuietJ.put rfl (OpQ.pure (OpP.pick_f rfl (Bool.eq_false_iff.2 hc165) rfl) ?_)
                            refine QuietJ.put rfl (OpQ.pure (OpP.pick_f rfl (Bool.eq_false_iff.2 hc162) rfl) ?_)
                            refine QuietJ.nil ?_
                            refine CodeJ.cond_f rfl rfl ?_
                            refine CodeJ.skip ?_
                            refine CodeJ.region ?_
                            refine OpsJ.put rfl (OpJ.pure (OpP.move rfl) ?_)
                            refine OpsJ.put rfl (OpJ.pure (OpP.add64 rfl rfl) ?_)
                            refine OpsJ.put rfl (OpJ.pure (OpP.assign rfl) ?_)
                            refine OpsJ.nil ?_
                            obtain rfl := Option.some.inj h160
                            exact ⟨_, _, _, _, rfl, ⟨rfl, rfl⟩, IM.le_refl _, (SubE.cons rfl (SubE.cons rfl (SubE.cons rfl (SubE.cons rfl (SubE.nil _))))), (SubL.p0 (SubL.nil _))⟩
                    · rw [if_neg hc140] at h135
                      refine CodeJ.cond_f rfl (decide_eq_false hc140) ?_
                      refine CodeJ.exit rfl ?_
                      obtain rfl := Option.some.inj h135
                      have ht169 := hne136 _ rfl
                      exact ⟨_, _, _, ⟨ht169, rfl, rfl⟩, IM.le_refl _, (SubE.cons rfl (SubE.cons rfl (SubE.nil _))), (SubL.p0 (SubL.nil _))⟩
                  · rintro _ _ ⟨rfl, rfl, rfl⟩
                    simp only [Sum.elim_inr] at h139
                    refine CodeJ.seq' ?_
                    refine CodeJ.region ?_
                    refine OpsJ.put rfl (OpJ.pure (OpP.move rfl) ?_)
                    refine OpsJ.put rfl (OpJ.pure (OpP.move rfl) ?_)
                    refine OpsJ.rowle (List.Perm.refl _) (fun hcap170 _ => ?_)
                    obtain ⟨y174, hy175, h176⟩ := bind_ok h139
                    clear h139
                    refine OpsJ.put rfl (OpJ.call1 rfl (fun R171 hle172 hin173 => part_Merge_w R171 A29 y26.length c30 y26 (SlR.of_row (inRow hin173 (List.Mem.head _)) hr32 (IM.le_nil _)) rfl hcap170 A1_ p1_l.length c1_ p1_l (SlR.mono hA1_ (IM.le_trans (IM.le_refl _) hle172)) rfl hc1_  _ hy175) ?_)
                    rintro _ _ _ ⟨A177, c178, cs179, rfl, hr180, rfl⟩
                    refine OpsJ.put rfl (OpJ.pure (OpP.move rfl) ?_)
                    refine OpsJ.rowle (List.Perm.refl _) (fun hcap182 _ => ?_)
                    refine OpsJ.rowle (List.Perm.swap _ _ _) (fun hcap183 _ => ?_)
                    obtain ⟨y187, hy188, h189⟩ := bind_ok h176
                    clear h176
                    refine OpsJ.put rfl (OpJ.call0 rfl (fun R184 hle185 hin186 => winnowerref14_Same_w R184 A177 y174.length c178 y174 (SlR.of_row (inRow hin186 (List.Mem.head _)) hr180 (IM.le_nil _)) rfl hcap182 A29 y26.length c30 y26 (SlR.of_row (inRow hin186 (List.Mem.tail _ (List.Mem.head _))) hr32 (IM.le_nil _)) rfl hcap183  _ hy188) ?_)
                    rintro _ _ _ ⟨rfl, rfl⟩
                    refine OpsJ.put rfl (OpJ.pure (OpP.move rfl) ?_)
                    by_cases hc190 : y187 = true
                    · rw [if_pos hc190] at h189
                      refine OpsJ.guard_y rfl rfl rfl rfl hc190 ?_
                      obtain ⟨y194, hy195, h196⟩ := bind_ok h189
                      clear h189
                      refine OpsJ.put rfl (OpJ.call0 rfl (fun R191 hle192 hin193 => winnowerlaw14_known_w R191   _ hy195) ?_)
                      rintro _ _ _ ⟨rfl, rfl⟩
                      refine OpsJ.put rfl (OpJ.pure (OpP.pick_t rfl hc190 rfl) ?_)
                      refine OpsJ.put rfl (OpJ.pure (OpP.assign rfl) ?_)
                      refine OpsJ.nil ?_
                      refine CodeJ.ret' ?_
                      obtain rfl := Option.some.inj h196
                      exact Ret.mk0 ⟨rfl, rfl⟩ (ResJ.one Try.results5 rfl) (IM.le_refl _) (SubL.nil _)
                    · rw [if_neg hc190] at h189
                      refine OpsJ.guard_n rfl rfl rfl rfl (Bool.eq_false_iff.2 hc190) ?_
                      refine OpsJ.put rfl (OpJ.pure (OpP.pick_f rfl (Bool.eq_false_iff.2 hc190) rfl) ?_)
                      refine OpsJ.put rfl (OpJ.pure (OpP.assign rfl) ?_)
                      refine OpsJ.nil ?_
                      refine CodeJ.ret' ?_
                      obtain rfl := Option.some.inj h189
                      exact Ret.mk0 ⟨rfl, rfl⟩ (ResJ.one Try.results5 rfl) (IM.le_refl _) (SubL.nil _)
              · rw [if_neg hc56] at h55
                refine OpsJ.guard_n rfl rfl rfl rfl (congrArg Bool.not (Bool.eq_false_iff.2 hc56)) ?_
                refine OpsJ.guard_n rfl rfl rfl rfl (congrArg Bool.not (Bool.eq_false_iff.2 hc56)) ?_
                refine OpsJ.guard_n rfl rfl rfl rfl (congrArg Bool.not (Bool.eq_false_iff.2 hc56)) ?_
                refine OpsJ.guard_n rfl rfl rfl rfl (congrArg Bool.not (Bool.eq_false_iff.2 hc56)) ?_
                refine OpsJ.guard_n rfl rfl rfl rfl (congrArg Bool.not (Bool.eq_false_iff.2 hc56)) ?_
                refine OpsJ.put rfl (OpJ.pure (OpP.pick_t rfl (congrArg Bool.not (Bool.eq_false_iff.2 hc56)) rfl) ?_)
                refine OpsJ.nil ?_
                refine CodeJ.cond_t rfl rfl ?_
                refine CodeJ.seq' ?_
                refine CodeJ.region ?_
                refine OpsJ.put rfl (OpJ.pure (OpP.assign rfl) ?_)
                refine OpsJ.nil ?_
                refine CodeJ.ret' ?_
                obtain rfl := Option.some.inj h55
                exact Ret.mk0 ⟨rfl, rfl⟩ (ResJ.one Try.results5 rfl) (IM.le_refl _) (SubL.nil _)
            · rw [if_neg hc48] at h47
              refine OpsJ.guard_n rfl rfl rfl rfl (Bool.eq_false_iff.2 hc48) ?_
              refine OpsJ.guard_n rfl rfl rfl rfl (Bool.eq_false_iff.2 hc48) ?_
              refine OpsJ.guard_n rfl rfl rfl rfl (Bool.eq_false_iff.2 hc48) ?_
              refine OpsJ.guard_n rfl rfl rfl rfl (Bool.eq_false_iff.2 hc48) ?_
              refine OpsJ.guard_y rfl rfl rfl rfl (congrArg Bool.not hc41) ?_
              refine OpsJ.put rfl (OpJ.pure (OpP.pick_f rfl (Bool.eq_false_iff.2 hc48) rfl) ?_)
              refine OpsJ.put rfl (OpJ.pure (OpP.pick_f rfl (congrArg Bool.not hc41) rfl) ?_)
              refine OpsJ.put rfl (OpJ.pure (OpP.move rfl) ?_)
              refine OpsJ.guard_y rfl rfl rfl rfl rfl ?_
              refine OpsJ.put rfl (OpJ.pure (OpP.move rfl) ?_)
              refine OpsJ.guard_y rfl rfl rfl rfl rfl ?_
              refine OpsJ.put rfl (OpJ.pure (OpP.len rfl) ?_)
              refine OpsJ.guard_y rfl rfl rfl rfl rfl ?_
              refine OpsJ.put rfl (OpJ.pure (OpP.move rfl) ?_)
              refine OpsJ.guard_y rfl rfl rfl rfl rfl ?_
              refine OpsJ.put rfl (OpJ.pure (OpP.len rfl) ?_)
              refine OpsJ.guard_y rfl rfl rfl rfl rfl ?_
              refine OpsJ.put rfl (OpJ.pure (OpP.neq rfl rfl) ?_)
              refine OpsJ.put rfl (OpJ.pure (OpP.pick_f rfl rfl rfl) ?_)
              refine OpsJ.nil ?_
              by_cases hc197 : ((y26.length : Nat) : Int) ≠ ((p0_t.length : Nat) : Int)
              · rw [if_pos hc197] at h47
                refine CodeJ.cond_t rfl (decide_eq_true hc197) ?_
                refine CodeJ.seq' ?_
                refine CodeJ.region ?_
                refine OpsJ.put rfl (OpJ.pure (OpP.assign rfl) ?_)
                refine OpsJ.nil ?_
                refine CodeJ.ret' ?_
                obtain rfl := Option.some.inj h47
                exact Ret.mk0 ⟨rfl, rfl⟩ (ResJ.one Try.results5 rfl) (IM.le_refl _) (SubL.nil _)
              · rw [if_neg hc197] at h47
                refine CodeJ.cond_f rfl (decide_eq_false hc197) ?_
                refine CodeJ.skip ?_
                refine CodeJ.seq' ?_
                refine CodeJ.seq' ?_
                refine CodeJ.region ?_
                refine OpsJ.put rfl (OpJ.pure (OpP.assign rfl) ?_)
                refine OpsJ.nil ?_
                obtain ⟨t277, hl278, h279⟩ := bind_ok h47
                clear h47
                refine CodeJ.mid (fun e s => .inr () = t277 ∧ e = [(1, .slice A1_ p1_l.length c1_), (7, .slice A29 y26.length c30)] ∧ s = ⟨R, [.row 41 2 A29 y26.length c30 cs31]⟩) ?_ ?_
                · refine CodeJ.block ?_
                  refine CodeJ.loopM hl278 (fun i_249 e s => e = [(0, .slice A0_ p0_t.length c0_), (1, .slice A1_ p1_l.length c1_), (7, .slice A29 y26.length c30), (8, .int .i64 i_249)] ∧ s = ⟨R, [.row 41 2 A29 y26.length c30 cs31]⟩) ⟨rfl, rfl⟩ (SubE.cons rfl (SubE.cons rfl (SubE.cons rfl (SubE.cons rfl (SubE.nil _))))) (SubL.p0 (SubL.nil _)) ?_
                  rintro i_249 _ _ _ ⟨rfl, rfl⟩ h275 hne276
                  (try dsimp only at h275); unfold winnowerlaw14_PartMerges_l0 at h275
                  refine CodeJ.seq' ?_
                  refine CodeJ.seq' ?_
                  refine CodeJ.region ?_
                  refine OpsJ.put rfl (OpJ.pure (OpP.move rfl) ?_)
                  refine OpsJ.put rfl (OpJ.pure (OpP.move rfl) ?_)
                  refine OpsJ.put rfl (OpJ.pure (OpP.len rfl) ?_)
                  refine OpsJ.put rfl (OpJ.pure (OpP.lss rfl rfl) ?_)
                  refine OpsJ.nil ?_
                  by_cases hc280 : i_249 < ((p0_t.length : Nat) : Int)
                  · rw [if_pos hc280] at h275
                    refine CodeJ.cond_t rfl (decide_eq_true hc280) ?_
                    refine CodeJ.skip ?_
                    refine CodeJ.seq' ?_
                    refine CodeJ.block ?_
                    refine CodeJ.seq' ?_
                    refine CodeJ.drawn (by kernel_rfl) (by kernel_rfl) ?_
                    refine QuietJ.put rfl (OpQ.pure (OpP.move rfl) ?_)
                    refine QuietJ.put rfl (OpQ.pure (OpP.move rfl) ?_)
                    obtain ⟨x281, hx282, h283⟩ := bind_ok h275
                    clear h275
                    have hE284 : ∀ j v, ([.bool x281.1, .string x281.2] : List Value)[j]? = some v → (cs31)[Int.toNat i_249 * Dat.size (Bool × ByteArray) + j]? = some v := row_getF (α := Bool × ByteArray) hr32 hx282
                    refine QuietJ.put rfl (OpQ.pure (OpP.ixW (List.Mem.head _) hr32 rfl hx282 (by exact rfl) (by exact rfl) rfl rfl) ?_)
                    refine QuietJ.put rfl (OpQ.pure (OpP.fldAddr rfl (by exact rfl)) ?_)
                    refine QuietJ.put rfl (OpQ.pure (OpP.ldW (by exact rfl) (List.Mem.head _) hE284 rfl rfl) ?_)
                    refine QuietJ.put rfl (OpQ.pure (OpP.move rfl) ?_)
                    refine QuietJ.put rfl (OpQ.pure (OpP.move rfl) ?_)
                    obtain ⟨x285, hx286, h287⟩ := bind_ok h283
                    clear h283
                    have hE288 : RC _ (some ((adr A0_).add (Int.toNat i_249 * Dat.size (Bool × ByteArray)))) [.bool x285.1, .string x285.2] := SlR.getF (α := Bool × ByteArray) hA0_ hx286
                    refine QuietJ.put rfl (OpQ.pure (OpP.ixR hA0_ rfl hx286 (by exact rfl) (by exact rfl) rfl rfl) ?_)
                    refine QuietJ.put rfl (OpQ.pure (OpP.fldAddr rfl (by exact rfl)) ?_)
                    refine QuietJ.put rfl (OpQ.pure (OpP.ldR (by exact rfl) hE288 (IM.le_refl _) rfl rfl) ?_)
                    refine QuietJ.put rfl (OpQ.pure (OpP.move rfl) ?_)
                    by_cases hc289 : x285.1 = true
                    · rw [if_pos hc289] at h287
                      refine QuietJ.guard_n rfl rfl rfl rfl hc289 ?_
                      refine QuietJ.guard_n rfl rfl rfl rfl hc289 ?_
                      refine QuietJ.guard_n rfl rfl rfl rfl hc289 ?_
                      refine QuietJ.guard_n rfl rfl rfl rfl hc289 ?_
                      refine QuietJ.guard_n rfl rfl rfl rfl hc289 ?_
                      refine QuietJ.guard_n rfl rfl rfl rfl hc289 ?_
                      refine QuietJ.guard_n rfl rfl rfl rfl hc289 ?_
                      refine QuietJ.guard_n rfl rfl rfl rfl hc289 ?_
                      refine QuietJ.guard_n rfl rfl rfl rfl hc289 ?_
                      refine QuietJ.guard_n rfl rfl rfl rfl hc289 ?_
                      refine QuietJ.guard_n rfl rfl rfl rfl hc289 ?_
                      refine QuietJ.put rfl (OpQ.pure (OpP.pick_t rfl hc289 rfl) ?_)
                      refine QuietJ.put rfl (OpQ.pure (OpP.neq_bool rfl rfl) ?_)
                      refine QuietJ.put rfl (OpQ.pure (OpP.move rfl) ?_)
                      by_cases hc290 : (!(x281.1 == true)) = true
                      · rw [if_pos hc290] at h287
                        refine QuietJ.guard_n rfl rfl rfl rfl hc290 ?_
                        refine QuietJ.guard_n rfl rfl rfl rfl hc290 ?_
                        refine QuietJ.guard_n rfl rfl rfl rfl hc290 ?_
                        refine QuietJ.guard_n rfl rfl rfl rfl hc290 ?_
                        refine QuietJ.guard_n rfl rfl rfl rfl hc290 ?_
                        refine QuietJ.guard_n rfl rfl rfl rfl hc290 ?_
                        refine QuietJ.gund rfl rfl rfl rfl ?_
                        refine QuietJ.gund rfl rfl rfl rfl ?_
                        refine QuietJ.gund rfl rfl rfl rfl ?_
                        refine QuietJ.gund rfl rfl rfl rfl ?_
                        refine QuietJ.gund rfl rfl rfl rfl ?_
                        refine QuietJ.gund rfl rfl rfl rfl ?_
                        refine QuietJ.guard_n rfl rfl rfl rfl hc290 ?_
                        refine QuietJ.put rfl (OpQ.pure (OpP.pick_t rfl hc290 rfl) ?_)
                        refine QuietJ.nil ?_
                        refine CodeJ.cond_t rfl rfl ?_
                        refine CodeJ.seq' ?_
                        refine CodeJ.region ?_
                        refine OpsJ.put rfl (OpJ.pure (OpP.assign rfl) ?_)
                        refine OpsJ.nil ?_
                        obtain rfl := Option.some.inj h287
                        have ht291 := hne276 _ rfl
                        subst ht291
                        simp only [Sum.elim_inl] at h279
                        refine CodeJ.ret' ?_
                        obtain rfl := Option.some.inj h279
                        exact Ret.mk0 ⟨rfl, rfl⟩ (ResJ.one Try.results5 rfl) (IM.le_refl _) (SubL.nil _)
                      · rw [if_neg hc290] at h287
                        refine QuietJ.guard_y rfl rfl rfl rfl (Bool.eq_false_iff.2 hc290) ?_
                        refine QuietJ.put rfl (OpQ.pure (OpP.move rfl) ?_)
                        refine QuietJ.guard_y rfl rfl rfl rfl (Bool.eq_false_iff.2 hc290) ?_
                        refine QuietJ.put rfl (OpQ.pure (OpP.move rfl) ?_)
                        refine QuietJ.guard_y rfl rfl rfl rfl (Bool.eq_false_iff.2 hc290) ?_
                        have hE292 : ∀ j v, ([.bool x281.1, .string x281.2] : List Value)[j]? = some v → (cs31)[Int.toNat i_249 * Dat.size (Bool × ByteArray) + j]? = some v := row_getF (α := Bool × ByteArray) hr32 hx282
                        refine QuietJ.put rfl (OpQ.pure (OpP.ixW (List.Mem.head _) hr32 rfl hx282 (by exact rfl) (by exact rfl) rfl rfl) ?_)
                        refine QuietJ.guard_y rfl rfl rfl rfl (Bool.eq_false_iff.2 hc290) ?_
                        refine QuietJ.put rfl (OpQ.pure (OpP.fldAddr rfl (by exact rfl)) ?_)
                        refine QuietJ.guard_y rfl rfl rfl rfl (Bool.eq_false_iff.2 hc290) ?_
                        refine QuietJ.put rfl (OpQ.pure (OpP.ldW (by exact rfl) (List.Mem.head _) hE292 rfl rfl) ?_)
                        refine QuietJ.guard_y rfl rfl rfl rfl (Bool.eq_false_iff.2 hc290) ?_
                        refine QuietJ.put rfl (OpQ.pure (OpP.move rfl) ?_)
                        by_cases hc293 : x281.1 = true
                        · rw [if_pos hc293] at h287
                          refine QuietJ.guard_y rfl rfl rfl rfl hc293 ?_
                          refine QuietJ.put rfl (OpQ.pure (OpP.move rfl) ?_)
                          refine QuietJ.guard_y rfl rfl rfl rfl hc293 ?_
                          refine QuietJ.put rfl (OpQ.pure (OpP.move rfl) ?_)
                          refine QuietJ.guard_y rfl rfl rfl rfl hc293 ?_
                          have hE294 : ∀ j v, ([.bool x281.1, .string x281.2] : List Value)[j]? = some v → (cs31)[Int.toNat i_249 * Dat.size (Bool × ByteArray) + j]? = some v := row_getF (α := Bool × ByteArray) hr32 hx282
                          refine QuietJ.put rfl (OpQ.pure (OpP.ixW (List.Mem.head _) hr32 rfl hx282 (by exact rfl) (by exact rfl) rfl rfl) ?_)
                          refine QuietJ.guard_y rfl rfl rfl rfl hc293 ?_
                          refine QuietJ.put rfl (OpQ.pure (OpP.fldAddr rfl (by exact rfl)) ?_)
                          refine QuietJ.guard_y rfl rfl rfl rfl hc293 ?_
                          refine QuietJ.put rfl (OpQ.pure (OpP.ldW (by exact rfl) (List.Mem.head _) hE294 rfl rfl) ?_)
                          refine QuietJ.guard_y rfl rfl rfl rfl hc293 ?_
                          refine QuietJ.put rfl (OpQ.pure (OpP.neqS rfl rfl) ?_)
                          refine QuietJ.guard_y rfl rfl rfl rfl (Bool.eq_false_iff.2 hc290) ?_
                          refine QuietJ.put rfl (OpQ.pure (OpP.pick_t rfl hc293 rfl) ?_)
                          refine QuietJ.put rfl (OpQ.pure (OpP.pick_f rfl (Bool.eq_false_iff.2 hc290) rfl) ?_)
                          refine QuietJ.nil ?_
                          by_cases hc295 : x281.2 ≠ (⟨#[]⟩ : ByteArray)
                          · rw [if_pos hc295] at h287
                            refine CodeJ.cond_t rfl (decide_eq_true hc295) ?_
                            refine CodeJ.seq' ?_
                            refine CodeJ.region ?_
                            refine OpsJ.put rfl (OpJ.pure (OpP.assign rfl) ?_)
                            refine OpsJ.nil ?_
                            obtain rfl := Option.some.inj h287
                            have ht296 := hne276 _ rfl
                            subst ht296
                            simp only [Sum.elim_inl] at h279
                            refine CodeJ.ret' ?_
                            obtain rfl := Option.some.inj h279
                            exact Ret.mk0 ⟨rfl, rfl⟩ (ResJ.one Try.results5 rfl) (IM.le_refl _) (SubL.nil _)
                          · rw [if_neg hc295] at h287
                            refine CodeJ.cond_f rfl (decide_eq_false hc295) ?_
                            refine CodeJ.skip ?_
                            refine CodeJ.region ?_
                            refine OpsJ.put rfl (OpJ.pure (OpP.move rfl) ?_)
                            refine OpsJ.put rfl (OpJ.pure (OpP.add64 rfl rfl) ?_)
                            refine OpsJ.put rfl (OpJ.pure (OpP.assign rfl) ?_)
                            refine OpsJ.nil ?_
                            obtain rfl := Option.some.inj h287
                            exact ⟨_, _, _, _, rfl, ⟨rfl, rfl⟩, IM.le_refl _, (SubE.cons rfl (SubE.cons rfl (SubE.cons rfl (SubE.cons rfl (SubE.nil _))))), (SubL.p0 (SubL.nil _))⟩
                        · rw [if_neg hc293] at h287
                          refine QuietJ.guard_n rfl rfl rfl rfl (Bool.eq_false_iff.2 hc293) ?_
                          refine QuietJ.guard_n rfl rfl rfl rfl (Bool.eq_false_iff.2 hc293) ?_
                          refine QuietJ.guard_n rfl rfl rfl rfl (Bool.eq_false_iff.2 hc293) ?_
                          refine QuietJ.guard_n rfl rfl rfl rfl (Bool.eq_false_iff.2 hc293) ?_
                          refine QuietJ.guard_n rfl rfl rfl rfl (Bool.eq_false_iff.2 hc293) ?_
                          refine QuietJ.guard_n rfl rfl rfl rfl (Bool.eq_false_iff.2 hc293) ?_
                          refine QuietJ.guard_y rfl rfl rfl rfl (Bool.eq_false_iff.2 hc290) ?_
                          refine QuietJ.put rfl (OpQ.pure (OpP.pick_f rfl (Bool.eq_false_iff.2 hc293) rfl) ?_)
                          refine QuietJ.put rfl (OpQ.pure (OpP.pick_f rfl (Bool.eq_false_iff.2 hc290) rfl) ?_)
                          refine QuietJ.nil ?_
                          refine CodeJ.cond_f rfl rfl ?_
                          refine CodeJ.skip ?_
                          refine CodeJ.region ?_
                          refine OpsJ.put rfl (OpJ.pure (OpP.move rfl) ?_)
                          refine OpsJ.put rfl (OpJ.pure (OpP.add64 rfl rfl) ?_)
                          refine OpsJ.put rfl (OpJ.pure (OpP.assign rfl) ?_)
                          refine OpsJ.nil ?_
                          obtain rfl := Option.some.inj h287
                          exact ⟨_, _, _, _, rfl, ⟨rfl, rfl⟩, IM.le_refl _, (SubE.cons rfl (SubE.cons rfl (SubE.cons rfl (SubE.cons rfl (SubE.nil _))))), (SubL.p0 (SubL.nil _))⟩
                    · rw [if_neg hc289] at h287
                      refine QuietJ.guard_y rfl rfl rfl rfl (Bool.eq_false_iff.2 hc289) ?_
                      refine QuietJ.put rfl (OpQ.pure (OpP.move rfl) ?_)
                      refine QuietJ.guard_y rfl rfl rfl rfl (Bool.eq_false_iff.2 hc289) ?_
                      refine QuietJ.put rfl (OpQ.pure (OpP.move rfl) ?_)
                      refine QuietJ.guard_y rfl rfl rfl rfl (Bool.eq_false_iff.2 hc289) ?_
                      have hE297 : RC _ (some ((adr A0_).add (Int.toNat i_249 * Dat.size (Bool × ByteArray)))) [.bool x285.1, .string x285.2] := SlR.getF (α := Bool × ByteArray) hA0_ hx286
                      refine QuietJ.put rfl (OpQ.pure (OpP.ixR hA0_ rfl hx286 (by exact rfl) (by exact rfl) rfl rfl) ?_)
                      refine QuietJ.guard_y rfl rfl rfl rfl (Bool.eq_false_iff.2 hc289) ?_
                      refine QuietJ.put rfl (OpQ.pure (OpP.fldAddr rfl (by exact rfl)) ?_)
                      refine QuietJ.guard_y rfl rfl rfl rfl (Bool.eq_false_iff.2 hc289) ?_
                      refine QuietJ.put rfl (OpQ.pure (OpP.ldR (by exact rfl) hE297 (IM.le_refl _) rfl rfl) ?_)
                      refine QuietJ.guard_y rfl rfl rfl rfl (Bool.eq_false_iff.2 hc289) ?_
                      refine QuietJ.put rfl (OpQ.pure (OpP.move rfl) ?_)
                      refine QuietJ.guard_y rfl rfl rfl rfl (Bool.eq_false_iff.2 hc289) ?_
                      refine QuietJ.put rfl (OpQ.pure (OpP.move rfl) ?_)
                      refine QuietJ.guard_y rfl rfl rfl rfl (Bool.eq_false_iff.2 hc289) ?_
                      obtain ⟨x298, hx299, h300⟩ := bind_ok h287
                      clear h287
                      have hE301 : RC _ (some ((adr A1_).add (Int.toNat i_249 * Dat.size (Int × ByteArray)))) [.int .i64 x298.1, .string x298.2] := SlR.getF (α := Int × ByteArray) hA1_ hx299
                      refine QuietJ.put rfl (OpQ.pure (OpP.ixR hA1_ rfl hx299 (by exact rfl) (by exact rfl) rfl rfl) ?_)
                      refine QuietJ.guard_y rfl rfl rfl rfl (Bool.eq_false_iff.2 hc289) ?_
                      refine QuietJ.put rfl (OpQ.pure (OpP.fldAddr rfl (by exact rfl)) ?_)
                      refine QuietJ.guard_y rfl rfl rfl rfl (Bool.eq_false_iff.2 hc289) ?_
                      refine QuietJ.put rfl (OpQ.pure (OpP.ldR (by exact rfl) hE301 (IM.le_refl _) rfl rfl) ?_)
                      refine QuietJ.guard_y rfl rfl rfl rfl (Bool.eq_false_iff.2 hc289) ?_
                      refine QuietJ.put rfl (OpQ.pure (OpP.neqS rfl rfl) ?_)
                      refine QuietJ.put rfl (OpQ.pure (OpP.pick_f rfl (Bool.eq_false_iff.2 hc289) rfl) ?_)
                      refine QuietJ.put rfl (OpQ.pure (OpP.neq_bool rfl rfl) ?_)
                      refine QuietJ.put rfl (OpQ.pure (OpP.move rfl) ?_)
                      by_cases hc302 : (!(x281.1 == decide (x285.2 ≠ x298.2))) = true
                      · rw [if_pos hc302] at h300
                        refine QuietJ.guard_n rfl rfl rfl rfl hc302 ?_
                        refine QuietJ.guard_n rfl rfl rfl rfl hc302 ?_
                        refine QuietJ.guard_n rfl rfl rfl rfl hc302 ?_
                        refine QuietJ.guard_n rfl rfl rfl rfl hc302 ?_
                        refine QuietJ.guard_n rfl rfl rfl rfl hc302 ?_
                        refine QuietJ.guard_n rfl rfl rfl rfl hc302 ?_
                        refine QuietJ.gund rfl rfl rfl rfl ?_
                        refine QuietJ.gund rfl rfl rfl rfl ?_
                        refine QuietJ.gund rfl rfl rfl rfl ?_
                        refine QuietJ.gund rfl rfl rfl rfl ?_
                        refine QuietJ.gund rfl rfl rfl rfl ?_
                        refine QuietJ.gund rfl rfl rfl rfl ?_
                        refine QuietJ.guard_n rfl rfl rfl rfl hc302 ?_
                        refine QuietJ.put rfl (OpQ.pure (OpP.pick_t rfl hc302 rfl) ?_)
                        refine QuietJ.nil ?_
                        refine CodeJ.cond_t rfl rfl ?_
                        refine CodeJ.seq' ?_
                        refine CodeJ.region ?_
                        refine OpsJ.put rfl (OpJ.pure (OpP.assign rfl) ?_)
                        refine OpsJ.nil ?_
                        obtain rfl := Option.some.inj h300
                        have ht303 := hne276 _ rfl
                        subst ht303
                        simp only [Sum.elim_inl] at h279
                        refine CodeJ.ret' ?_
                        obtain rfl := Option.some.inj h279
                        exact Ret.mk0 ⟨rfl, rfl⟩ (ResJ.one Try.results5 rfl) (IM.le_refl _) (SubL.nil _)
                      · rw [if_neg hc302] at h300
                        refine QuietJ.guard_y rfl rfl rfl rfl (Bool.eq_false_iff.2 hc302) ?_
                        refine QuietJ.put rfl (OpQ.pure (OpP.move rfl) ?_)
                        refine QuietJ.guard_y rfl rfl rfl rfl (Bool.eq_false_iff.2 hc302) ?_
                        refine QuietJ.put rfl (OpQ.pure (OpP.move rfl) ?_)
                        refine QuietJ.guard_y rfl rfl rfl rfl (Bool.eq_false_iff.2 hc302) ?_
                        have hE304 : ∀ j v, ([.bool x281.1, .string x281.2] : List Value)[j]? = some v → (cs31)[Int.toNat i_249 * Dat.size (Bool × ByteArray) + j]? = some v := row_getF (α := Bool × ByteArray) hr32 hx282
                        refine QuietJ.put rfl (OpQ.pure (OpP.ixW (List.Mem.head _) hr32 rfl hx282 (by exact rfl) (by exact rfl) rfl rfl) ?_)
                        refine QuietJ.guard_y rfl rfl rfl rfl (Bool.eq_false_iff.2 hc302) ?_
                        refine QuietJ.put rfl (OpQ.pure (OpP.fldAddr rfl (by exact rfl)) ?_)
                        refine QuietJ.guard_y rfl rfl rfl rfl (Bool.eq_false_iff.2 hc302) ?_
                        refine QuietJ.put rfl (OpQ.pure (OpP.ldW (by exact rfl) (List.Mem.head _) hE304 rfl rfl) ?_)
                        refine QuietJ.guard_y rfl rfl rfl rfl (Bool.eq_false_iff.2 hc302) ?_
                        refine QuietJ.put rfl (OpQ.pure (OpP.move rfl) ?_)
                        by_cases hc305 : x281.1 = true
                        · rw [if_pos hc305] at h300
                          refine QuietJ.guard_y rfl rfl rfl rfl hc305 ?_
                          refine QuietJ.put rfl (OpQ.pure (OpP.move rfl) ?_)
                          refine QuietJ.guard_y rfl rfl rfl rfl hc305 ?_
                          refine QuietJ.put rfl (OpQ.pure (OpP.move rfl) ?_)
                          refine QuietJ.guard_y rfl rfl rfl rfl hc305 ?_
                          have hE306 : ∀ j v, ([.bool x281.1, .string x281.2] : List Value)[j]? = some v → (cs31)[Int.toNat i_249 * Dat.size (Bool × ByteArray) + j]? = some v := row_getF (α := Bool × ByteArray) hr32 hx282
                          refine QuietJ.put rfl (OpQ.pure (OpP.ixW (List.Mem.head _) hr32 rfl hx282 (by exact rfl) (by exact rfl) rfl rfl) ?_)
                          refine QuietJ.guard_y rfl rfl rfl rfl hc305 ?_
                          refine QuietJ.put rfl (OpQ.pure (OpP.fldAddr rfl (by exact rfl)) ?_)
                          refine QuietJ.guard_y rfl rfl rfl rfl hc305 ?_
                          refine QuietJ.put rfl (OpQ.pure (OpP.ldW (by exact rfl) (List.Mem.head _) hE306 rfl rfl) ?_)
                          refine QuietJ.guard_y rfl rfl rfl rfl hc305 ?_
                          refine QuietJ.put rfl (OpQ.pure (OpP.neqS rfl rfl) ?_)
                          refine QuietJ.guard_y rfl rfl rfl rfl (Bool.eq_false_iff.2 hc302) ?_
                          refine QuietJ.put rfl (OpQ.pure (OpP.pick_t rfl hc305 rfl) ?_)
                          refine QuietJ.put rfl (OpQ.pure (OpP.pick_f rfl (Bool.eq_false_iff.2 hc302) rfl) ?_)
                          refine QuietJ.nil ?_
                          by_cases hc307 : x281.2 ≠ (⟨#[]⟩ : ByteArray)
                          · rw [if_pos hc307] at h300
                            refine CodeJ.cond_t rfl (decide_eq_true hc307) ?_
                            refine CodeJ.seq' ?_
                            refine CodeJ.region ?_
                            refine OpsJ.put rfl (OpJ.pure (OpP.assign rfl) ?_)
                            refine OpsJ.nil ?_
                            obtain rfl := Option.some.inj h300
                            have ht308 := hne276 _ rfl
                            subst ht308
                            simp only [Sum.elim_inl] at h279
                            refine CodeJ.ret' ?_
                            obtain rfl := Option.some.inj h279
                            exact Ret.mk0 ⟨rfl, rfl⟩ (ResJ.one Try.results5 rfl) (IM.le_refl _) (SubL.nil _)
                          · rw [if_neg hc307] at h300
                            refine CodeJ.cond_f rfl (decide_eq_false hc307) ?_
                            refine CodeJ.skip ?_
                            refine CodeJ.region ?_
                            refine OpsJ.put rfl (OpJ.pure (OpP.move rfl) ?_)
                            refine OpsJ.put rfl (OpJ.pure (OpP.add64 rfl rfl) ?_)
                            refine OpsJ.put rfl (OpJ.pure (OpP.assign rfl) ?_)
                            refine OpsJ.nil ?_
                            obtain rfl := Option.some.inj h300
                            exact ⟨_, _, _, _, rfl, ⟨rfl, rfl⟩, IM.le_refl _, (SubE.cons rfl (SubE.cons rfl (SubE.cons rfl (SubE.cons rfl (SubE.nil _))))), (SubL.p0 (SubL.nil _))⟩
                        · rw [if_neg hc305] at h300
                          refine QuietJ.guard_n rfl rfl rfl rfl (Bool.eq_false_iff.2 hc305) ?_
                          refine QuietJ.guard_n rfl rfl rfl rfl (Bool.eq_false_iff.2 hc305) ?_
                          refine QuietJ.guard_n rfl rfl rfl rfl (Bool.eq_false_iff.2 hc305) ?_
                          refine QuietJ.guard_n rfl rfl rfl rfl (Bool.eq_false_iff.2 hc305) ?_
                          refine QuietJ.guard_n rfl rfl rfl rfl (Bool.eq_false_iff.2 hc305) ?_
                          refine QuietJ.guard_n rfl rfl rfl rfl (Bool.eq_false_iff.2 hc305) ?_
                          refine QuietJ.guard_y rfl rfl rfl rfl (Bool.eq_false_iff.2 hc302) ?_
                          refine QuietJ.put rfl (OpQ.pure (OpP.pick_f rfl (Bool.eq_false_iff.2 hc305) rfl) ?_)
                          refine QuietJ.put rfl (OpQ.pure (OpP.pick_f rfl (Bool.eq_false_iff.2 hc302) rfl) ?_)
                          refine QuietJ.nil ?_
                          refine CodeJ.cond_f rfl rfl ?_
                          refine CodeJ.skip ?_
                          refine CodeJ.region ?_
                          refine OpsJ.put rfl (OpJ.pure (OpP.move rfl) ?_)
                          refine OpsJ.put rfl (OpJ.pure (OpP.add64 rfl rfl) ?_)
                          refine OpsJ.put rfl (OpJ.pure (OpP.assign rfl) ?_)
                          refine OpsJ.nil ?_
                          obtain rfl := Option.some.inj h300
                          exact ⟨_, _, _, _, rfl, ⟨rfl, rfl⟩, IM.le_refl _, (SubE.cons rfl (SubE.cons rfl (SubE.cons rfl (SubE.cons rfl (SubE.nil _))))), (SubL.p0 (SubL.nil _))⟩
                  · rw [if_neg hc280] at h275
                    refine CodeJ.cond_f rfl (decide_eq_false hc280) ?_
                    refine CodeJ.exit rfl ?_
                    obtain rfl := Option.some.inj h275
                    have ht309 := hne276 _ rfl
                    exact ⟨_, _, _, ⟨ht309, rfl, rfl⟩, IM.le_refl _, (SubE.cons rfl (SubE.cons rfl (SubE.nil _))), (SubL.p0 (SubL.nil _))⟩
                · rintro _ _ ⟨rfl, rfl, rfl⟩
                  simp only [Sum.elim_inr] at h279
                  refine CodeJ.seq' ?_
                  refine CodeJ.region ?_
                  refine OpsJ.put rfl (OpJ.pure (OpP.move rfl) ?_)
                  refine OpsJ.put rfl (OpJ.pure (OpP.move rfl) ?_)
                  refine OpsJ.rowle (List.Perm.refl _) (fun hcap310 _ => ?_)
                  obtain ⟨y314, hy315, h316⟩ := bind_ok h279
                  clear h279
                  refine OpsJ.put rfl (OpJ.call1 rfl (fun R311 hle312 hin313 => part_Merge_w R311 A29 y26.length c30 y26 (SlR.of_row (inRow hin313 (List.Mem.head _)) hr32 (IM.le_nil _)) rfl hcap310 A1_ p1_l.length c1_ p1_l (SlR.mono hA1_ (IM.le_trans (IM.le_refl _) hle312)) rfl hc1_  _ hy315) ?_)
                  rintro _ _ _ ⟨A317, c318, cs319, rfl, hr320, rfl⟩
                  refine OpsJ.put rfl (OpJ.pure (OpP.move rfl) ?_)
                  refine OpsJ.rowle (List.Perm.refl _) (fun hcap322 _ => ?_)
                  refine OpsJ.rowle (List.Perm.swap _ _ _) (fun hcap323 _ => ?_)
                  obtain ⟨y327, hy328, h329⟩ := bind_ok h316
                  clear h316
                  refine OpsJ.put rfl (OpJ.call0 rfl (fun R324 hle325 hin326 => winnowerref14_Same_w R324 A317 y314.length c318 y314 (SlR.of_row (inRow hin326 (List.Mem.head _)) hr320 (IM.le_nil _)) rfl hcap322 A29 y26.length c30 y26 (SlR.of_row (inRow hin326 (List.Mem.tail _ (List.Mem.head _))) hr32 (IM.le_nil _)) rfl hcap323  _ hy328) ?_)
                  rintro _ _ _ ⟨rfl, rfl⟩
                  refine OpsJ.put rfl (OpJ.pure (OpP.move rfl) ?_)
                  by_cases hc330 : y327 = true
                  · rw [if_pos hc330] at h329
                    refine OpsJ.guard_y rfl rfl rfl rfl hc330 ?_
                    obtain ⟨y334, hy335, h336⟩ := bind_ok h329
                    clear h329
                    refine OpsJ.put rfl (OpJ.call0 rfl (fun R331 hle332 hin333 => winnowerlaw14_known_w R331   _ hy335) ?_)
                    rintro _ _ _ ⟨rfl, rfl⟩
                    refine OpsJ.put rfl (OpJ.pure (OpP.pick_t rfl hc330 rfl) ?_)
                    refine OpsJ.put rfl (OpJ.pure (OpP.assign rfl) ?_)
                    refine OpsJ.nil ?_
                    refine CodeJ.ret' ?_
                    obtain rfl := Option.some.inj h336
                    exact Ret.mk0 ⟨rfl, rfl⟩ (ResJ.one Try.results5 rfl) (IM.le_refl _) (SubL.nil _)
                  · rw [if_neg hc330] at h329
                    refine OpsJ.guard_n rfl rfl rfl rfl (Bool.eq_false_iff.2 hc330) ?_
                    refine OpsJ.put rfl (OpJ.pure (OpP.pick_f rfl (Bool.eq_false_iff.2 hc330) rfl) ?_)
                    refine OpsJ.put rfl (OpJ.pure (OpP.assign rfl) ?_)
                    refine OpsJ.nil ?_
                    refine CodeJ.ret' ?_
                    obtain rfl := Option.some.inj h329
                    exact Ret.mk0 ⟨rfl, rfl⟩ (ResJ.one Try.results5 rfl) (IM.le_refl _) (SubL.nil _)
          · rw [if_neg hc41] at h40
            refine OpsJ.guard_n rfl rfl rfl rfl (congrArg Bool.not (Bool.eq_false_iff.2 hc41)) ?_
            refine OpsJ.guard_n rfl rfl rfl rfl (congrArg Bool.not (Bool.eq_false_iff.2 hc41)) ?_
            refine OpsJ.guard_n rfl rfl rfl rfl (congrArg Bool.not (Bool.eq_false_iff.2 hc41)) ?_
            refine OpsJ.guard_n rfl rfl rfl rfl (congrArg Bool.not (Bool.eq_false_iff.2 hc41)) ?_
            refine OpsJ.gund rfl rfl rfl rfl ?_
            refine OpsJ.gund rfl rfl rfl rfl ?_
            refine OpsJ.gund rfl rfl rfl rfl ?_
            refine OpsJ.gund rfl rfl rfl rfl ?_
            refine OpsJ.guard_n rfl rfl rfl rfl (congrArg Bool.not (Bool.eq_false_iff.2 hc41)) ?_
            refine OpsJ.put rfl (OpJ.pure (OpP.pick_t rfl (congrArg Bool.not (Bool.eq_false_iff.2 hc41)) rfl) ?_)
            refine OpsJ.put rfl (OpJ.pure (OpP.move rfl) ?_)
            refine OpsJ.guard_n rfl rfl rfl rfl rfl ?_
            refine OpsJ.guard_n rfl rfl rfl rfl rfl ?_
            refine OpsJ.guard_n rfl rfl rfl rfl rfl ?_
            refine OpsJ.guard_n rfl rfl rfl rfl rfl ?_
            refine OpsJ.guard_n rfl rfl rfl rfl rfl ?_
            refine OpsJ.put rfl (OpJ.pure (OpP.pick_t rfl rfl rfl) ?_)
            refine OpsJ.nil ?_
            refine CodeJ.cond_t rfl rfl ?_
            refine CodeJ.seq' ?_
            refine CodeJ.region ?_
            refine OpsJ.put rfl (OpJ.pure (OpP.assign rfl) ?_)
            refine OpsJ.nil ?_
            refine CodeJ.ret' ?_
            obtain rfl := Option.some.inj h40
            exact Ret.mk0 ⟨rfl, rfl⟩ (ResJ.one Try.results5 rfl) (IM.le_refl _) (SubL.nil _)
theorem winnowerlaw14_PartWilder_w (R : IM) (A0_ : Option Addr) (n0_ c0_ : Nat) (p0_t : List (Bool × ByteArray)) (hA0_ : SlR R A0_ p0_t) (hn0_ : p0_t.length = n0_) (hc0_ : n0_ ≤ c0_) (A1_ : Option Addr) (n1_ c1_ : Nat) (p1_a : List (Int × ByteArray)) (hA1_ : SlR R A1_ p1_a) (hn1_ : p1_a.length = n1_) (hc1_ : n1_ ≤ c1_) (A2_ : Option Addr) (n2_ c2_ : Nat) (p2_b : List (Int × ByteArray)) (hA2_ : SlR R A2_ p2_b) (hn2_ : p2_b.length = n2_) (hc2_ : n2_ ≤ c2_) (y : Bool) (h : winnowerlaw14_PartWilder p0_t p1_a p2_b = some y) :
    CallJ Try.prog 6 #[.slice A0_ n0_ c0_, .slice A1_ n1_ c1_, .slice A2_ n2_ c2_] ⟨R, []⟩ (fun v D hs' => v = .bool y ∧ hs' = []) := by
  subst hn0_
  subst hn1_
  subst hn2_
  unfold winnowerlaw14_PartWilder at h
  refine CallJ.of3 Try.func6 rfl Try.ntmps6 rfl (fun W0 => ?_)
  refine CodeJ.seq' ?_
  refine CodeJ.region ?_
  refine OpsJ.put rfl (OpJ.pure (OpP.assign rfl) ?_)
  refine OpsJ.nil ?_
  refine CodeJ.seq' ?_
  refine CodeJ.seq' ?_
  refine CodeJ.region ?_
  refine OpsJ.put rfl (OpJ.pure (OpP.move rfl) ?_)
  obtain ⟨y4, hy5, h6⟩ := bind_ok h
  clear h
  refine OpsJ.put rfl (OpJ.call0 rfl (fun R1 hle2 hin3 => winnowerlaw14_wide_w R1 A0_ p0_t.length c0_ p0_t (SlR.mono hA0_ (IM.le_trans (IM.le_refl _) hle2)) rfl hc0_  _ hy5) ?_)
  rintro _ _ _ ⟨rfl, rfl⟩
  refine OpsJ.put rfl (OpJ.pure (OpP.move rfl) ?_)
  by_cases hc7 : y4 = true
  · rw [if_pos hc7] at h6
    refine OpsJ.guard_n rfl rfl rfl rfl hc7 ?_
    refine OpsJ.guard_n rfl rfl rfl rfl hc7 ?_
    refine OpsJ.put rfl (OpJ.pure (OpP.pick_t rfl hc7 rfl) ?_)
    refine OpsJ.put rfl (OpJ.pure (OpP.move rfl) ?_)
    refine OpsJ.guard_n rfl rfl rfl rfl rfl ?_
    refine OpsJ.guard_n rfl rfl rfl rfl rfl ?_
    refine OpsJ.put rfl (OpJ.pure (OpP.pick_t rfl rfl rfl) ?_)
    refine OpsJ.put rfl (OpJ.pure (OpP.move rfl) ?_)
    refine OpsJ.guard_n rfl rfl rfl rfl rfl ?_
    refine OpsJ.guard_n rfl rfl rfl rfl rfl ?_
    refine OpsJ.guard_n rfl rfl rfl rfl rfl ?_
    refine OpsJ.guard_n rfl rfl rfl rfl rfl ?_
    refine OpsJ.guard_n rfl rfl rfl rfl rfl ?_
    refine OpsJ.put rfl (OpJ.pure (OpP.pick_t rfl rfl rfl) ?_)
    refine OpsJ.put rfl (OpJ.pure (OpP.move rfl) ?_)
    refine OpsJ.guard_n rfl rfl rfl rfl rfl ?_
    refine OpsJ.guard_n rfl rfl rfl rfl rfl ?_
    refine OpsJ.guard_n rfl rfl rfl rfl rfl ?_
    refine OpsJ.guard_n rfl rfl rfl rfl rfl ?_
    refine OpsJ.guard_n rfl rfl rfl rfl rfl ?_
    refine OpsJ.put rfl (OpJ.pure (OpP.pick_t rfl rfl rfl) ?_)
    refine OpsJ.nil ?_
    refine CodeJ.cond_t rfl rfl ?_
    refine CodeJ.seq' ?_
    refine CodeJ.region ?_
    refine OpsJ.put rfl (OpJ.pure (OpP.assign rfl) ?_)
    refine OpsJ.nil ?_
    refine CodeJ.ret' ?_
    obtain rfl := Option.some.inj h6
    exact Ret.mk0 ⟨rfl, rfl⟩ (ResJ.one Try.results6 rfl) (IM.le_refl _) (SubL.nil _)
  · rw [if_neg hc7] at h6
    refine OpsJ.guard_y rfl rfl rfl rfl (Bool.eq_false_iff.2 hc7) ?_
    refine OpsJ.put rfl (OpJ.pure (OpP.move rfl) ?_)
    refine OpsJ.guard_y rfl rfl rfl rfl (Bool.eq_false_iff.2 hc7) ?_
    obtain ⟨y11, hy12, h13⟩ := bind_ok h6
    clear h6
    refine OpsJ.put rfl (OpJ.call0 rfl (fun R8 hle9 hin10 => winnowerlaw14_long_w R8 A1_ p1_a.length c1_ p1_a (SlR.mono hA1_ (IM.le_trans (IM.le_refl _) hle9)) rfl hc1_  _ hy12) ?_)
    rintro _ _ _ ⟨rfl, rfl⟩
    refine OpsJ.put rfl (OpJ.pure (OpP.pick_f rfl (Bool.eq_false_iff.2 hc7) rfl) ?_)
    refine OpsJ.put rfl (OpJ.pure (OpP.move rfl) ?_)
    by_cases hc14 : y11 = true
    · rw [if_pos hc14] at h13
      refine OpsJ.guard_n rfl rfl rfl rfl hc14 ?_
      refine OpsJ.guard_n rfl rfl rfl rfl hc14 ?_
      refine OpsJ.put rfl (OpJ.pure (OpP.pick_t rfl hc14 rfl) ?_)
      refine OpsJ.put rfl (OpJ.pure (OpP.move rfl) ?_)
      refine OpsJ.guard_n rfl rfl rfl rfl rfl ?_
      refine OpsJ.guard_n rfl rfl rfl rfl rfl ?_
      refine OpsJ.guard_n rfl rfl rfl rfl rfl ?_
      refine OpsJ.guard_n rfl rfl rfl rfl rfl ?_
      refine OpsJ.guard_n rfl rfl rfl rfl rfl ?_
      refine OpsJ.put rfl (OpJ.pure (OpP.pick_t rfl rfl rfl) ?_)
      refine OpsJ.put rfl (OpJ.pure (OpP.move rfl) ?_)
      refine OpsJ.guard_n rfl rfl rfl rfl rfl ?_
      refine OpsJ.guard_n rfl rfl rfl rfl rfl ?_
      refine OpsJ.guard_n rfl rfl rfl rfl rfl ?_
      refine OpsJ.guard_n rfl rfl rfl rfl rfl ?_
      refine OpsJ.guard_n rfl rfl rfl rfl rfl ?_
      refine OpsJ.put rfl (OpJ.pure (OpP.pick_t rfl rfl rfl) ?_)
      refine OpsJ.nil ?_
      refine CodeJ.cond_t rfl rfl ?_
      refine CodeJ.seq' ?_
      refine CodeJ.region ?_
      refine OpsJ.put rfl (OpJ.pure (OpP.assign rfl) ?_)
      refine OpsJ.nil ?_
      refine CodeJ.ret' ?_
      obtain rfl := Option.some.inj h13
      exact Ret.mk0 ⟨rfl, rfl⟩ (ResJ.one Try.results6 rfl) (IM.le_refl _) (SubL.nil _)
    · rw [if_neg hc14] at h13
      refine OpsJ.guard_y rfl rfl rfl rfl (Bool.eq_false_iff.2 hc14) ?_
      refine OpsJ.put rfl (OpJ.pure (OpP.move rfl) ?_)
      refine OpsJ.guard_y rfl rfl rfl rfl (Bool.eq_false_iff.2 hc14) ?_
      obtain ⟨y18, hy19, h20⟩ := bind_ok h13
      clear h13
      refine OpsJ.put rfl (OpJ.call0 rfl (fun R15 hle16 hin17 => winnowerlaw14_long_w R15 A2_ p2_b.length c2_ p2_b (SlR.mono hA2_ (IM.le_trans (IM.le_refl _) hle16)) rfl hc2_  _ hy19) ?_)
      rintro _ _ _ ⟨rfl, rfl⟩
      refine OpsJ.put rfl (OpJ.pure (OpP.pick_f rfl (Bool.eq_false_iff.2 hc14) rfl) ?_)
      refine OpsJ.put rfl (OpJ.pure (OpP.move rfl) ?_)
      by_cases hc21 : y18 = true
      · rw [if_pos hc21] at h20
        refine OpsJ.guard_n rfl rfl rfl rfl hc21 ?_
        refine OpsJ.guard_n rfl rfl rfl rfl hc21 ?_
        refine OpsJ.guard_n rfl rfl rfl rfl hc21 ?_
        refine OpsJ.guard_n rfl rfl rfl rfl hc21 ?_
        refine OpsJ.guard_n rfl rfl rfl rfl hc21 ?_
        refine OpsJ.put rfl (OpJ.pure (OpP.pick_t rfl hc21 rfl) ?_)
        refine OpsJ.put rfl (OpJ.pure (OpP.move rfl) ?_)
        refine OpsJ.guard_n rfl rfl rfl rfl rfl ?_
        refine OpsJ.guard_n rfl rfl rfl rfl rfl ?_
        refine OpsJ.guard_n rfl rfl rfl rfl rfl ?_
        refine OpsJ.guard_n rfl rfl rfl rfl rfl ?_
        refine OpsJ.guard_n rfl rfl rfl rfl rfl ?_
        refine OpsJ.put rfl (OpJ.pure (OpP.pick_t rfl rfl rfl) ?_)
        refine OpsJ.nil ?_
        refine CodeJ.cond_t rfl rfl ?_
        refine CodeJ.seq' ?_
        refine CodeJ.region ?_
        refine OpsJ.put rfl (OpJ.pure (OpP.assign rfl) ?_)
        refine OpsJ.nil ?_
        refine CodeJ.ret' ?_
        obtain rfl := Option.some.inj h20
        exact Ret.mk0 ⟨rfl, rfl⟩ (ResJ.one Try.results6 rfl) (IM.le_refl _) (SubL.nil _)
      · rw [if_neg hc21] at h20
        refine OpsJ.guard_y rfl rfl rfl rfl (Bool.eq_false_iff.2 hc21) ?_
        refine OpsJ.put rfl (OpJ.pure (OpP.move rfl) ?_)
        refine OpsJ.guard_y rfl rfl rfl rfl (Bool.eq_false_iff.2 hc21) ?_
        refine OpsJ.put rfl (OpJ.pure (OpP.len rfl) ?_)
        refine OpsJ.guard_y rfl rfl rfl rfl (Bool.eq_false_iff.2 hc21) ?_
        refine OpsJ.put rfl (OpJ.pure (OpP.move rfl) ?_)
        refine OpsJ.guard_y rfl rfl rfl rfl (Bool.eq_false_iff.2 hc21) ?_
        refine OpsJ.put rfl (OpJ.pure (OpP.len rfl) ?_)
        refine OpsJ.guard_y rfl rfl rfl rfl (Bool.eq_false_iff.2 hc21) ?_
        refine OpsJ.put rfl (OpJ.pure (OpP.neq rfl rfl) ?_)
        refine OpsJ.put rfl (OpJ.pure (OpP.pick_f rfl (Bool.eq_false_iff.2 hc21) rfl) ?_)
        refine OpsJ.put rfl (OpJ.pure (OpP.move rfl) ?_)
        by_cases hc22 : ((p1_a.length : Nat) : Int) ≠ ((p0_t.length : Nat) : Int)
        · rw [if_pos hc22] at h20
          refine OpsJ.guard_n rfl rfl rfl rfl (decide_eq_true hc22) ?_
          refine OpsJ.guard_n rfl rfl rfl rfl (decide_eq_true hc22) ?_
          refine OpsJ.guard_n rfl rfl rfl rfl (decide_eq_true hc22) ?_
          refine OpsJ.guard_n rfl rfl rfl rfl (decide_eq_true hc22) ?_
          refine OpsJ.guard_n rfl rfl rfl rfl (decide_eq_true hc22) ?_
          refine OpsJ.put rfl (OpJ.pure (OpP.pick_t rfl (decide_eq_true hc22) rfl) ?_)
          refine OpsJ.nil ?_
          refine CodeJ.cond_t rfl rfl ?_
          refine CodeJ.seq' ?_
          refine CodeJ.region ?_
          refine OpsJ.put rfl (OpJ.pure (OpP.assign rfl) ?_)
          refine OpsJ.nil ?_
          refine CodeJ.ret' ?_
          obtain rfl := Option.some.inj h20
          exact Ret.mk0 ⟨rfl, rfl⟩ (ResJ.one Try.results6 rfl) (IM.le_refl _) (SubL.nil _)
        · rw [if_neg hc22] at h20
          refine OpsJ.guard_y rfl rfl rfl rfl (decide_eq_false hc22) ?_
          refine OpsJ.put rfl (OpJ.pure (OpP.move rfl) ?_)
          refine OpsJ.guard_y rfl rfl rfl rfl (decide_eq_false hc22) ?_
          refine OpsJ.put rfl (OpJ.pure (OpP.len rfl) ?_)
          refine OpsJ.guard_y rfl rfl rfl rfl (decide_eq_false hc22) ?_
          refine OpsJ.put rfl (OpJ.pure (OpP.move rfl) ?_)
          refine OpsJ.guard_y rfl rfl rfl rfl (decide_eq_false hc22) ?_
          refine OpsJ.put rfl (OpJ.pure (OpP.len rfl) ?_)
          refine OpsJ.guard_y rfl rfl rfl rfl (decide_eq_false hc22) ?_
          refine OpsJ.put rfl (OpJ.pure (OpP.neq rfl rfl) ?_)
          refine OpsJ.put rfl (OpJ.pure (OpP.pick_f rfl (decide_eq_false hc22) rfl) ?_)
          refine OpsJ.nil ?_
          by_cases hc23 : ((p2_b.length : Nat) : Int) ≠ ((p0_t.length : Nat) : Int)
          · rw [if_pos hc23] at h20
            refine CodeJ.cond_t rfl (decide_eq_true hc23) ?_
            refine CodeJ.seq' ?_
            refine CodeJ.region ?_
            refine OpsJ.put rfl (OpJ.pure (OpP.assign rfl) ?_)
            refine OpsJ.nil ?_
            refine CodeJ.ret' ?_
            obtain rfl := Option.some.inj h20
            exact Ret.mk0 ⟨rfl, rfl⟩ (ResJ.one Try.results6 rfl) (IM.le_refl _) (SubL.nil _)
          · rw [if_neg hc23] at h20
            refine CodeJ.cond_f rfl (decide_eq_false hc23) ?_
            refine CodeJ.skip ?_
            refine CodeJ.seq' ?_
            refine CodeJ.region ?_
            refine OpsJ.put rfl (OpJ.pure (OpP.move rfl) ?_)
            refine OpsJ.put rfl (OpJ.pure (OpP.move rfl) ?_)
            obtain ⟨y27, hy28, h29⟩ := bind_ok h20
            clear h20
            refine OpsJ.put rfl (OpJ.call1 rfl (fun R24 hle25 hin26 => part_Merge_w R24 A0_ p0_t.length c0_ p0_t (SlR.mono hA0_ (IM.le_trans (IM.le_refl _) hle25)) rfl hc0_ A1_ p1_a.length c1_ p1_a (SlR.mono hA1_ (IM.le_trans (IM.le_refl _) hle25)) rfl hc1_  _ hy28) ?_)
            rintro _ _ _ ⟨A30, c31, cs32, rfl, hr33, rfl⟩
            refine OpsJ.put rfl (OpJ.pure (OpP.move rfl) ?_)
            refine OpsJ.rowle (List.Perm.refl _) (fun hcap35 _ => ?_)
            obtain ⟨y39, hy40, h41⟩ := bind_ok h29
            clear h29
            refine OpsJ.put rfl (OpJ.call1 rfl (fun R36 hle37 hin38 => part_Merge_w R36 A30 y27.length c31 y27 (SlR.of_row (inRow hin38 (List.Mem.head _)) hr33 (IM.le_nil _)) rfl hcap35 A2_ p2_b.length c2_ p2_b (SlR.mono hA2_ (IM.le_trans (IM.le_refl _) hle37)) rfl hc2_  _ hy40) ?_)
            rintro _ _ _ ⟨A42, c43, cs44, rfl, hr45, rfl⟩
            refine OpsJ.put rfl (OpJ.pure (OpP.move rfl) ?_)
            refine OpsJ.put rfl (OpJ.pure (OpP.move rfl) ?_)
            obtain ⟨y50, hy51, h52⟩ := bind_ok h41
            clear h41
            refine OpsJ.put rfl (OpJ.call1 rfl (fun R47 hle48 hin49 => part_Merge_w R47 A0_ p0_t.length c0_ p0_t (SlR.mono hA0_ (IM.le_trans (IM.le_refl _) hle48)) rfl hc0_ A2_ p2_b.length c2_ p2_b (SlR.mono hA2_ (IM.le_trans (IM.le_refl _) hle48)) rfl hc2_  _ hy51) ?_)
            rintro _ _ _ ⟨A53, c54, cs55, rfl, hr56, rfl⟩
            refine OpsJ.put rfl (OpJ.pure (OpP.move rfl) ?_)
            refine OpsJ.rowle (List.Perm.refl _) (fun hcap58 _ => ?_)
            obtain ⟨y62, hy63, h64⟩ := bind_ok h52
            clear h52
            refine OpsJ.put rfl (OpJ.call1 rfl (fun R59 hle60 hin61 => part_Merge_w R59 A53 y50.length c54 y50 (SlR.of_row (inRow hin61 (List.Mem.head _)) hr56 (IM.le_nil _)) rfl hcap58 A1_ p1_a.length c1_ p1_a (SlR.mono hA1_ (IM.le_trans (IM.le_refl _) hle60)) rfl hc1_  _ hy63) ?_)
            rintro _ _ _ ⟨A65, c66, cs67, rfl, hr68, rfl⟩
            refine OpsJ.put rfl (OpJ.pure (OpP.assign rfl) ?_)
            refine OpsJ.put rfl (OpJ.pure (OpP.assign rfl) ?_)
            refine OpsJ.nil ?_
            refine CodeJ.seq' ?_
            refine CodeJ.region ?_
            refine OpsJ.put rfl (OpJ.pure (OpP.move rfl) ?_)
            refine OpsJ.rowle (permm2 _ _ _ _) (fun hcap70 _ => ?_)
            obtain ⟨y74, hy75, h76⟩ := bind_ok h64
            clear h64
            refine OpsJ.put rfl (OpJ.call0 rfl (fun R71 hle72 hin73 => part_Wild_w R71 A42 y39.length c43 y39 (SlR.of_row (inRow hin73 (List.Mem.tail _ (List.Mem.tail _ (List.Mem.head _)))) hr45 (IM.le_nil _)) rfl hcap70  _ hy75) ?_)
            rintro _ _ _ ⟨rfl, rfl⟩
            refine OpsJ.put rfl (OpJ.pure (OpP.move rfl) ?_)
            refine OpsJ.put rfl (OpJ.pure (OpP.move rfl) ?_)
            obtain ⟨y80, hy81, h82⟩ := bind_ok h76
            clear h76
            refine OpsJ.put rfl (OpJ.call1 rfl (fun R77 hle78 hin79 => part_Merge_w R77 A0_ p0_t.length c0_ p0_t (SlR.mono hA0_ (IM.le_trans (IM.le_refl _) hle78)) rfl hc0_ A1_ p1_a.length c1_ p1_a (SlR.mono hA1_ (IM.le_trans (IM.le_refl _) hle78)) rfl hc1_  _ hy81) ?_)
            rintro _ _ _ ⟨A83, c84, cs85, rfl, hr86, rfl⟩
            refine OpsJ.rowle (List.Perm.refl _) (fun hcap88 _ => ?_)
            obtain ⟨y92, hy93, h94⟩ := bind_ok h82
            clear h82
            refine OpsJ.put rfl (OpJ.call0 rfl (fun R89 hle90 hin91 => part_Wild_w R89 A83 y80.length c84 y80 (SlR.of_row (inRow hin91 (List.Mem.head _)) hr86 (IM.le_nil _)) rfl hcap88  _ hy93) ?_)
            rintro _ _ _ ⟨rfl, rfl⟩
            refine OpsJ.put rfl (OpJ.pure (OpP.geq rfl rfl) ?_)
            refine OpsJ.put rfl (OpJ.pure (OpP.move rfl) ?_)
            by_cases hc95 : y74 ≥ y92
            · rw [if_pos hc95] at h94
              refine OpsJ.guard_y rfl rfl rfl rfl (decide_eq_true hc95) ?_
              refine OpsJ.put rfl (OpJ.pure (OpP.move rfl) ?_)
              refine OpsJ.guard_y rfl rfl rfl rfl (decide_eq_true hc95) ?_
              refine OpsJ.put rfl (OpJ.pure (OpP.move rfl) ?_)
              refine OpsJ.guard_y rfl rfl rfl rfl (decide_eq_true hc95) ?_
              obtain ⟨y99, hy100, h101⟩ := bind_ok h94
              clear h94
              refine OpsJ.put rfl (OpJ.call1 rfl (fun R96 hle97 hin98 => part_Merge_w R96 A0_ p0_t.length c0_ p0_t (SlR.mono hA0_ (IM.le_trans (IM.le_refl _) hle97)) rfl hc0_ A1_ p1_a.length c1_ p1_a (SlR.mono hA1_ (IM.le_trans (IM.le_refl _) hle97)) rfl hc1_  _ hy100) ?_)
              rintro _ _ _ ⟨A102, c103, cs104, rfl, hr105, rfl⟩
              refine OpsJ.guard_y rfl rfl rfl rfl (decide_eq_true hc95) ?_
              refine OpsJ.rowle (List.Perm.refl _) (fun hcap107 _ => ?_)
              obtain ⟨y111, hy112, h113⟩ := bind_ok h101
              clear h101
              refine OpsJ.put rfl (OpJ.call0 rfl (fun R108 hle109 hin110 => part_Wild_w R108 A102 y99.length c103 y99 (SlR.of_row (inRow hin110 (List.Mem.head _)) hr105 (IM.le_nil _)) rfl hcap107  _ hy112) ?_)
              rintro _ _ _ ⟨rfl, rfl⟩
              refine OpsJ.guard_y rfl rfl rfl rfl (decide_eq_true hc95) ?_
              refine OpsJ.put rfl (OpJ.pure (OpP.move rfl) ?_)
              refine OpsJ.guard_y rfl rfl rfl rfl (decide_eq_true hc95) ?_
              obtain ⟨y117, hy118, h119⟩ := bind_ok h113
              clear h113
              refine OpsJ.put rfl (OpJ.call0 rfl (fun R114 hle115 hin116 => part_Wild_w R114 A0_ p0_t.length c0_ p0_t (SlR.mono hA0_ (IM.le_trans (IM.le_refl _) hle115)) rfl hc0_  _ hy118) ?_)
              rintro _ _ _ ⟨rfl, rfl⟩
              refine OpsJ.guard_y rfl rfl rfl rfl (decide_eq_true hc95) ?_
              refine OpsJ.put rfl (OpJ.pure (OpP.geq rfl rfl) ?_)
              refine OpsJ.put rfl (OpJ.pure (OpP.pick_t rfl (decide_eq_true hc95) rfl) ?_)
              refine OpsJ.put rfl (OpJ.pure (OpP.move rfl) ?_)
              by_cases hc120 : y111 ≥ y117
              · rw [if_pos hc120] at h119
                refine OpsJ.guard_y rfl rfl rfl rfl (decide_eq_true hc120) ?_
                refine OpsJ.put rfl (OpJ.pure (OpP.move rfl) ?_)
                refine OpsJ.guard_y rfl rfl rfl rfl (decide_eq_true hc120) ?_
                refine OpsJ.put rfl (OpJ.pure (OpP.move rfl) ?_)
                refine OpsJ.guard_y rfl rfl rfl rfl (decide_eq_true hc120) ?_
                refine OpsJ.rowle (permm4 _ _ _ _ _ _) (fun hcap121 _ => ?_)
                refine OpsJ.rowle (permm2 _ _ _ _) (fun hcap122 _ => ?_)
                obtain ⟨y126, hy127, h128⟩ := bind_ok h119
                clear h119
                refine OpsJ.put rfl (OpJ.call0 rfl (fun R123 hle124 hin125 => winnowerref14_Same_w R123 A42 y39.length c43 y39 (SlR.of_row (inRow hin125 (List.Mem.tail _ (List.Mem.tail _ (List.Mem.tail _ (List.Mem.tail _ (List.Mem.head _)))))) hr45 (IM.le_nil _)) rfl hcap121 A65 y62.length c66 y62 (SlR.of_row (inRow hin125 (List.Mem.tail _ (List.Mem.tail _ (List.Mem.head _)))) hr68 (IM.le_nil _)) rfl hcap122  _ hy127) ?_)
                rintro _ _ _ ⟨rfl, rfl⟩
                refine OpsJ.put rfl (OpJ.pure (OpP.pick_t rfl (decide_eq_true hc120) rfl) ?_)
                refine OpsJ.put rfl (OpJ.pure (OpP.move rfl) ?_)
                by_cases hc129 : y126 = true
                · rw [if_pos hc129] at h128
                  refine OpsJ.guard_y rfl rfl rfl rfl hc129 ?_
                  obtain ⟨y133, hy134, h135⟩ := bind_ok h128
                  clear h128
                  refine OpsJ.put rfl (OpJ.call0 rfl (fun R130 hle131 hin132 => winnowerlaw14_known_w R130   _ hy134) ?_)
                  rintro _ _ _ ⟨rfl, rfl⟩
                  refine OpsJ.put rfl (OpJ.pure (OpP.pick_t rfl hc129 rfl) ?_)
                  refine OpsJ.put rfl (OpJ.pure (OpP.assign rfl) ?_)
                  refine OpsJ.nil ?_
                  refine CodeJ.ret' ?_
                  obtain rfl := Option.some.inj h135
                  exact Ret.mk0 ⟨rfl, rfl⟩ (ResJ.one Try.results6 rfl) (IM.le_refl _) (SubL.nil _)
                · rw [if_neg hc129] at h128
                  refine OpsJ.guard_n rfl rfl rfl rfl (Bool.eq_false_iff.2 hc129) ?_
                  refine OpsJ.put rfl (OpJ.pure (OpP.pick_f rfl (Bool.eq_false_iff.2 hc129) rfl) ?_)
                  refine OpsJ.put rfl (OpJ.pure (OpP.assign rfl) ?_)
                  refine OpsJ.nil ?_
                  refine CodeJ.ret' ?_
                  obtain rfl := Option.some.inj h128
                  exact Ret.mk0 ⟨rfl, rfl⟩ (ResJ.one Try.results6 rfl) (IM.le_refl _) (SubL.nil _)
              · rw [if_neg hc120] at h119
                refine OpsJ.guard_n rfl rfl rfl rfl (decide_eq_false hc120) ?_
                refine OpsJ.guard_n rfl rfl rfl rfl (decide_eq_false hc120) ?_
                refine OpsJ.guard_n rfl rfl rfl rfl (decide_eq_false hc120) ?_
                refine OpsJ.put rfl (OpJ.pure (OpP.pick_f rfl (decide_eq_false hc120) rfl) ?_)
                refine OpsJ.put rfl (OpJ.pure (OpP.move rfl) ?_)
                refine OpsJ.guard_n rfl rfl rfl rfl rfl ?_
                refine OpsJ.put rfl (OpJ.pure (OpP.pick_f rfl rfl rfl) ?_)
                refine OpsJ.put rfl (OpJ.pure (OpP.assign rfl) ?_)
                refine OpsJ.nil ?_
                refine CodeJ.ret' ?_
                obtain rfl := Option.some.inj h119
                exact Ret.mk0 ⟨rfl, rfl⟩ (ResJ.one Try.results6 rfl) (IM.le_refl _) (SubL.nil _)
            · rw [if_neg hc95] at h94
              refine OpsJ.guard_n rfl rfl rfl rfl (decide_eq_false hc95) ?_
              refine OpsJ.guard_n rfl rfl rfl rfl (decide_eq_false hc95) ?_
              refine OpsJ.guard_n rfl rfl rfl rfl (decide_eq_false hc95) ?_
              refine OpsJ.guard_n rfl rfl rfl rfl (decide_eq_false hc95) ?_
              refine OpsJ.guard_n rfl rfl rfl rfl (decide_eq_false hc95) ?_
              refine OpsJ.guard_n rfl rfl rfl rfl (decide_eq_false hc95) ?_
              refine OpsJ.guard_n rfl rfl rfl rfl (decide_eq_false hc95) ?_
              refine OpsJ.put rfl (OpJ.pure (OpP.pick_f rfl (decide_eq_false hc95) rfl) ?_)
              refine OpsJ.put rfl (OpJ.pure (OpP.move rfl) ?_)
              refine OpsJ.guard_n rfl rfl rfl rfl rfl ?_
              refine OpsJ.guard_n rfl rfl rfl rfl rfl ?_
              refine OpsJ.guard_n rfl rfl rfl rfl rfl ?_
              refine OpsJ.put rfl (OpJ.pure (OpP.pick_f rfl rfl rfl) ?_)
              refine OpsJ.put rfl (OpJ.pure (OpP.move rfl) ?_)
              refine OpsJ.guard_n rfl rfl rfl rfl rfl ?_
              refine OpsJ.put rfl (OpJ.pure (OpP.pick_f rfl rfl rfl) ?_)
              refine OpsJ.put rfl (OpJ.pure (OpP.assign rfl) ?_)
              refine OpsJ.nil ?_
              refine CodeJ.ret' ?_
              obtain rfl := Option.some.inj h94
              exact Ret.mk0 ⟨rfl, rfl⟩ (ResJ.one Try.results6 rfl) (IM.le_refl _) (SubL.nil _)
theorem winnowerlaw14_PartTells_w (R : IM) (A0_ : Option Addr) (n0_ c0_ : Nat) (p0_t : List (Bool × ByteArray)) (hA0_ : SlR R A0_ p0_t) (hn0_ : p0_t.length = n0_) (hc0_ : n0_ ≤ c0_) (A1_ : Option Addr) (n1_ c1_ : Nat) (p1_l : List (Int × ByteArray)) (hA1_ : SlR R A1_ p1_l) (hn1_ : p1_l.length = n1_) (hc1_ : n1_ ≤ c1_) (A2_ : Option Addr) (n2_ c2_ : Nat) (p2_b : List (Bool × ByteArray)) (hA2_ : SlR R A2_ p2_b) (hn2_ : p2_b.length = n2_) (hc2_ : n2_ ≤ c2_) (y : Bool) (h : winnowerlaw14_PartTells p0_t p1_l p2_b = some y) :
    CallJ Try.prog 10 #[.slice A0_ n0_ c0_, .slice A1_ n1_ c1_, .slice A2_ n2_ c2_] ⟨R, []⟩ (fun v D hs' => v = .bool y ∧ hs' = []) := by
  subst hn0_
  subst hn1_
  subst hn2_
  unfold winnowerlaw14_PartTells at h
  refine CallJ.of3 Try.func10 rfl Try.ntmps10 rfl (fun W0 => ?_)
  refine CodeJ.seq' ?_
  refine CodeJ.region ?_
  refine OpsJ.put rfl (OpJ.pure (OpP.assign rfl) ?_)
  refine OpsJ.nil ?_
  refine CodeJ.seq' ?_
  refine CodeJ.seq' ?_
  refine CodeJ.region ?_
  refine OpsJ.put rfl (OpJ.pure (OpP.move rfl) ?_)
  obtain ⟨y4, hy5, h6⟩ := bind_ok h
  clear h
  refine OpsJ.put rfl (OpJ.call0 rfl (fun R1 hle2 hin3 => winnowerlaw14_wide_w R1 A0_ p0_t.length c0_ p0_t (SlR.mono hA0_ (IM.le_trans (IM.le_refl _) hle2)) rfl hc0_  _ hy5) ?_)
  rintro _ _ _ ⟨rfl, rfl⟩
  refine OpsJ.put rfl (OpJ.pure (OpP.move rfl) ?_)
  by_cases hc7 : y4 = true
  · rw [if_pos hc7] at h6
    refine OpsJ.guard_n rfl rfl rfl rfl hc7 ?_
    refine OpsJ.guard_n rfl rfl rfl rfl hc7 ?_
    refine OpsJ.put rfl (OpJ.pure (OpP.pick_t rfl hc7 rfl) ?_)
    refine OpsJ.put rfl (OpJ.pure (OpP.move rfl) ?_)
    refine OpsJ.guard_n rfl rfl rfl rfl rfl ?_
    refine OpsJ.guard_n rfl rfl rfl rfl rfl ?_
    refine OpsJ.put rfl (OpJ.pure (OpP.pick_t rfl rfl rfl) ?_)
    refine OpsJ.nil ?_
    refine CodeJ.cond_t rfl rfl ?_
    refine CodeJ.seq' ?_
    refine CodeJ.region ?_
    refine OpsJ.put rfl (OpJ.pure (OpP.assign rfl) ?_)
    refine OpsJ.nil ?_
    refine CodeJ.ret' ?_
    obtain rfl := Option.some.inj h6
    exact Ret.mk0 ⟨rfl, rfl⟩ (ResJ.one Try.results10 rfl) (IM.le_refl _) (SubL.nil _)
  · rw [if_neg hc7] at h6
    refine OpsJ.guard_y rfl rfl rfl rfl (Bool.eq_false_iff.2 hc7) ?_
    refine OpsJ.put rfl (OpJ.pure (OpP.move rfl) ?_)
    refine OpsJ.guard_y rfl rfl rfl rfl (Bool.eq_false_iff.2 hc7) ?_
    obtain ⟨y11, hy12, h13⟩ := bind_ok h6
    clear h6
    refine OpsJ.put rfl (OpJ.call0 rfl (fun R8 hle9 hin10 => winnowerlaw14_wide_w R8 A2_ p2_b.length c2_ p2_b (SlR.mono hA2_ (IM.le_trans (IM.le_refl _) hle9)) rfl hc2_  _ hy12) ?_)
    rintro _ _ _ ⟨rfl, rfl⟩
    refine OpsJ.put rfl (OpJ.pure (OpP.pick_f rfl (Bool.eq_false_iff.2 hc7) rfl) ?_)
    refine OpsJ.put rfl (OpJ.pure (OpP.move rfl) ?_)
    by_cases hc14 : y11 = true
    · rw [if_pos hc14] at h13
      refine OpsJ.guard_n rfl rfl rfl rfl hc14 ?_
      refine OpsJ.guard_n rfl rfl rfl rfl hc14 ?_
      refine OpsJ.put rfl (OpJ.pure (OpP.pick_t rfl hc14 rfl) ?_)
      refine OpsJ.nil ?_
      refine CodeJ.cond_t rfl rfl ?_
      refine CodeJ.seq' ?_
      refine CodeJ.region ?_
      refine OpsJ.put rfl (OpJ.pure (OpP.assign rfl) ?_)
      refine OpsJ.nil ?_
      refine CodeJ.ret' ?_
      obtain rfl := Option.some.inj h13
      exact Ret.mk0 ⟨rfl, rfl⟩ (ResJ.one Try.results10 rfl) (IM.le_refl _) (SubL.nil _)
    · rw [if_neg hc14] at h13
      refine OpsJ.guard_y rfl rfl rfl rfl (Bool.eq_false_iff.2 hc14) ?_
      refine OpsJ.put rfl (OpJ.pure (OpP.move rfl) ?_)
      refine OpsJ.guard_y rfl rfl rfl rfl (Bool.eq_false_iff.2 hc14) ?_
      obtain ⟨y18, hy19, h20⟩ := bind_ok h13
      clear h13
      refine OpsJ.put rfl (OpJ.call0 rfl (fun R15 hle16 hin17 => winnowerlaw14_long_w R15 A1_ p1_l.length c1_ p1_l (SlR.mono hA1_ (IM.le_trans (IM.le_refl _) hle16)) rfl hc1_  _ hy19) ?_)
      rintro _ _ _ ⟨rfl, rfl⟩
      refine OpsJ.put rfl (OpJ.pure (OpP.pick_f rfl (Bool.eq_false_iff.2 hc14) rfl) ?_)
      refine OpsJ.nil ?_
      by_cases hc21 : y18 = true
      · rw [if_pos hc21] at h20
        refine CodeJ.cond_t rfl hc21 ?_
        refine CodeJ.seq' ?_
        refine CodeJ.region ?_
        refine OpsJ.put rfl (OpJ.pure (OpP.assign rfl) ?_)
        refine OpsJ.nil ?_
        refine CodeJ.ret' ?_
        obtain rfl := Option.some.inj h20
        exact Ret.mk0 ⟨rfl, rfl⟩ (ResJ.one Try.results10 rfl) (IM.le_refl _) (SubL.nil _)
      · rw [if_neg hc21] at h20
        refine CodeJ.cond_f rfl (Bool.eq_false_iff.2 hc21) ?_
        refine CodeJ.skip ?_
        refine CodeJ.seq' ?_
        refine CodeJ.region ?_
        refine OpsJ.put rfl (OpJ.pure (OpP.move rfl) ?_)
        refine OpsJ.put rfl (OpJ.pure (OpP.move rfl) ?_)
        obtain ⟨y25, hy26, h27⟩ := bind_ok h20
        clear h20
        refine OpsJ.put rfl (OpJ.call0 rfl (fun R22 hle23 hin24 => winnowerref14_Alike_w R22 A0_ p0_t.length c0_ p0_t (SlR.mono hA0_ (IM.le_trans (IM.le_refl _) hle23)) rfl hc0_ A1_ p1_l.length c1_ p1_l (SlR.mono hA1_ (IM.le_trans (IM.le_refl _) hle23)) rfl hc1_  _ hy26) ?_)
        rintro _ _ _ ⟨rfl, rfl⟩
        refine OpsJ.put rfl (OpJ.pure (OpP.assign rfl) ?_)
        refine OpsJ.nil ?_
        refine CodeJ.seq' ?_
        refine CodeJ.region ?_
        refine OpsJ.put rfl (OpJ.pure (OpP.move rfl) ?_)
        obtain ⟨y31, hy32, h33⟩ := bind_ok h27
        clear h27
        refine OpsJ.put rfl (OpJ.call1 rfl (fun R28 hle29 hin30 => part_Of_w R28 A1_ p1_l.length c1_ p1_l (SlR.mono hA1_ (IM.le_trans (IM.le_refl _) hle29)) rfl hc1_  _ hy32) ?_)
        rintro _ _ _ ⟨A34, c35, cs36, rfl, hr37, rfl⟩
        refine OpsJ.put rfl (OpJ.pure (OpP.move rfl) ?_)
        obtain ⟨y42, hy43, h44⟩ := bind_ok h33
        clear h33
        refine OpsJ.put rfl (OpJ.call1 rfl (fun R39 hle40 hin41 => winnowerref14_Of_w R39 A1_ p1_l.length c1_ p1_l (SlR.mono hA1_ (IM.le_trans (IM.le_refl _) hle40)) rfl hc1_  _ hy43) ?_)
        rintro _ _ _ ⟨A45, c46, cs47, rfl, hr48, rfl⟩
        refine OpsJ.rowle (List.Perm.swap _ _ _) (fun hcap50 _ => ?_)
        refine OpsJ.rowle (List.Perm.refl _) (fun hcap51 _ => ?_)
        obtain ⟨y55, hy56, h57⟩ := bind_ok h44
        clear h44
        refine OpsJ.put rfl (OpJ.call0 rfl (fun R52 hle53 hin54 => winnowerref14_Same_w R52 A34 y31.length c35 y31 (SlR.of_row (inRow hin54 (List.Mem.tail _ (List.Mem.head _))) hr37 (IM.le_nil _)) rfl hcap50 A45 y42.length c46 y42 (SlR.of_row (inRow hin54 (List.Mem.head _)) hr48 (IM.le_nil _)) rfl hcap51  _ hy56) ?_)
        rintro _ _ _ ⟨rfl, rfl⟩
        refine OpsJ.put rfl (OpJ.pure (OpP.move rfl) ?_)
        by_cases hc58 : y55 = true
        · rw [if_pos hc58] at h57
          refine OpsJ.guard_y rfl rfl rfl rfl hc58 ?_
          refine OpsJ.put rfl (OpJ.pure (OpP.move rfl) ?_)
          refine OpsJ.guard_y rfl rfl rfl rfl hc58 ?_
          refine OpsJ.put rfl (OpJ.pure (OpP.move rfl) ?_)
          refine OpsJ.guard_y rfl rfl rfl rfl hc58 ?_
          obtain ⟨y62, hy63, h64⟩ := bind_ok h57
          clear h57
          refine OpsJ.put rfl (OpJ.call0 rfl (fun R59 hle60 hin61 => part_Alike_w R59 A0_ p0_t.length c0_ p0_t (SlR.mono hA0_ (IM.le_trans (IM.le_refl _) hle60)) rfl hc0_ A1_ p1_l.length c1_ p1_l (SlR.mono hA1_ (IM.le_trans (IM.le_refl _) hle60)) rfl hc1_  _ hy63) ?_)
          rintro _ _ _ ⟨rfl, rfl⟩
          refine OpsJ.guard_y rfl rfl rfl rfl hc58 ?_
          refine OpsJ.put rfl (OpJ.pure (OpP.move rfl) ?_)
          refine OpsJ.guard_y rfl rfl rfl rfl hc58 ?_
          refine OpsJ.put rfl (OpJ.pure (OpP.eql rfl rfl) ?_)
          refine OpsJ.put rfl (OpJ.pure (OpP.pick_t rfl hc58 rfl) ?_)
          refine OpsJ.put rfl (OpJ.pure (OpP.move rfl) ?_)
          by_cases hc65 : y62 = y25
          · rw [if_pos hc65] at h64
            refine OpsJ.guard_y rfl rfl rfl rfl (decide_eq_true hc65) ?_
            refine OpsJ.put rfl (OpJ.pure (OpP.move rfl) ?_)
            refine OpsJ.guard_y rfl rfl rfl rfl (decide_eq_true hc65) ?_
            refine OpsJ.put rfl (OpJ.pure (OpP.move rfl) ?_)
            refine OpsJ.guard_y rfl rfl rfl rfl (decide_eq_true hc65) ?_
            obtain ⟨y69, hy70, h71⟩ := bind_ok h64
            clear h64
            refine OpsJ.put rfl (OpJ.call0 rfl (fun R66 hle67 hin68 => part_Fits_w R66 A0_ p0_t.length c0_ p0_t (SlR.mono hA0_ (IM.le_trans (IM.le_refl _) hle67)) rfl hc0_ A1_ p1_l.length c1_ p1_l (SlR.mono hA1_ (IM.le_trans (IM.le_refl _) hle67)) rfl hc1_  _ hy70) ?_)
            rintro _ _ _ ⟨rfl, rfl⟩
            refine OpsJ.guard_y rfl rfl rfl rfl (decide_eq_true hc65) ?_
            refine OpsJ.put rfl (OpJ.pure (OpP.move rfl) ?_)
            refine OpsJ.guard_y rfl rfl rfl rfl (decide_eq_true hc65) ?_
            refine OpsJ.put rfl (OpJ.pure (OpP.move rfl) ?_)
            refine OpsJ.guard_y rfl rfl rfl rfl (decide_eq_true hc65) ?_
            refine OpsJ.put rfl (OpJ.pure (OpP.len rfl) ?_)
            refine OpsJ.guard_y rfl rfl rfl rfl (decide_eq_true hc65) ?_
            refine OpsJ.put rfl (OpJ.pure (OpP.eql rfl rfl) ?_)
            refine OpsJ.guard_y rfl rfl rfl rfl (decide_eq_true hc65) ?_
            refine OpsJ.put rfl (OpJ.pure (OpP.move rfl) ?_)
            by_cases hc72 : y25 = ((p0_t.length : Nat) : Int)
            · rw [if_pos hc72] at h71
              refine OpsJ.guard_y rfl rfl rfl rfl (decide_eq_true hc72) ?_
              refine OpsJ.put rfl (OpJ.pure (OpP.move rfl) ?_)
              refine OpsJ.guard_y rfl rfl rfl rfl (decide_eq_true hc72) ?_
              refine OpsJ.put rfl (OpJ.pure (OpP.geq rfl rfl) ?_)
              refine OpsJ.guard_y rfl rfl rfl rfl (decide_eq_true hc65) ?_
              refine OpsJ.put rfl (OpJ.pure (OpP.pick_t rfl (decide_eq_true hc72) rfl) ?_)
              refine OpsJ.guard_y rfl rfl rfl rfl (decide_eq_true hc65) ?_
              refine OpsJ.put rfl (OpJ.pure (OpP.eql_bool rfl rfl) ?_)
              refine OpsJ.put rfl (OpJ.pure (OpP.pick_t rfl (decide_eq_true hc65) rfl) ?_)
              refine OpsJ.put rfl (OpJ.pure (OpP.move rfl) ?_)
              by_cases hc73 : (y69 == decide (y25 ≥ 0)) = true
              · rw [if_pos hc73] at h71
                refine OpsJ.guard_y rfl rfl rfl rfl hc73 ?_
                refine OpsJ.put rfl (OpJ.pure (OpP.move rfl) ?_)
                refine OpsJ.guard_y rfl rfl rfl rfl hc73 ?_
                refine OpsJ.put rfl (OpJ.pure (OpP.move rfl) ?_)
                refine OpsJ.guard_y rfl rfl rfl rfl hc73 ?_
                obtain ⟨y77, hy78, h79⟩ := bind_ok h71
                clear h71
                refine OpsJ.put rfl (OpJ.call1 rfl (fun R74 hle75 hin76 => part_Merge_w R74 A0_ p0_t.length c0_ p0_t (SlR.mono hA0_ (IM.le_trans (IM.le_refl _) hle75)) rfl hc0_ A1_ p1_l.length c1_ p1_l (SlR.mono hA1_ (IM.le_trans (IM.le_refl _) hle75)) rfl hc1_  _ hy78) ?_)
                rintro _ _ _ ⟨A80, c81, cs82, rfl, hr83, rfl⟩
                refine OpsJ.guard_y rfl rfl rfl rfl hc73 ?_
                refine OpsJ.put rfl (OpJ.pure (OpP.move rfl) ?_)
                refine OpsJ.guard_y rfl rfl rfl rfl hc73 ?_
                refine OpsJ.put rfl (OpJ.pure (OpP.move rfl) ?_)
                refine OpsJ.guard_y rfl rfl rfl rfl hc73 ?_
                obtain ⟨y88, hy89, h90⟩ := bind_ok h79
                clear h79
                refine OpsJ.put rfl (OpJ.call1 rfl (fun R85 hle86 hin87 => winnowerref14_Merge_w R85 A0_ p0_t.length c0_ p0_t (SlR.mono hA0_ (IM.le_trans (IM.le_refl _) hle86)) rfl hc0_ A1_ p1_l.length c1_ p1_l (SlR.mono hA1_ (IM.le_trans (IM.le_refl _) hle86)) rfl hc1_  _ hy89) ?_)
                rintro _ _ _ ⟨A91, c92, cs93, rfl, hr94, rfl⟩
                refine OpsJ.guard_y rfl rfl rfl rfl hc73 ?_
                refine OpsJ.rowle (List.Perm.swap _ _ _) (fun hcap96 _ => ?_)
                refine OpsJ.rowle (List.Perm.refl _) (fun hcap97 _ => ?_)
                obtain ⟨y101, hy102, h103⟩ := bind_ok h90
                clear h90
                refine OpsJ.put rfl (OpJ.call0 rfl (fun R98 hle99 hin100 => winnowerref14_Same_w R98 A80 y77.length c81 y77 (SlR.of_row (inRow hin100 (List.Mem.tail _ (List.Mem.head _))) hr83 (IM.le_nil _)) rfl hcap96 A91 y88.length c92 y88 (SlR.of_row (inRow hin100 (List.Mem.head _)) hr94 (IM.le_nil _)) rfl hcap97  _ hy102) ?_)
                rintro _ _ _ ⟨rfl, rfl⟩
                refine OpsJ.put rfl (OpJ.pure (OpP.pick_t rfl hc73 rfl) ?_)
                refine OpsJ.put rfl (OpJ.pure (OpP.move rfl) ?_)
                by_cases hc104 : y101 = true
                · rw [if_pos hc104] at h103
                  refine OpsJ.guard_y rfl rfl rfl rfl hc104 ?_
                  refine OpsJ.put rfl (OpJ.pure (OpP.move rfl) ?_)
                  refine OpsJ.guard_y rfl rfl rfl rfl hc104 ?_
                  refine OpsJ.put rfl (OpJ.pure (OpP.move rfl) ?_)
                  refine OpsJ.guard_y rfl rfl rfl rfl hc104 ?_
                  obtain ⟨y108, hy109, h110⟩ := bind_ok h103
                  clear h103
                  refine OpsJ.put rfl (OpJ.call1 rfl (fun R105 hle106 hin107 => part_Vars_w R105 A0_ p0_t.length c0_ p0_t (SlR.mono hA0_ (IM.le_trans (IM.le_refl _) hle106)) rfl hc0_ A1_ p1_l.length c1_ p1_l (SlR.mono hA1_ (IM.le_trans (IM.le_refl _) hle106)) rfl hc1_  _ hy109) ?_)
                  rintro _ _ _ ⟨A111, c112, cs113, rfl, hr114, rfl⟩
                  refine OpsJ.guard_y rfl rfl rfl rfl hc104 ?_
                  refine OpsJ.put rfl (OpJ.pure (OpP.move rfl) ?_)
                  refine OpsJ.guard_y rfl rfl rfl rfl hc104 ?_
                  refine OpsJ.put rfl (OpJ.pure (OpP.move rfl) ?_)
                  refine OpsJ.guard_y rfl rfl rfl rfl hc104 ?_
                  obtain ⟨y119, hy120, h121⟩ := bind_ok h110
                  clear h110
                  refine OpsJ.put rfl (OpJ.call1 rfl (fun R116 hle117 hin118 => winnowerref14_Vars_w R116 A0_ p0_t.length c0_ p0_t (SlR.mono hA0_ (IM.le_trans (IM.le_refl _) hle117)) rfl hc0_ A1_ p1_l.length c1_ p1_l (SlR.mono hA1_ (IM.le_trans (IM.le_refl _) hle117)) rfl hc1_  _ hy120) ?_)
                  rintro _ _ _ ⟨A122, c123, cs124, rfl, hr125, rfl⟩
                  refine OpsJ.guard_y rfl rfl rfl rfl hc104 ?_
                  refine OpsJ.rowle (List.Perm.swap _ _ _) (fun hcap127 _ => ?_)
                  refine OpsJ.rowle (List.Perm.refl _) (fun hcap128 _ => ?_)
                  obtain ⟨y132, hy133, h134⟩ := bind_ok h121
                  clear h121
                  refine OpsJ.put rfl (OpJ.call0 rfl (fun R129 hle130 hin131 => winnowerlaw14_texts_w R129 A111 y108.length c112 y108 (SlR.of_row (inRow hin131 (List.Mem.tail _ (List.Mem.head _))) hr114 (IM.le_nil _)) rfl hcap127 A122 y119.length c123 y119 (SlR.of_row (inRow hin131 (List.Mem.head _)) hr125 (IM.le_nil _)) rfl hcap128  _ hy133) ?_)
                  rintro _ _ _ ⟨rfl, rfl⟩
                  refine OpsJ.put rfl (OpJ.pure (OpP.pick_t rfl hc104 rfl) ?_)
                  refine OpsJ.put rfl (OpJ.pure (OpP.move rfl) ?_)
                  by_cases hc135 : y132 = true
                  · rw [if_pos hc135] at h134
                    refine OpsJ.guard_y rfl rfl rfl rfl hc135 ?_
                    refine OpsJ.put rfl (OpJ.pure (OpP.move rfl) ?_)
                    refine OpsJ.guard_y rfl rfl rfl rfl hc135 ?_
                    obtain ⟨y139, hy140, h141⟩ := bind_ok h134
                    clear h134
                    refine OpsJ.put rfl (OpJ.call0 rfl (fun R136 hle137 hin138 => part_Wild_w R136 A0_ p0_t.length c0_ p0_t (SlR.mono hA0_ (IM.le_trans (IM.le_refl _) hle137)) rfl hc0_  _ hy140) ?_)
                    rintro _ _ _ ⟨rfl, rfl⟩
                    refine OpsJ.guard_y rfl rfl rfl rfl hc135 ?_
                    refine OpsJ.put rfl (OpJ.pure (OpP.move rfl) ?_)
                    refine OpsJ.guard_y rfl rfl rfl rfl hc135 ?_
                    obtain ⟨y145, hy146, h147⟩ := bind_ok h141
                    clear h141
                    refine OpsJ.put rfl (OpJ.call0 rfl (fun R142 hle143 hin144 => winnowerref14_Wild_w R142 A0_ p0_t.length c0_ p0_t (SlR.mono hA0_ (IM.le_trans (IM.le_refl _) hle143)) rfl hc0_  _ hy146) ?_)
                    rintro _ _ _ ⟨rfl, rfl⟩
                    refine OpsJ.guard_y rfl rfl rfl rfl hc135 ?_
                    refine OpsJ.put rfl (OpJ.pure (OpP.eql rfl rfl) ?_)
                    refine OpsJ.put rfl (OpJ.pure (OpP.pick_t rfl hc135 rfl) ?_)
                    refine OpsJ.put rfl (OpJ.pure (OpP.move rfl) ?_)
                    by_cases hc148 : y139 = y145
                    · rw [if_pos hc148] at h147
                      refine OpsJ.guard_y rfl rfl rfl rfl (decide_eq_true hc148) ?_
                      refine OpsJ.put rfl (OpJ.pure (OpP.move rfl) ?_)
                      refine OpsJ.guard_y rfl rfl rfl rfl (decide_eq_true hc148) ?_
                      refine OpsJ.put rfl (OpJ.pure (OpP.move rfl) ?_)
                      refine OpsJ.guard_y rfl rfl rfl rfl (decide_eq_true hc148) ?_
                      obtain ⟨y152, hy153, h154⟩ := bind_ok h147
                      clear h147
                      refine OpsJ.put rfl (OpJ.call0 rfl (fun R149 hle150 hin151 => part_Same_w R149 A0_ p0_t.length c0_ p0_t (SlR.mono hA0_ (IM.le_trans (IM.le_refl _) hle150)) rfl hc0_ A2_ p2_b.length c2_ p2_b (SlR.mono hA2_ (IM.le_trans (IM.le_refl _) hle150)) rfl hc2_  _ hy153) ?_)
                      rintro _ _ _ ⟨rfl, rfl⟩
                      refine OpsJ.guard_y rfl rfl rfl rfl (decide_eq_true hc148) ?_
                      refine OpsJ.put rfl (OpJ.pure (OpP.move rfl) ?_)
                      refine OpsJ.guard_y rfl rfl rfl rfl (decide_eq_true hc148) ?_
                      refine OpsJ.put rfl (OpJ.pure (OpP.move rfl) ?_)
                      refine OpsJ.guard_y rfl rfl rfl rfl (decide_eq_true hc148) ?_
                      obtain ⟨y158, hy159, h160⟩ := bind_ok h154
                      clear h154
                      refine OpsJ.put rfl (OpJ.call0 rfl (fun R155 hle156 hin157 => winnowerref14_Same_w R155 A0_ p0_t.length c0_ p0_t (SlR.mono hA0_ (IM.le_trans (IM.le_refl _) hle156)) rfl hc0_ A2_ p2_b.length c2_ p2_b (SlR.mono hA2_ (IM.le_trans (IM.le_refl _) hle156)) rfl hc2_  _ hy159) ?_)
                      rintro _ _ _ ⟨rfl, rfl⟩
                      refine OpsJ.guard_y rfl rfl rfl rfl (decide_eq_true hc148) ?_
                      refine OpsJ.put rfl (OpJ.pure (OpP.eql_bool rfl rfl) ?_)
                      refine OpsJ.put rfl (OpJ.pure (OpP.pick_t rfl (decide_eq_true hc148) rfl) ?_)
                      refine OpsJ.put rfl (OpJ.pure (OpP.move rfl) ?_)
                      by_cases hc161 : (y152 == y158) = true
                      · rw [if_pos hc161] at h160
                        refine OpsJ.guard_y rfl rfl rfl rfl hc161 ?_
                        refine OpsJ.put rfl (OpJ.pure (OpP.move rfl) ?_)
                        refine OpsJ.guard_y rfl rfl rfl rfl hc161 ?_
                        refine OpsJ.put rfl (OpJ.pure (OpP.move rfl) ?_)
                        refine OpsJ.guard_y rfl rfl rfl rfl hc161 ?_
                        obtain ⟨y165, hy166, h167⟩ := bind_ok h160
                        clear h160
                        refine OpsJ.put rfl (OpJ.call0 rfl (fun R162 hle163 hin164 => part_Same_w R162 A0_ p0_t.length c0_ p0_t (SlR.mono hA0_ (IM.le_trans (IM.le_refl _) hle163)) rfl hc0_ A0_ p0_t.length c0_ p0_t (SlR.mono hA0_ (IM.le_trans (IM.le_refl _) hle163)) rfl hc0_  _ hy166) ?_)
                        rintro _ _ _ ⟨rfl, rfl⟩
                        refine OpsJ.put rfl (OpJ.pure (OpP.pick_t rfl hc161 rfl) ?_)
                        refine OpsJ.put rfl (OpJ.pure (OpP.move rfl) ?_)
                        by_cases hc168 : y165 = true
                        · rw [if_pos hc168] at h167
                          refine OpsJ.guard_y rfl rfl rfl rfl hc168 ?_
                          obtain ⟨y172, hy173, h174⟩ := bind_ok h167
                          clear h167
                          refine OpsJ.put rfl (OpJ.call0 rfl (fun R169 hle170 hin171 => winnowerlaw14_known_w R169   _ hy173) ?_)
                          rintro _ _ _ ⟨rfl, rfl⟩
                          refine OpsJ.put rfl (OpJ.pure (OpP.pick_t rfl hc168 rfl) ?_)
                          refine OpsJ.put rfl (OpJ.pure (OpP.assign rfl) ?_)
                          refine OpsJ.nil ?_
                          refine CodeJ.ret' ?_
                          obtain rfl := Option.some.inj h174
                          exact Ret.mk0 ⟨rfl, rfl⟩ (ResJ.one Try.results10 rfl) (IM.le_refl _) (SubL.nil _)
                        · rw [if_neg hc168] at h167
                          refine OpsJ.guard_n rfl rfl rfl rfl (Bool.eq_false_iff.2 hc168) ?_
                          refine OpsJ.put rfl (OpJ.pure (OpP.pick_f rfl (Bool.eq_false_iff.2 hc168) rfl) ?_)
                          refine OpsJ.put rfl (OpJ.pure (OpP.assign rfl) ?_)
                          refine OpsJ.nil ?_
                          refine CodeJ.ret' ?_
                          obtain rfl := Option.some.inj h167
                          exact Ret.mk0 ⟨rfl, rfl⟩ (ResJ.one Try.results10 rfl) (IM.le_refl _) (SubL.nil _)
                      · rw [if_neg hc161] at h160
                        refine OpsJ.guard_n rfl rfl rfl rfl (Bool.eq_false_iff.2 hc161) ?_
                        refine OpsJ.guard_n rfl rfl rfl rfl (Bool.eq_false_iff.2 hc161) ?_
                        refine OpsJ.guard_n rfl rfl rfl rfl (Bool.eq_false_iff.2 hc161) ?_
                        refine OpsJ.put rfl (OpJ.pure (OpP.pick_f rfl (Bool.eq_false_iff.2 hc161) rfl) ?_)
                        refine OpsJ.put rfl (OpJ.pure (OpP.move rfl) ?_)
                        refine OpsJ.guard_n rfl rfl rfl rfl rfl ?_
                        refine OpsJ.put rfl (OpJ.pure (OpP.pick_f rfl rfl rfl) ?_)
                        refine OpsJ.put rfl (OpJ.pure (OpP.assign rfl) ?_)
                        refine OpsJ.nil ?_
                        refine CodeJ.ret' ?_
                        obtain rfl := Option.some.inj h160
                        exact Ret.mk0 ⟨rfl, rfl⟩ (ResJ.one Try.results10 rfl) (IM.le_refl _) (SubL.nil _)
                    · rw [if_neg hc148] at h147
                      refine OpsJ.guard_n rfl rfl rfl rfl (decide_eq_false hc148) ?_
                      refine OpsJ.guard_n rfl rfl rfl rfl (decide_eq_false hc148) ?_
                      refine OpsJ.guard_n rfl rfl rfl rfl (decide_eq_false hc148) ?_
                      refine OpsJ.guard_n rfl rfl rfl rfl (decide_eq_false hc148) ?_
                      refine OpsJ.guard_n rfl rfl rfl rfl (decide_eq_false hc148) ?_
                      refine OpsJ.guard_n rfl rfl rfl rfl (decide_eq_false hc148) ?_
                      refine OpsJ.guard_n rfl rfl rfl rfl (decide_eq_false hc148) ?_
                      refine OpsJ.put rfl (OpJ.pure (OpP.pick_f rfl (decide_eq_false hc148) rfl) ?_)
                      refine OpsJ.put rfl (OpJ.pure (OpP.move rfl) ?_)
                      refine OpsJ.guard_n rfl rfl rfl rfl rfl ?_
                      refine OpsJ.guard_n rfl rfl rfl rfl rfl ?_
                      refine OpsJ.guard_n rfl rfl rfl rfl rfl ?_
                      refine OpsJ.put rfl (OpJ.pure (OpP.pick_f rfl rfl rfl) ?_)
                      refine OpsJ.put rfl (OpJ.pure (OpP.move rfl) ?_)
                      refine OpsJ.guard_n rfl rfl rfl rfl rfl ?_
                      refine OpsJ.put rfl (OpJ.pure (OpP.pick_f rfl rfl rfl) ?_)
                      refine OpsJ.put rfl (OpJ.pure (OpP.assign rfl) ?_)
                      refine OpsJ.nil ?_
                      refine CodeJ.ret' ?_
                      obtain rfl := Option.some.inj h147
                      exact Ret.mk0 ⟨rfl, rfl⟩ (ResJ.one Try.results10 rfl) (IM.le_refl _) (SubL.nil _)
                  · rw [if_neg hc135] at h134
                    refine OpsJ.guard_n rfl rfl rfl rfl (Bool.eq_false_iff.2 hc135) ?_
                    refine OpsJ.guard_n rfl rfl rfl rfl (Bool.eq_false_iff.2 hc135) ?_
                    refine OpsJ.guard_n rfl rfl rfl rfl (Bool.eq_false_iff.2 hc135) ?_
                    refine OpsJ.guard_n rfl rfl rfl rfl (Bool.eq_false_iff.2 hc135) ?_
                    refine OpsJ.guard_n rfl rfl rfl rfl (Bool.eq_false_iff.2 hc135) ?_
                    refine OpsJ.put rfl (OpJ.pure (OpP.pick_f rfl (Bool.eq_false_iff.2 hc135) rfl) ?_)
                    refine OpsJ.put rfl (OpJ.pure (OpP.move rfl) ?_)
                    refine OpsJ.guard_n rfl rfl rfl rfl rfl ?_
                    refine OpsJ.guard_n rfl rfl rfl rfl rfl ?_
                    refine OpsJ.guard_n rfl rfl rfl rfl rfl ?_
                    refine OpsJ.guard_n rfl rfl rfl rfl rfl ?_
                    refine OpsJ.guard_n rfl rfl rfl rfl rfl ?_
                    refine OpsJ.guard_n rfl rfl rfl rfl rfl ?_
                    refine OpsJ.guard_n rfl rfl rfl rfl rfl ?_
                    refine OpsJ.put rfl (OpJ.pure (OpP.pick_f rfl rfl rfl) ?_)
                    refine OpsJ.put rfl (OpJ.pure (OpP.move rfl) ?_)
                    refine OpsJ.guard_n rfl rfl rfl rfl rfl ?_
                    refine OpsJ.guard_n rfl rfl rfl rfl rfl ?_
                    refine OpsJ.guard_n rfl rfl rfl rfl rfl ?_
                    refine OpsJ.put rfl (OpJ.pure (OpP.pick_f rfl rfl rfl) ?_)
                    refine OpsJ.put rfl (OpJ.pure (OpP.move rfl) ?_)
                    refine OpsJ.guard_n rfl rfl rfl rfl rfl ?_
                    refine OpsJ.put rfl (OpJ.pure (OpP.pick_f rfl rfl rfl) ?_)
                    refine OpsJ.put rfl (OpJ.pure (OpP.assign rfl) ?_)
                    refine OpsJ.nil ?_
                    refine CodeJ.ret' ?_
                    obtain rfl := Option.some.inj h134
                    exact Ret.mk0 ⟨rfl, rfl⟩ (ResJ.one Try.results10 rfl) (IM.le_refl _) (SubL.nil _)
                · rw [if_neg hc104] at h103
                  refine OpsJ.guard_n rfl rfl rfl rfl (Bool.eq_false_iff.2 hc104) ?_
                  refine OpsJ.guard_n rfl rfl rfl rfl (Bool.eq_false_iff.2 hc104) ?_
                  refine OpsJ.guard_n rfl rfl rfl rfl (Bool.eq_false_iff.2 hc104) ?_
                  refine OpsJ.guard_n rfl rfl rfl rfl (Bool.eq_false_iff.2 hc104) ?_
                  refine OpsJ.guard_n rfl rfl rfl rfl (Bool.eq_false_iff.2 hc104) ?_
                  refine OpsJ.guard_n rfl rfl rfl rfl (Bool.eq_false_iff.2 hc104) ?_
                  refine OpsJ.guard_n rfl rfl rfl rfl (Bool.eq_false_iff.2 hc104) ?_
                  refine OpsJ.put rfl (OpJ.pure (OpP.pick_f rfl (Bool.eq_false_iff.2 hc104) rfl) ?_)
                  refine OpsJ.put rfl (OpJ.pure (OpP.move rfl) ?_)
                  refine OpsJ.guard_n rfl rfl rfl rfl rfl ?_
                  refine OpsJ.guard_n rfl rfl rfl rfl rfl ?_
                  refine OpsJ.guard_n rfl rfl rfl rfl rfl ?_
                  refine OpsJ.guard_n rfl rfl rfl rfl rfl ?_
                  refine OpsJ.guard_n rfl rfl rfl rfl rfl ?_
                  refine OpsJ.put rfl (OpJ.pure (OpP.pick_f rfl rfl rfl) ?_)
                  refine OpsJ.put rfl (OpJ.pure (OpP.move rfl) ?_)
                  refine OpsJ.guard_n rfl rfl rfl rfl rfl ?_
                  refine OpsJ.guard_n rfl rfl rfl rfl rfl ?_
                  refine OpsJ.guard_n rfl rfl rfl rfl rfl ?_
                  refine OpsJ.guard_n rfl rfl rfl rfl rfl ?_
                  refine OpsJ.guard_n rfl rfl rfl rfl rfl ?_
                  refine OpsJ.guard_n rfl rfl rfl rfl rfl ?_
                  refine OpsJ.guard_n rfl rfl rfl rfl rfl ?_
                  refine OpsJ.put rfl (OpJ.pure (OpP.pick_f rfl rfl rfl) ?_)
                  refine OpsJ.put rfl (OpJ.pure (OpP.move rfl) ?_)
                  refine OpsJ.guard_n rfl rfl rfl rfl rfl ?_
                  refine OpsJ.guard_n rfl rfl rfl rfl rfl ?_
                  refine OpsJ.guard_n rfl rfl rfl rfl rfl ?_
                  refine OpsJ.put rfl (OpJ.pure (OpP.pick_f rfl rfl rfl) ?_)
                  refine OpsJ.put rfl (OpJ.pure (OpP.move rfl) ?_)
                  refine OpsJ.guard_n rfl rfl rfl rfl rfl ?_
                  refine OpsJ.put rfl (OpJ.pure (OpP.pick_f rfl rfl rfl) ?_)
                  refine OpsJ.put rfl (OpJ.pure (OpP.assign rfl) ?_)
                  refine OpsJ.nil ?_
                  refine CodeJ.ret' ?_
                  obtain rfl := Option.some.inj h103
                  exact Ret.mk0 ⟨rfl, rfl⟩ (ResJ.one Try.results10 rfl) (IM.le_refl _) (SubL.nil _)
              · rw [if_neg hc73] at h71
                refine OpsJ.guard_n rfl rfl rfl rfl (Bool.eq_false_iff.2 hc73) ?_
                refine OpsJ.guard_n rfl rfl rfl rfl (Bool.eq_false_iff.2 hc73) ?_
                refine OpsJ.guard_n rfl rfl rfl rfl (Bool.eq_false_iff.2 hc73) ?_
                refine OpsJ.guard_n rfl rfl rfl rfl (Bool.eq_false_iff.2 hc73) ?_
                refine OpsJ.guard_n rfl rfl rfl rfl (Bool.eq_false_iff.2 hc73) ?_
                refine OpsJ.guard_n rfl rfl rfl rfl (Bool.eq_false_iff.2 hc73) ?_
                refine OpsJ.guard_n rfl rfl rfl rfl (Bool.eq_false_iff.2 hc73) ?_
                refine OpsJ.put rfl (OpJ.pure (OpP.pick_f rfl (Bool.eq_false_iff.2 hc73) rfl) ?_)
                refine OpsJ.put rfl (OpJ.pure (OpP.move rfl) ?_)
                refine OpsJ.guard_n rfl rfl rfl rfl rfl ?_
                refine OpsJ.guard_n rfl rfl rfl rfl rfl ?_
                refine OpsJ.guard_n rfl rfl rfl rfl rfl ?_
                refine OpsJ.guard_n rfl rfl rfl rfl rfl ?_
                refine OpsJ.guard_n rfl rfl rfl rfl rfl ?_
                refine OpsJ.guard_n rfl rfl rfl rfl rfl ?_
                refine OpsJ.guard_n rfl rfl rfl rfl rfl ?_
                refine OpsJ.put rfl (OpJ.pure (OpP.pick_f rfl rfl rfl) ?_)
                refine OpsJ.put rfl (OpJ.pure (OpP.move rfl) ?_)
                refine OpsJ.guard_n rfl rfl rfl rfl rfl ?_
                refine OpsJ.guard_n rfl rfl rfl rfl rfl ?_
                refine OpsJ.guard_n rfl rfl rfl rfl rfl ?_
                refine OpsJ.guard_n rfl rfl rfl rfl rfl ?_
                refine OpsJ.guard_n rfl rfl rfl rfl rfl ?_
                refine OpsJ.put rfl (OpJ.pure (OpP.pick_f rfl rfl rfl) ?_)
                refine OpsJ.put rfl (OpJ.pure (OpP.move rfl) ?_)
                refine OpsJ.guard_n rfl rfl rfl rfl rfl ?_
                refine OpsJ.guard_n rfl rfl rfl rfl rfl ?_
                refine OpsJ.guard_n rfl rfl rfl rfl rfl ?_
                refine OpsJ.guard_n rfl rfl rfl rfl rfl ?_
                refine OpsJ.guard_n rfl rfl rfl rfl rfl ?_
                refine OpsJ.guard_n rfl rfl rfl rfl rfl ?_
                refine OpsJ.guard_n rfl rfl rfl rfl rfl ?_
                refine OpsJ.put rfl (OpJ.pure (OpP.pick_f rfl rfl rfl) ?_)
                refine OpsJ.put rfl (OpJ.pure (OpP.move rfl) ?_)
                refine OpsJ.guard_n rfl rfl rfl rfl rfl ?_
                refine OpsJ.guard_n rfl rfl rfl rfl rfl ?_
                refine OpsJ.guard_n rfl rfl rfl rfl rfl ?_
                refine OpsJ.put rfl (OpJ.pure (OpP.pick_f rfl rfl rfl) ?_)
                refine OpsJ.put rfl (OpJ.pure (OpP.move rfl) ?_)
                refine OpsJ.guard_n rfl rfl rfl rfl rfl ?_
                refine OpsJ.put rfl (OpJ.pure (OpP.pick_f rfl rfl rfl) ?_)
                refine OpsJ.put rfl (OpJ.pure (OpP.assign rfl) ?_)
                refine OpsJ.nil ?_
                refine CodeJ.ret' ?_
                obtain rfl := Option.some.inj h71
                exact Ret.mk0 ⟨rfl, rfl⟩ (ResJ.one Try.results10 rfl) (IM.le_refl _) (SubL.nil _)
            · rw [if_neg hc72] at h71
              refine OpsJ.guard_n rfl rfl rfl rfl (decide_eq_false hc72) ?_
              refine OpsJ.guard_n rfl rfl rfl rfl (decide_eq_false hc72) ?_
              refine OpsJ.guard_y rfl rfl rfl rfl (decide_eq_true hc65) ?_
              refine OpsJ.put rfl (OpJ.pure (OpP.pick_f rfl (decide_eq_false hc72) rfl) ?_)
              refine OpsJ.guard_y rfl rfl rfl rfl (decide_eq_true hc65) ?_
              refine OpsJ.put rfl (OpJ.pure (OpP.eql_bool rfl rfl) ?_)
              refine OpsJ.put rfl (OpJ.pure (OpP.pick_t rfl (decide_eq_true hc65) rfl) ?_)
              refine OpsJ.put rfl (OpJ.pure (OpP.move rfl) ?_)
              by_cases hc175 : (y69 == false) = true
              · rw [if_pos hc175] at h71
                refine OpsJ.guard_y rfl rfl rfl rfl hc175 ?_
                refine OpsJ.put rfl (OpJ.pure (OpP.move rfl) ?_)
                refine OpsJ.guard_y rfl rfl rfl rfl hc175 ?_
                refine OpsJ.put rfl (OpJ.pure (OpP.move rfl) ?_)
                refine OpsJ.guard_y rfl rfl rfl rfl hc175 ?_
                obtain ⟨y179, hy180, h181⟩ := bind_ok h71
                clear h71
                refine OpsJ.put rfl (OpJ.call1 rfl (fun R176 hle177 hin178 => part_Merge_w R176 A0_ p0_t.length c0_ p0_t (SlR.mono hA0_ (IM.le_trans (IM.le_refl _) hle177)) rfl hc0_ A1_ p1_l.length c1_ p1_l (SlR.mono hA1_ (IM.le_trans (IM.le_refl _) hle177)) rfl hc1_  _ hy180) ?_)
                rintro _ _ _ ⟨A182, c183, cs184, rfl, hr185, rfl⟩
                refine OpsJ.guard_y rfl rfl rfl rfl hc175 ?_
                refine OpsJ.put rfl (OpJ.pure (OpP.move rfl) ?_)
                refine OpsJ.guard_y rfl rfl rfl rfl hc175 ?_
                refine OpsJ.put rfl (OpJ.pure (OpP.move rfl) ?_)
                refine OpsJ.guard_y rfl rfl rfl rfl hc175 ?_
                obtain ⟨y190, hy191, h192⟩ := bind_ok h181
                clear h181
                refine OpsJ.put rfl (OpJ.call1 rfl (fun R187 hle188 hin189 => winnowerref14_Merge_w R187 A0_ p0_t.length c0_ p0_t (SlR.mono hA0_ (IM.le_trans (IM.le_refl _) hle188)) rfl hc0_ A1_ p1_l.length c1_ p1_l (SlR.mono hA1_ (IM.le_trans (IM.le_refl _) hle188)) rfl hc1_  _ hy191) ?_)
                rintro _ _ _ ⟨A193, c194, cs195, rfl, hr196, rfl⟩
                refine OpsJ.guard_y rfl rfl rfl rfl hc175 ?_
                refine OpsJ.rowle (List.Perm.swap _ _ _) (fun hcap198 _ => ?_)
                refine OpsJ.rowle (List.Perm.refl _) (fun hcap199 _ => ?_)
                obtain ⟨y203, hy204, h205⟩ := bind_ok h192
                clear h192
                refine OpsJ.put rfl (OpJ.call0 rfl (fun R200 hle201 hin202 => winnowerref14_Same_w R200 A182 y179.length c183 y179 (SlR.of_row (inRow hin202 (List.Mem.tail _ (List.Mem.head _))) hr185 (IM.le_nil _)) rfl hcap198 A193 y190.length c194 y190 (SlR.of_row (inRow hin202 (List.Mem.head _)) hr196 (IM.le_nil _)) rfl hcap199  _ hy204) ?_)
                rintro _ _ _ ⟨rfl, rfl⟩
                refine OpsJ.put rfl (OpJ.pure (OpP.pick_t rfl hc175 rfl) ?_)
                refine OpsJ.put rfl (OpJ.pure (OpP.move rfl) ?_)
                by_cases hc206 : y203 = true
                · rw [if_pos hc206] at h205
                  refine OpsJ.guard_y rfl rfl rfl rfl hc206 ?_
                  refine OpsJ.put rfl (OpJ.pure (OpP.move rfl) ?_)
                  refine OpsJ.guard_y rfl rfl rfl rfl hc206 ?_
                  refine OpsJ.put rfl (OpJ.pure (OpP.move rfl) ?_)
                  refine OpsJ.guard_y rfl rfl rfl rfl hc206 ?_
                  obtain ⟨y210, hy211, h212⟩ := bind_ok h205
                  clear h205
                  refine OpsJ.put rfl (OpJ.call1 rfl (fun R207 hle208 hin209 => part_Vars_w R207 A0_ p0_t.length c0_ p0_t (SlR.mono hA0_ (IM.le_trans (IM.le_refl _) hle208)) rfl hc0_ A1_ p1_l.length c1_ p1_l (SlR.mono hA1_ (IM.le_trans (IM.le_refl _) hle208)) rfl hc1_  _ hy211) ?_)
                  rintro _ _ _ ⟨A213, c214, cs215, rfl, hr216, rfl⟩
                  refine OpsJ.guard_y rfl rfl rfl rfl hc206 ?_
                  refine OpsJ.put rfl (OpJ.pure (OpP.move rfl) ?_)
                  refine OpsJ.guard_y rfl rfl rfl rfl hc206 ?_
                  refine OpsJ.put rfl (OpJ.pure (OpP.move rfl) ?_)
                  refine OpsJ.guard_y rfl rfl rfl rfl hc206 ?_
                  obtain ⟨y221, hy222, h223⟩ := bind_ok h212
                  clear h212
                  refine OpsJ.put rfl (OpJ.call1 rfl (fun R218 hle219 hin220 => winnowerref14_Vars_w R218 A0_ p0_t.length c0_ p0_t (SlR.mono hA0_ (IM.le_trans (IM.le_refl _) hle219)) rfl hc0_ A1_ p1_l.length c1_ p1_l (SlR.mono hA1_ (IM.le_trans (IM.le_refl _) hle219)) rfl hc1_  _ hy222) ?_)
                  rintro _ _ _ ⟨A224, c225, cs226, rfl, hr227, rfl⟩
                  refine OpsJ.guard_y rfl rfl rfl rfl hc206 ?_
                  refine OpsJ.rowle (List.Perm.swap _ _ _) (fun hcap229 _ => ?_)
                  refine OpsJ.rowle (List.Perm.refl _) (fun hcap230 _ => ?_)
                  obtain ⟨y234, hy235, h236⟩ := bind_ok h223
                  clear h223
                  refine OpsJ.put rfl (OpJ.call0 rfl (fun R231 hle232 hin233 => winnowerlaw14_texts_w R231 A213 y210.length c214 y210 (SlR.of_row (inRow hin233 (List.Mem.tail _ (List.Mem.head _))) hr216 (IM.le_nil _)) rfl hcap229 A224 y221.length c225 y221 (SlR.of_row (inRow hin233 (List.Mem.head _)) hr227 (IM.le_nil _)) rfl hcap230  _ hy235) ?_)
                  rintro _ _ _ ⟨rfl, rfl⟩
                  refine OpsJ.put rfl (OpJ.pure (OpP.pick_t rfl hc206 rfl) ?_)
                  refine OpsJ.put rfl (OpJ.pure (OpP.move rfl) ?_)
                  by_cases hc237 : y234 = true
                  · rw [if_pos hc237] at h236
                    refine OpsJ.guard_y rfl rfl rfl rfl hc237 ?_
                    refine OpsJ.put rfl (OpJ.pure (OpP.move rfl) ?_)
                    refine OpsJ.guard_y rfl rfl rfl rfl hc237 ?_
                    obtain ⟨y241, hy242, h243⟩ := bind_ok h236
                    clear h236
                    refine OpsJ.put rfl (OpJ.call0 rfl (fun R238 hle239 hin240 => part_Wild_w R238 A0_ p0_t.length c0_ p0_t (SlR.mono hA0_ (IM.le_trans (IM.le_refl _) hle239)) rfl hc0_  _ hy242) ?_)
                    rintro _ _ _ ⟨rfl, rfl⟩
                    refine OpsJ.guard_y rfl rfl rfl rfl hc237 ?_
                    refine OpsJ.put rfl (OpJ.pure (OpP.move rfl) ?_)
                    refine OpsJ.guard_y rfl rfl rfl rfl hc237 ?_
                    obtain ⟨y247, hy248, h249⟩ := bind_ok h243
                    clear h243
                    refine OpsJ.put rfl (OpJ.call0 rfl (fun R244 hle245 hin246 => winnowerref14_Wild_w R244 A0_ p0_t.length c0_ p0_t (SlR.mono hA0_ (IM.le_trans (IM.le_refl _) hle245)) rfl hc0_  _ hy248) ?_)
                    rintro _ _ _ ⟨rfl, rfl⟩
                    refine OpsJ.guard_y rfl rfl rfl rfl hc237 ?_
                    refine OpsJ.put rfl (OpJ.pure (OpP.eql rfl rfl) ?_)
                    refine OpsJ.put rfl (OpJ.pure (OpP.pick_t rfl hc237 rfl) ?_)
                    refine OpsJ.put rfl (OpJ.pure (OpP.move rfl) ?_)
                    by_cases hc250 : y241 = y247
                    · rw [if_pos hc250] at h249
                      refine OpsJ.guard_y rfl rfl rfl rfl (decide_eq_true hc250) ?_
                      refine OpsJ.put rfl (OpJ.pure (OpP.move rfl) ?_)
                      refine OpsJ.guard_y rfl rfl rfl rfl (decide_eq_true hc250) ?_
                      refine OpsJ.put rfl (OpJ.pure (OpP.move rfl) ?_)
                      refine OpsJ.guard_y rfl rfl rfl rfl (decide_eq_true hc250) ?_
                      obtain ⟨y254, hy255, h256⟩ := bind_ok h249
                      clear h249
                      refine OpsJ.put rfl (OpJ.call0 rfl (fun R251 hle252 hin253 => part_Same_w R251 A0_ p0_t.length c0_ p0_t (SlR.mono hA0_ (IM.le_trans (IM.le_refl _) hle252)) rfl hc0_ A2_ p2_b.length c2_ p2_b (SlR.mono hA2_ (IM.le_trans (IM.le_refl _) hle252)) rfl hc2_  _ hy255) ?_)
                      rintro _ _ _ ⟨rfl, rfl⟩
                      refine OpsJ.guard_y rfl rfl rfl rfl (decide_eq_true hc250) ?_
                      refine OpsJ.put rfl (OpJ.pure (OpP.move rfl) ?_)
                      refine OpsJ.guard_y rfl rfl rfl rfl (decide_eq_true hc250) ?_
                      refine OpsJ.put rfl (OpJ.pure (OpP.move rfl) ?_)
                      refine OpsJ.guard_y rfl rfl rfl rfl (decide_eq_true hc250) ?_
                      obtain ⟨y260, hy261, h262⟩ := bind_ok h256
                      clear h256
                      refine OpsJ.put rfl (OpJ.call0 rfl (fun R257 hle258 hin259 => winnowerref14_Same_w R257 A0_ p0_t.length c0_ p0_t (SlR.mono hA0_ (IM.le_trans (IM.le_refl _) hle258)) rfl hc0_ A2_ p2_b.length c2_ p2_b (SlR.mono hA2_ (IM.le_trans (IM.le_refl _) hle258)) rfl hc2_  _ hy261) ?_)
                      rintro _ _ _ ⟨rfl, rfl⟩
                      refine OpsJ.guard_y rfl rfl rfl rfl (decide_eq_true hc250) ?_
                      refine OpsJ.put rfl (OpJ.pure (OpP.eql_bool rfl rfl) ?_)
                      refine OpsJ.put rfl (OpJ.pure (OpP.pick_t rfl (decide_eq_true hc250) rfl) ?_)
                      refine OpsJ.put rfl (OpJ.pure (OpP.move rfl) ?_)
                      by_cases hc263 : (y254 == y260) = true
                      · rw [if_pos hc263] at h262
                        refine OpsJ.guard_y rfl rfl rfl rfl hc263 ?_
                        refine OpsJ.put rfl (OpJ.pure (OpP.move rfl) ?_)
                        refine OpsJ.guard_y rfl rfl rfl rfl hc263 ?_
                        refine OpsJ.put rfl (OpJ.pure (OpP.move rfl) ?_)
                        refine OpsJ.guard_y rfl rfl rfl rfl hc263 ?_
                        obtain ⟨y267, hy268, h269⟩ := bind_ok h262
                        clear h262
                        refine OpsJ.put rfl (OpJ.call0 rfl (fun R264 hle265 hin266 => part_Same_w R264 A0_ p0_t.length c0_ p0_t (SlR.mono hA0_ (IM.le_trans (IM.le_refl _) hle265)) rfl hc0_ A0_ p0_t.length c0_ p0_t (SlR.mono hA0_ (IM.le_trans (IM.le_refl _) hle265)) rfl hc0_  _ hy268) ?_)
                        rintro _ _ _ ⟨rfl, rfl⟩
                        refine OpsJ.put rfl (OpJ.pure (OpP.pick_t rfl hc263 rfl) ?_)
                        refine OpsJ.put rfl (OpJ.pure (OpP.move rfl) ?_)
                        by_cases hc270 : y267 = true
                        · rw [if_pos hc270] at h269
                          refine OpsJ.guard_y rfl rfl rfl rfl hc270 ?_
                          obtain ⟨y274, hy275, h276⟩ := bind_ok h269
                          clear h269
                          refine OpsJ.put rfl (OpJ.call0 rfl (fun R271 hle272 hin273 => winnowerlaw14_known_w R271   _ hy275) ?_)
                          rintro _ _ _ ⟨rfl, rfl⟩
                          refine OpsJ.put rfl (OpJ.pure (OpP.pick_t rfl hc270 rfl) ?_)
                          refine OpsJ.put rfl (OpJ.pure (OpP.assign rfl) ?_)
                          refine OpsJ.nil ?_
                          refine CodeJ.ret' ?_
                          obtain rfl := Option.some.inj h276
                          exact Ret.mk0 ⟨rfl, rfl⟩ (ResJ.one Try.results10 rfl) (IM.le_refl _) (SubL.nil _)
                        · rw [if_neg hc270] at h269
                          refine OpsJ.guard_n rfl rfl rfl rfl (Bool.eq_false_iff.2 hc270) ?_
                          refine OpsJ.put rfl (OpJ.pure (OpP.pick_f rfl (Bool.eq_false_iff.2 hc270) rfl) ?_)
                          refine OpsJ.put rfl (OpJ.pure (OpP.assign rfl) ?_)
                          refine OpsJ.nil ?_
                          refine CodeJ.ret' ?_
                          obtain rfl := Option.some.inj h269
                          exact Ret.mk0 ⟨rfl, rfl⟩ (ResJ.one Try.results10 rfl) (IM.le_refl _) (SubL.nil _)
                      · rw [if_neg hc263] at h262
                        refine OpsJ.guard_n rfl rfl rfl rfl (Bool.eq_false_iff.2 hc263) ?_
                        refine OpsJ.guard_n rfl rfl rfl rfl (Bool.eq_false_iff.2 hc263) ?_
                        refine OpsJ.guard_n rfl rfl rfl rfl (Bool.eq_false_iff.2 hc263) ?_
                        refine OpsJ.put rfl (OpJ.pure (OpP.pick_f rfl (Bool.eq_false_iff.2 hc263) rfl) ?_)
                        refine OpsJ.put rfl (OpJ.pure (OpP.move rfl) ?_)
                        refine OpsJ.guard_n rfl rfl rfl rfl rfl ?_
                        refine OpsJ.put rfl (OpJ.pure (OpP.pick_f rfl rfl rfl) ?_)
                        refine OpsJ.put rfl (OpJ.pure (OpP.assign rfl) ?_)
                        refine OpsJ.nil ?_
                        refine CodeJ.ret' ?_
                        obtain rfl := Option.some.inj h262
                        exact Ret.mk0 ⟨rfl, rfl⟩ (ResJ.one Try.results10 rfl) (IM.le_refl _) (SubL.nil _)
                    · rw [if_neg hc250] at h249
                      refine OpsJ.guard_n rfl rfl rfl rfl (decide_eq_false hc250) ?_
                      refine OpsJ.guard_n rfl rfl rfl rfl (decide_eq_false hc250) ?_
                      refine OpsJ.guard_n rfl rfl rfl rfl (decide_eq_false hc250) ?_
                      refine OpsJ.guard_n rfl rfl rfl rfl (decide_eq_false hc250) ?_
                      refine OpsJ.guard_n rfl rfl rfl rfl (decide_eq_false hc250) ?_
                      refine OpsJ.guard_n rfl rfl rfl rfl (decide_eq_false hc250) ?_
                      refine OpsJ.guard_n rfl rfl rfl rfl (decide_eq_false hc250) ?_
                      refine OpsJ.put rfl (OpJ.pure (OpP.pick_f rfl (decide_eq_false hc250) rfl) ?_)
                      refine OpsJ.put rfl (OpJ.pure (OpP.move rfl) ?_)
                      refine OpsJ.guard_n rfl rfl rfl rfl rfl ?_
                      refine OpsJ.guard_n rfl rfl rfl rfl rfl ?_
                      refine OpsJ.guard_n rfl rfl rfl rfl rfl ?_
                      refine OpsJ.put rfl (OpJ.pure (OpP.pick_f rfl rfl rfl) ?_)
                      refine OpsJ.put rfl (OpJ.pure (OpP.move rfl) ?_)
                      refine OpsJ.guard_n rfl rfl rfl rfl rfl ?_
                      refine OpsJ.put rfl (OpJ.pure (OpP.pick_f rfl rfl rfl) ?_)
                      refine OpsJ.put rfl (OpJ.pure (OpP.assign rfl) ?_)
                      refine OpsJ.nil ?_
                      refine CodeJ.ret' ?_
                      obtain rfl := Option.some.inj h249
                      exact Ret.mk0 ⟨rfl, rfl⟩ (ResJ.one Try.results10 rfl) (IM.le_refl _) (SubL.nil _)
                  · rw [if_neg hc237] at h236
                    refine OpsJ.guard_n rfl rfl rfl rfl (Bool.eq_false_iff.2 hc237) ?_
                    refine OpsJ.guard_n rfl rfl rfl rfl (Bool.eq_false_iff.2 hc237) ?_
                    refine OpsJ.guard_n rfl rfl rfl rfl (Bool.eq_false_iff.2 hc237) ?_
                    refine OpsJ.guard_n rfl rfl rfl rfl (Bool.eq_false_iff.2 hc237) ?_
                    refine OpsJ.guard_n rfl rfl rfl rfl (Bool.eq_false_iff.2 hc237) ?_
                    refine OpsJ.put rfl (OpJ.pure (OpP.pick_f rfl (Bool.eq_false_iff.2 hc237) rfl) ?_)
                    refine OpsJ.put rfl (OpJ.pure (OpP.move rfl) ?_)
                    refine OpsJ.guard_n rfl rfl rfl rfl rfl ?_
                    refine OpsJ.guard_n rfl rfl rfl rfl rfl ?_
                    refine OpsJ.guard_n rfl rfl rfl rfl rfl ?_
                    refine OpsJ.guard_n rfl rfl rfl rfl rfl ?_
                    refine OpsJ.guard_n rfl rfl rfl rfl rfl ?_
                    refine OpsJ.guard_n rfl rfl rfl rfl rfl ?_
                    refine OpsJ.guard_n rfl rfl rfl rfl rfl ?_
                    refine OpsJ.put rfl (OpJ.pure (OpP.pick_f rfl rfl rfl) ?_)
                    refine OpsJ.put rfl (OpJ.pure (OpP.move rfl) ?_)
                    refine OpsJ.guard_n rfl rfl rfl rfl rfl ?_
                    refine OpsJ.guard_n rfl rfl rfl rfl rfl ?_
                    refine OpsJ.guard_n rfl rfl rfl rfl rfl ?_
                    refine OpsJ.put rfl (OpJ.pure (OpP.pick_f rfl rfl rfl) ?_)
                    refine OpsJ.put rfl (OpJ.pure (OpP.move rfl) ?_)
                    refine OpsJ.guard_n rfl rfl rfl rfl rfl ?_
                    refine OpsJ.put rfl (OpJ.pure (OpP.pick_f rfl rfl rfl) ?_)
                    refine OpsJ.put rfl (OpJ.pure (OpP.assign rfl) ?_)
                    refine OpsJ.nil ?_
                    refine CodeJ.ret' ?_
                    obtain rfl := Option.some.inj h236
                    exact Ret.mk0 ⟨rfl, rfl⟩ (ResJ.one Try.results10 rfl) (IM.le_refl _) (SubL.nil _)
                · rw [if_neg hc206] at h205
                  refine OpsJ.guard_n rfl rfl rfl rfl (Bool.eq_false_iff.2 hc206) ?_
                  refine OpsJ.guard_n rfl rfl rfl rfl (Bool.eq_false_iff.2 hc206) ?_
                  refine OpsJ.guard_n rfl rfl rfl rfl (Bool.eq_false_iff.2 hc206) ?_
                  refine OpsJ.guard_n rfl rfl rfl rfl (Bool.eq_false_iff.2 hc206) ?_
                  refine OpsJ.guard_n rfl rfl rfl rfl (Bool.eq_false_iff.2 hc206) ?_
                  refine OpsJ.guard_n rfl rfl rfl rfl (Bool.eq_false_iff.2 hc206) ?_
                  refine OpsJ.guard_n rfl rfl rfl rfl (Bool.eq_false_iff.2 hc206) ?_
                  refine OpsJ.put rfl (OpJ.pure (OpP.pick_f rfl (Bool.eq_false_iff.2 hc206) rfl) ?_)
                  refine OpsJ.put rfl (OpJ.pure (OpP.move rfl) ?_)
                  refine OpsJ.guard_n rfl rfl rfl rfl rfl ?_
                  refine OpsJ.guard_n rfl rfl rfl rfl rfl ?_
                  refine OpsJ.guard_n rfl rfl rfl rfl rfl ?_
                  refine OpsJ.guard_n rfl rfl rfl rfl rfl ?_
                  refine OpsJ.guard_n rfl rfl rfl rfl rfl ?_
                  refine OpsJ.put rfl (OpJ.pure (OpP.pick_f rfl rfl rfl) ?_)
                  refine OpsJ.put rfl (OpJ.pure (OpP.move rfl) ?_)
                  refine OpsJ.guard_n rfl rfl rfl rfl rfl ?_
                  refine OpsJ.guard_n rfl rfl rfl rfl rfl ?_
                  refine OpsJ.guard_n rfl rfl rfl rfl rfl ?_
                  refine OpsJ.guard_n rfl rfl rfl rfl rfl ?_
                  refine OpsJ.guard_n rfl rfl rfl rfl rfl ?_
                  refine OpsJ.guard_n rfl rfl rfl rfl rfl ?_
                  refine OpsJ.guard_n rfl rfl rfl rfl rfl ?_
                  refine OpsJ.put rfl (OpJ.pure (OpP.pick_f rfl rfl rfl) ?_)
                  refine OpsJ.put rfl (OpJ.pure (OpP.move rfl) ?_)
                  refine OpsJ.guard_n rfl rfl rfl rfl rfl ?_
                  refine OpsJ.guard_n rfl rfl rfl rfl rfl ?_
                  refine OpsJ.guard_n rfl rfl rfl rfl rfl ?_
                  refine OpsJ.put rfl (OpJ.pure (OpP.pick_f rfl rfl rfl) ?_)
                  refine OpsJ.put rfl (OpJ.pure (OpP.move rfl) ?_)
                  refine OpsJ.guard_n rfl rfl rfl rfl rfl ?_
                  refine OpsJ.put rfl (OpJ.pure (OpP.pick_f rfl rfl rfl) ?_)
                  refine OpsJ.put rfl (OpJ.pure (OpP.assign rfl) ?_)
                  refine OpsJ.nil ?_
                  refine CodeJ.ret' ?_
                  obtain rfl := Option.some.inj h205
                  exact Ret.mk0 ⟨rfl, rfl⟩ (ResJ.one Try.results10 rfl) (IM.le_refl _) (SubL.nil _)
              · rw [if_neg hc175] at h71
                refine OpsJ.guard_n rfl rfl rfl rfl (Bool.eq_false_iff.2 hc175) ?_
                refine OpsJ.guard_n rfl rfl rfl rfl (Bool.eq_false_iff.2 hc175) ?_
                refine OpsJ.guard_n rfl rfl rfl rfl (Bool.eq_false_iff.2 hc175) ?_
                refine OpsJ.guard_n rfl rfl rfl rfl (Bool.eq_false_iff.2 hc175) ?_
                refine OpsJ.guard_n rfl rfl rfl rfl (Bool.eq_false_iff.2 hc175) ?_
                refine OpsJ.guard_n rfl rfl rfl rfl (Bool.eq_false_iff.2 hc175) ?_
                refine OpsJ.guard_n rfl rfl rfl rfl (Bool.eq_false_iff.2 hc175) ?_
                refine OpsJ.put rfl (OpJ.pure (OpP.pick_f rfl (Bool.eq_false_iff.2 hc175) rfl) ?_)
                refine OpsJ.put rfl (OpJ.pure (OpP.move rfl) ?_)
                refine OpsJ.guard_n rfl rfl rfl rfl rfl ?_
                refine OpsJ.guard_n rfl rfl rfl rfl rfl ?_
                refine OpsJ.guard_n rfl rfl rfl rfl rfl ?_
                refine OpsJ.guard_n rfl rfl rfl rfl rfl ?_
                refine OpsJ.guard_n rfl rfl rfl rfl rfl ?_
                refine OpsJ.guard_n rfl rfl rfl rfl rfl ?_
                refine OpsJ.guard_n rfl rfl rfl rfl rfl ?_
                refine OpsJ.put rfl (OpJ.pure (OpP.pick_f rfl rfl rfl) ?_)
                refine OpsJ.put rfl (OpJ.pure (OpP.move rfl) ?_)
                refine OpsJ.guard_n rfl rfl rfl rfl rfl ?_
                refine OpsJ.guard_n rfl rfl rfl rfl rfl ?_
                refine OpsJ.guard_n rfl rfl rfl rfl rfl ?_
                refine OpsJ.guard_n rfl rfl rfl rfl rfl ?_
                refine OpsJ.guard_n rfl rfl rfl rfl rfl ?_
                refine OpsJ.put rfl (OpJ.pure (OpP.pick_f rfl rfl rfl) ?_)
                refine OpsJ.put rfl (OpJ.pure (OpP.move rfl) ?_)
                refine OpsJ.guard_n rfl rfl rfl rfl rfl ?_
                refine OpsJ.guard_n rfl rfl rfl rfl rfl ?_
                refine OpsJ.guard_n rfl rfl rfl rfl rfl ?_
                refine OpsJ.guard_n rfl rfl rfl rfl rfl ?_
                refine OpsJ.guard_n rfl rfl rfl rfl rfl ?_
                refine OpsJ.guard_n rfl rfl rfl rfl rfl ?_
                refine OpsJ.guard_n rfl rfl rfl rfl rfl ?_
                refine OpsJ.put rfl (OpJ.pure (OpP.pick_f rfl rfl rfl) ?_)
                refine OpsJ.put rfl (OpJ.pure (OpP.move rfl) ?_)
                refine OpsJ.guard_n rfl rfl rfl rfl rfl ?_
                refine OpsJ.guard_n rfl rfl rfl rfl rfl ?_
                refine OpsJ.guard_n rfl rfl rfl rfl rfl ?_
                refine OpsJ.put rfl (OpJ.pure (OpP.pick_f rfl rfl rfl) ?_)
                refine OpsJ.put rfl (OpJ.pure (OpP.move rfl) ?_)
                refine OpsJ.guard_n rfl rfl rfl rfl rfl ?_
                refine OpsJ.put rfl (OpJ.pure (OpP.pick_f rfl rfl rfl) ?_)
                refine OpsJ.put rfl (OpJ.pure (OpP.assign rfl) ?_)
                refine OpsJ.nil ?_
                refine CodeJ.ret' ?_
                obtain rfl := Option.some.inj h71
                exact Ret.mk0 ⟨rfl, rfl⟩ (ResJ.one Try.results10 rfl) (IM.le_refl _) (SubL.nil _)
          · rw [if_neg hc65] at h64
            refine OpsJ.guard_n rfl rfl rfl rfl (decide_eq_false hc65) ?_
            refine OpsJ.guard_n rfl rfl rfl rfl (decide_eq_false hc65) ?_
            refine OpsJ.guard_n rfl rfl rfl rfl (decide_eq_false hc65) ?_
            refine OpsJ.guard_n rfl rfl rfl rfl (decide_eq_false hc65) ?_
            refine OpsJ.guard_n rfl rfl rfl rfl (decide_eq_false hc65) ?_
            refine OpsJ.guard_n rfl rfl rfl rfl (decide_eq_false hc65) ?_
            refine OpsJ.guard_n rfl rfl rfl rfl (decide_eq_false hc65) ?_
            refine OpsJ.guard_n rfl rfl rfl rfl (decide_eq_false hc65) ?_
            refine OpsJ.gund rfl rfl rfl rfl ?_
            refine OpsJ.gund rfl rfl rfl rfl ?_
            refine OpsJ.guard_n rfl rfl rfl rfl (decide_eq_false hc65) ?_
            refine OpsJ.guard_n rfl rfl rfl rfl (decide_eq_false hc65) ?_
            refine OpsJ.put rfl (OpJ.pure (OpP.pick_f rfl (decide_eq_false hc65) rfl) ?_)
            refine OpsJ.put rfl (OpJ.pure (OpP.move rfl) ?_)
            refine OpsJ.guard_n rfl rfl rfl rfl rfl ?_
            refine OpsJ.guard_n rfl rfl rfl rfl rfl ?_
            refine OpsJ.guard_n rfl rfl rfl rfl rfl ?_
            refine OpsJ.guard_n rfl rfl rfl rfl rfl ?_
            refine OpsJ.guard_n rfl rfl rfl rfl rfl ?_
            refine OpsJ.guard_n rfl rfl rfl rfl rfl ?_
            refine OpsJ.guard_n rfl rfl rfl rfl rfl ?_
            refine OpsJ.put rfl (OpJ.pure (OpP.pick_f rfl rfl rfl) ?_)
            refine OpsJ.put rfl (OpJ.pure (OpP.move rfl) ?_)
            refine OpsJ.guard_n rfl rfl rfl rfl rfl ?_
            refine OpsJ.guard_n rfl rfl rfl rfl rfl ?_
            refine OpsJ.guard_n rfl rfl rfl rfl rfl ?_
            refine OpsJ.guard_n rfl rfl rfl rfl rfl ?_
            refine OpsJ.guard_n rfl rfl rfl rfl rfl ?_
            refine OpsJ.guard_n rfl rfl rfl rfl rfl ?_
            refine OpsJ.guard_n rfl rfl rfl rfl rfl ?_
            refine OpsJ.put rfl (OpJ.pure (OpP.pick_f rfl rfl rfl) ?_)
            refine OpsJ.put rfl (OpJ.pure (OpP.move rfl) ?_)
            refine OpsJ.guard_n rfl rfl rfl rfl rfl ?_
            refine OpsJ.guard_n rfl rfl rfl rfl rfl ?_
            refine OpsJ.guard_n rfl rfl rfl rfl rfl ?_
            refine OpsJ.guard_n rfl rfl rfl rfl rfl ?_
            refine OpsJ.guard_n rfl rfl rfl rfl rfl ?_
            refine OpsJ.put rfl (OpJ.pure (OpP.pick_f rfl rfl rfl) ?_)
            refine OpsJ.put rfl (OpJ.pure (OpP.move rfl) ?_)
            refine OpsJ.guard_n rfl rfl rfl rfl rfl ?_
            refine OpsJ.guard_n rfl rfl rfl rfl rfl ?_
            refine OpsJ.guard_n rfl rfl rfl rfl rfl ?_
            refine OpsJ.guard_n rfl rfl rfl rfl rfl ?_
            refine OpsJ.guard_n rfl rfl rfl rfl rfl ?_
            refine OpsJ.guard_n rfl rfl rfl rfl rfl ?_
            refine OpsJ.guard_n rfl rfl rfl rfl rfl ?_
            refine OpsJ.put rfl (OpJ.pure (OpP.pick_f rfl rfl rfl) ?_)
            refine OpsJ.put rfl (OpJ.pure (OpP.move rfl) ?_)
            refine OpsJ.guard_n rfl rfl rfl rfl rfl ?_
            refine OpsJ.guard_n rfl rfl rfl rfl rfl ?_
            refine OpsJ.guard_n rfl rfl rfl rfl rfl ?_
            refine OpsJ.put rfl (OpJ.pure (OpP.pick_f rfl rfl rfl) ?_)
            refine OpsJ.put rfl (OpJ.pure (OpP.move rfl) ?_)
            refine OpsJ.guard_n rfl rfl rfl rfl rfl ?_
            refine OpsJ.put rfl (OpJ.pure (OpP.pick_f rfl rfl rfl) ?_)
            refine OpsJ.put rfl (OpJ.pure (OpP.assign rfl) ?_)
            refine OpsJ.nil ?_
            refine CodeJ.ret' ?_
            obtain rfl := Option.some.inj h64
            exact Ret.mk0 ⟨rfl, rfl⟩ (ResJ.one Try.results10 rfl) (IM.le_refl _) (SubL.nil _)
        · rw [if_neg hc58] at h57
          refine OpsJ.guard_n rfl rfl rfl rfl (Bool.eq_false_iff.2 hc58) ?_
          refine OpsJ.guard_n rfl rfl rfl rfl (Bool.eq_false_iff.2 hc58) ?_
          refine OpsJ.guard_n rfl rfl rfl rfl (Bool.eq_false_iff.2 hc58) ?_
          refine OpsJ.guard_n rfl rfl rfl rfl (Bool.eq_false_iff.2 hc58) ?_
          refine OpsJ.guard_n rfl rfl rfl rfl (Bool.eq_false_iff.2 hc58) ?_
          refine OpsJ.put rfl (OpJ.pure (OpP.pick_f rfl (Bool.eq_false_iff.2 hc58) rfl) ?_)
          refine OpsJ.put rfl (OpJ.pure (OpP.move rfl) ?_)
          refine OpsJ.guard_n rfl rfl rfl rfl rfl ?_
          refine OpsJ.guard_n rfl rfl rfl rfl rfl ?_
          refine OpsJ.guard_n rfl rfl rfl rfl rfl ?_
          refine OpsJ.guard_n rfl rfl rfl rfl rfl ?_
          refine OpsJ.guard_n rfl rfl rfl rfl rfl ?_
          refine OpsJ.guard_n rfl rfl rfl rfl rfl ?_
          refine OpsJ.guard_n rfl rfl rfl rfl rfl ?_
          refine OpsJ.guard_n rfl rfl rfl rfl rfl ?_
          refine OpsJ.gund rfl rfl rfl rfl ?_
          refine OpsJ.gund rfl rfl rfl rfl ?_
          refine OpsJ.guard_n rfl rfl rfl rfl rfl ?_
          refine OpsJ.guard_n rfl rfl rfl rfl rfl ?_
          refine OpsJ.put rfl (OpJ.pure (OpP.pick_f rfl rfl rfl) ?_)
          refine OpsJ.put rfl (OpJ.pure (OpP.move rfl) ?_)
          refine OpsJ.guard_n rfl rfl rfl rfl rfl ?_
          refine OpsJ.guard_n rfl rfl rfl rfl rfl ?_
          refine OpsJ.guard_n rfl rfl rfl rfl rfl ?_
          refine OpsJ.guard_n rfl rfl rfl rfl rfl ?_
          refine OpsJ.guard_n rfl rfl rfl rfl rfl ?_
          refine OpsJ.guard_n rfl rfl rfl rfl rfl ?_
          refine OpsJ.guard_n rfl rfl rfl rfl rfl ?_
          refine OpsJ.put rfl (OpJ.pure (OpP.pick_f rfl rfl rfl) ?_)
          refine OpsJ.put rfl (OpJ.pure (OpP.move rfl) ?_)
          refine OpsJ.guard_n rfl rfl rfl rfl rfl ?_
          refine OpsJ.guard_n rfl rfl rfl rfl rfl ?_
          refine OpsJ.guard_n rfl rfl rfl rfl rfl ?_
          refine OpsJ.guard_n rfl rfl rfl rfl rfl ?_
          refine OpsJ.guard_n rfl rfl rfl rfl rfl ?_
          refine OpsJ.guard_n rfl rfl rfl rfl rfl ?_
          refine OpsJ.guard_n rfl rfl rfl rfl rfl ?_
          refine OpsJ.put rfl (OpJ.pure (OpP.pick_f rfl rfl rfl) ?_)
          refine OpsJ.put rfl (OpJ.pure (OpP.move rfl) ?_)
          refine OpsJ.guard_n rfl rfl rfl rfl rfl ?_
          refine OpsJ.guard_n rfl rfl rfl rfl rfl ?_
          refine OpsJ.guard_n rfl rfl rfl rfl rfl ?_
          refine OpsJ.guard_n rfl rfl rfl rfl rfl ?_
          refine OpsJ.guard_n rfl rfl rfl rfl rfl ?_
          refine OpsJ.put rfl (OpJ.pure (OpP.pick_f rfl rfl rfl) ?_)
          refine OpsJ.put rfl (OpJ.pure (OpP.move rfl) ?_)
          refine OpsJ.guard_n rfl rfl rfl rfl rfl ?_
          refine OpsJ.guard_n rfl rfl rfl rfl rfl ?_
          refine OpsJ.guard_n rfl rfl rfl rfl rfl ?_
          refine OpsJ.guard_n rfl rfl rfl rfl rfl ?_
          refine OpsJ.guard_n rfl rfl rfl rfl rfl ?_
          refine OpsJ.guard_n rfl rfl rfl rfl rfl ?_
          refine OpsJ.guard_n rfl rfl rfl rfl rfl ?_
          refine OpsJ.put rfl (OpJ.pure (OpP.pick_f rfl rfl rfl) ?_)
          refine OpsJ.put rfl (OpJ.pure (OpP.move rfl) ?_)
          refine OpsJ.guard_n rfl rfl rfl rfl rfl ?_
          refine OpsJ.guard_n rfl rfl rfl rfl rfl ?_
          refine OpsJ.guard_n rfl rfl rfl rfl rfl ?_
          refine OpsJ.put rfl (OpJ.pure (OpP.pick_f rfl rfl rfl) ?_)
          refine OpsJ.put rfl (OpJ.pure (OpP.move rfl) ?_)
          refine OpsJ.guard_n rfl rfl rfl rfl rfl ?_
          refine OpsJ.put rfl (OpJ.pure (OpP.pick_f rfl rfl rfl) ?_)
          refine OpsJ.put rfl (OpJ.pure (OpP.assign rfl) ?_)
          refine OpsJ.nil ?_
          refine CodeJ.ret' ?_
          obtain rfl := Option.some.inj h57
          exact Ret.mk0 ⟨rfl, rfl⟩ (ResJ.one Try.results10 rfl) (IM.le_refl _) (SubL.nil _)
end Go.Proofs.Ytcbnamlioeiaeaa.FW
