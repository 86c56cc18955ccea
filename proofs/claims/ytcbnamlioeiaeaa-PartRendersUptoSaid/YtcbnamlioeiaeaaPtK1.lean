/- printed by ex.py: walks -/
import Derived.Test.YtcbnamlioeiaeaaX6
import Derived.Test.YtcbnamlioeiaeaaT2
import Derived.Test.YtcbnamlioeiaeaaPtQ
import Derived.Test.YtcbnamlioeiaeaaPtK0
namespace Go.Proofs.Ytcbnamlioeiaeaa.FW
open Go Go.RowKit Go.Proofs
set_option linter.unusedVariables false
set_option linter.unusedSimpArgs false
set_option maxRecDepth 100000
set_option maxHeartbeats 4000000
attribute [local irreducible] OpsJ CodeJ OpJ OpQ OpP QuietJ CallJ HoldJ StepAt Src RC SlR repL
theorem winnowerlaw14_PartMerges_w (R : IM) (A0_ : Option Addr) (n0_ c0_ : Nat) (p0_t : List (Bool × ByteArray)) (hA0_ : SlR R A0_ p0_t) (hn0_ : p0_t.length = n0_) (hc0_ : n0_ ≤ c0_) (A1_ : Option Addr) (n1_ c1_ : Nat) (p1_l : List (Int × ByteArray)) (hA1_ : SlR R A1_ p1_l) (hn1_ : p1_l.length = n1_) (hc1_ : n1_ ≤ c1_) (A2_ : Option Addr) (n2_ c2_ : Nat) (p2_m : List (Int × ByteArray)) (hA2_ : SlR R A2_ p2_m) (hn2_ : p2_m.length = n2_) (hc2_ : n2_ ≤ c2_) (y : Bool) (h : winnowerlaw14_PartMerges p0_t p1_l p2_m = some y) :
    CallJ Try.prog 5 #[.slice A0_ n0_ c0_, .slice A1_ n1_ c1_, .slice A2_ n2_ c2_] ⟨R, []⟩ (fun v D hs' => v = .bool y ∧ hs' = []) := by
  subst hn0_
  subst hn1_
  subst hn2_
  unfold winnowerlaw14_PartMerges at h
  refine CallJ.of3 Try.func5 rfl Try.ntmps5 rfl (fun W0 => ?_)
  refine CodeJ.seq' ?_
  refine CodeJ.region ?_
  refine OpsJ.put rfl (OpJ.pure (OpP.assign rfl) ?_)
  refine OpsJ.nil ?_
  refine CodeJ.seq' ?_
  refine CodeJ.seq' ?_
  refine CodeJ.region ?_
  refine OpsJ.put rfl (OpJ.pure (OpP.move rfl) ?_)
  obtain ⟨y4, hy5, h6⟩ := bind_ok h
  clear h
  refine OpsJ.put rfl (OpJ.call0 rfl (fun R1 hle2 hin3 => winnowerlaw14_wide_w R1 A0_ p0_t.length c0_ p0_t (SlR.mono hA0_ (IM.le_trans (IM.le_refl _) hle2)) rfl hc0_  _ hy5) ?_)
  rintro _ _ _ ⟨rfl, rfl⟩
  refine OpsJ.put rfl (OpJ.pure (OpP.move rfl) ?_)
  by_cases hc7 : y4 = true
  · rw [if_pos hc7] at h6
    refine OpsJ.guard_n rfl rfl rfl rfl hc7 ?_
    refine OpsJ.guard_n rfl rfl rfl rfl hc7 ?_
    refine OpsJ.put rfl (OpJ.pure (OpP.pick_t rfl hc7 rfl) ?_)
    refine OpsJ.put rfl (OpJ.pure (OpP.move rfl) ?_)
    refine OpsJ.guard_n rfl rfl rfl rfl rfl ?_
    refine OpsJ.guard_n rfl rfl rfl rfl rfl ?_
    refine OpsJ.put rfl (OpJ.pure (OpP.pick_t rfl rfl rfl) ?_)
    refine OpsJ.put rfl (OpJ.pure (OpP.move rfl) ?_)
    refine OpsJ.guard_n rfl rfl rfl rfl rfl ?_
    refine OpsJ.guard_n rfl rfl rfl rfl rfl ?_
    refine OpsJ.guard_n rfl rfl rfl rfl rfl ?_
    refine OpsJ.guard_n rfl rfl rfl rfl rfl ?_
    refine OpsJ.guard_n rfl rfl rfl rfl rfl ?_
    refine OpsJ.put rfl (OpJ.pure (OpP.pick_t rfl rfl rfl) ?_)
    refine OpsJ.nil ?_
    refine CodeJ.cond_t rfl rfl ?_
    refine CodeJ.seq' ?_
    refine CodeJ.region ?_
    refine OpsJ.put rfl (OpJ.pure (OpP.assign rfl) ?_)
    refine OpsJ.nil ?_
    refine CodeJ.ret' ?_
    obtain rfl := Option.some.inj h6
    exact Ret.mk0 ⟨rfl, rfl⟩ (ResJ.one Try.results5 rfl) (IM.le_refl _) (SubL.nil _)
  · rw [if_neg hc7] at h6
    refine OpsJ.guard_y rfl rfl rfl rfl (Bool.eq_false_iff.2 hc7) ?_
    refine OpsJ.put rfl (OpJ.pure (OpP.move rfl) ?_)
    refine OpsJ.guard_y rfl rfl rfl rfl (Bool.eq_false_iff.2 hc7) ?_
    obtain ⟨y13, hy14, h15⟩ := bind_ok h6
    clear h6
    refine OpsJ.put rfl (OpJ.call0 rfl (fun R10 hle11 hin12 => winnowerlaw14_long_w R10 A1_ p1_l.length c1_ p1_l (SlR.mono hA1_ (IM.le_trans (IM.le_refl _) hle11)) rfl hc1_  _ hy14) ?_)
    rintro _ _ _ ⟨rfl, rfl⟩
    refine OpsJ.put rfl (OpJ.pure (OpP.pick_f rfl (Bool.eq_false_iff.2 hc7) rfl) ?_)
    refine OpsJ.put rfl (OpJ.pure (OpP.move rfl) ?_)
    by_cases hc16 : y13 = true
    · rw [if_pos hc16] at h15
      refine OpsJ.guard_n rfl rfl rfl rfl hc16 ?_
      refine OpsJ.guard_n rfl rfl rfl rfl hc16 ?_
      refine OpsJ.put rfl (OpJ.pure (OpP.pick_t rfl hc16 rfl) ?_)
      refine OpsJ.put rfl (OpJ.pure (OpP.move rfl) ?_)
      refine OpsJ.guard_n rfl rfl rfl rfl rfl ?_
      refine OpsJ.guard_n rfl rfl rfl rfl rfl ?_
      refine OpsJ.guard_n rfl rfl rfl rfl rfl ?_
      refine OpsJ.guard_n rfl rfl rfl rfl rfl ?_
      refine OpsJ.guard_n rfl rfl rfl rfl rfl ?_
      refine OpsJ.put rfl (OpJ.pure (OpP.pick_t rfl rfl rfl) ?_)
      refine OpsJ.nil ?_
      refine CodeJ.cond_t rfl rfl ?_
      refine CodeJ.seq' ?_
      refine CodeJ.region ?_
      refine OpsJ.put rfl (OpJ.pure (OpP.assign rfl) ?_)
      refine OpsJ.nil ?_
      refine CodeJ.ret' ?_
      obtain rfl := Option.some.inj h15
      exact Ret.mk0 ⟨rfl, rfl⟩ (ResJ.one Try.results5 rfl) (IM.le_refl _) (SubL.nil _)
    · rw [if_neg hc16] at h15
      refine OpsJ.guard_y rfl rfl rfl rfl (Bool.eq_false_iff.2 hc16) ?_
      refine OpsJ.put rfl (OpJ.pure (OpP.move rfl) ?_)
      refine OpsJ.guard_y rfl rfl rfl rfl (Bool.eq_false_iff.2 hc16) ?_
      obtain ⟨y22, hy23, h24⟩ := bind_ok h15
      clear h15
      refine OpsJ.put rfl (OpJ.call0 rfl (fun R19 hle20 hin21 => winnowerlaw14_long_w R19 A2_ p2_m.length c2_ p2_m (SlR.mono hA2_ (IM.le_trans (IM.le_refl _) hle20)) rfl hc2_  _ hy23) ?_)
      rintro _ _ _ ⟨rfl, rfl⟩
      refine OpsJ.put rfl (OpJ.pure (OpP.pick_f rfl (Bool.eq_false_iff.2 hc16) rfl) ?_)
      refine OpsJ.put rfl (OpJ.pure (OpP.move rfl) ?_)
      by_cases hc25 : y22 = true
      · rw [if_pos hc25] at h24
        refine OpsJ.guard_n rfl rfl rfl rfl hc25 ?_
        refine OpsJ.guard_n rfl rfl rfl rfl hc25 ?_
        refine OpsJ.guard_n rfl rfl rfl rfl hc25 ?_
        refine OpsJ.guard_n rfl rfl rfl rfl hc25 ?_
        refine OpsJ.guard_n rfl rfl rfl rfl hc25 ?_
        refine OpsJ.put rfl (OpJ.pure (OpP.pick_t rfl hc25 rfl) ?_)
        refine OpsJ.nil ?_
        refine CodeJ.cond_t rfl rfl ?_
        refine CodeJ.seq' ?_
        refine CodeJ.region ?_
        refine OpsJ.put rfl (OpJ.pure (OpP.assign rfl) ?_)
        refine OpsJ.nil ?_
        refine CodeJ.ret' ?_
        obtain rfl := Option.some.inj h24
        exact Ret.mk0 ⟨rfl, rfl⟩ (ResJ.one Try.results5 rfl) (IM.le_refl _) (SubL.nil _)
      · rw [if_neg hc25] at h24
        refine OpsJ.guard_y rfl rfl rfl rfl (Bool.eq_false_iff.2 hc25) ?_
        refine OpsJ.put rfl (OpJ.pure (OpP.move rfl) ?_)
        refine OpsJ.guard_y rfl rfl rfl rfl (Bool.eq_false_iff.2 hc25) ?_
        refine OpsJ.put rfl (OpJ.pure (OpP.len rfl) ?_)
        refine OpsJ.guard_y rfl rfl rfl rfl (Bool.eq_false_iff.2 hc25) ?_
        refine OpsJ.put rfl (OpJ.pure (OpP.move rfl) ?_)
        refine OpsJ.guard_y rfl rfl rfl rfl (Bool.eq_false_iff.2 hc25) ?_
        refine OpsJ.put rfl (OpJ.pure (OpP.len rfl) ?_)
        refine OpsJ.guard_y rfl rfl rfl rfl (Bool.eq_false_iff.2 hc25) ?_
        refine OpsJ.put rfl (OpJ.pure (OpP.neq rfl rfl) ?_)
        refine OpsJ.put rfl (OpJ.pure (OpP.pick_f rfl (Bool.eq_false_iff.2 hc25) rfl) ?_)
        refine OpsJ.nil ?_
        by_cases hc28 : ((p0_t.length : Nat) : Int) ≠ ((p1_l.length : Nat) : Int)
        · rw [if_pos hc28] at h24
          refine CodeJ.cond_t rfl (decide_eq_true hc28) ?_
          refine CodeJ.seq' ?_
          refine CodeJ.region ?_
          refine OpsJ.put rfl (OpJ.pure (OpP.assign rfl) ?_)
          refine OpsJ.nil ?_
          refine CodeJ.ret' ?_
          obtain rfl := Option.some.inj h24
          exact Ret.mk0 ⟨rfl, rfl⟩ (ResJ.one Try.results5 rfl) (IM.le_refl _) (SubL.nil _)
        · rw [if_neg hc28] at h24
          refine CodeJ.cond_f rfl (decide_eq_false hc28) ?_
          refine CodeJ.skip ?_
          refine CodeJ.seq' ?_
          refine CodeJ.region ?_
          refine OpsJ.put rfl (OpJ.pure (OpP.move rfl) ?_)
          refine OpsJ.put rfl (OpJ.pure (OpP.move rfl) ?_)
          obtain ⟨y34, hy35, h36⟩ := bind_ok h24
          clear h24
          refine OpsJ.put rfl (OpJ.callP Split.nil rfl (fun R31 hle32 hin33 => part_Merge_w R31 A0_ p0_t.length c0_ p0_t (SlR.mono hA0_ (IM.le_trans (IM.le_refl _) hle32)) rfl hc0_ A1_ p1_l.length c1_ p1_l (SlR.mono hA1_ (IM.le_trans (IM.le_refl _) hle32)) rfl hc1_  _ hy35) ?_)
          rintro _ _ _ ⟨A37, c38, cs39, rfl, hr40, rfl⟩
          refine OpsJ.put rfl (OpJ.pure (OpP.assign rfl) ?_)
          refine OpsJ.nil ?_
          refine CodeJ.seq' ?_
          refine CodeJ.seq' ?_
          refine CodeJ.region ?_
          refine OpsJ.put rfl (OpJ.pure (OpP.move rfl) ?_)
          refine OpsJ.put rfl (OpJ.pure (OpP.move rfl) ?_)
          refine OpsJ.rowle (List.Perm.refl _) (fun hcap42 _ => ?_)
          obtain ⟨y46, hy47, h48⟩ := bind_ok h36
          clear h36
          refine OpsJ.put rfl (OpJ.call0 rfl (fun R43 hle44 hin45 => part_Fits_w R43 A37 y34.length c38 y34 (SlR.of_row (inRow hin45 (List.Mem.head _)) hr40 (IM.le_nil _)) rfl hcap42 A1_ p1_l.length c1_ p1_l (SlR.mono hA1_ (IM.le_trans (IM.le_refl _) hle44)) rfl hc1_  _ hy47) ?_)
          rintro _ _ _ ⟨rfl, rfl⟩
          refine OpsJ.put rfl (OpJ.pure (OpP.not rfl) ?_)
          refine OpsJ.put rfl (OpJ.pure (OpP.move rfl) ?_)
          by_cases hc49 : y46 = true
          · rw [if_pos hc49] at h48
            refine OpsJ.guard_y rfl rfl rfl rfl (congrArg Bool.not hc49) ?_
            refine OpsJ.put rfl (OpJ.pure (OpP.move rfl) ?_)
            refine OpsJ.guard_y rfl rfl rfl rfl (congrArg Bool.not hc49) ?_
            refine OpsJ.put rfl (OpJ.pure (OpP.move rfl) ?_)
            refine OpsJ.guard_y rfl rfl rfl rfl (congrArg Bool.not hc49) ?_
            obtain ⟨y53, hy54, h55⟩ := bind_ok h48
            clear h48
            refine OpsJ.put rfl (OpJ.call0 rfl (fun R50 hle51 hin52 => part_Fits_w R50 A0_ p0_t.length c0_ p0_t (SlR.mono hA0_ (IM.le_trans (IM.le_refl _) hle51)) rfl hc0_ A2_ p2_m.length c2_ p2_m (SlR.mono hA2_ (IM.le_trans (IM.le_refl _) hle51)) rfl hc2_  _ hy54) ?_)
            rintro _ _ _ ⟨rfl, rfl⟩
            refine OpsJ.guard_y rfl rfl rfl rfl (congrArg Bool.not hc49) ?_
            refine OpsJ.put rfl (OpJ.pure (OpP.move rfl) ?_)
            by_cases hc56 : y53 = true
            · rw [if_pos hc56] at h55
              refine OpsJ.guard_y rfl rfl rfl rfl hc56 ?_
              refine OpsJ.put rfl (OpJ.pure (OpP.move rfl) ?_)
              refine OpsJ.guard_y rfl rfl rfl rfl hc56 ?_
              refine OpsJ.put rfl (OpJ.pure (OpP.move rfl) ?_)
              refine OpsJ.guard_y rfl rfl rfl rfl hc56 ?_
              refine OpsJ.rowle (List.Perm.refl _) (fun hcap57 _ => ?_)
              obtain ⟨y61, hy62, h63⟩ := bind_ok h55
              clear h55
              refine OpsJ.put rfl (OpJ.call0 rfl (fun R58 hle59 hin60 => part_Fits_w R58 A37 y34.length c38 y34 (SlR.of_row (inRow hin60 (List.Mem.head _)) hr40 (IM.le_nil _)) rfl hcap57 A2_ p2_m.length c2_ p2_m (SlR.mono hA2_ (IM.le_trans (IM.le_refl _) hle59)) rfl hc2_  _ hy62) ?_)
              rintro _ _ _ ⟨rfl, rfl⟩
              refine OpsJ.guard_y rfl rfl rfl rfl hc56 ?_
              refine OpsJ.put rfl (OpJ.pure (OpP.not rfl) ?_)
              refine OpsJ.guard_y rfl rfl rfl rfl (congrArg Bool.not hc49) ?_
              refine OpsJ.put rfl (OpJ.pure (OpP.pick_t rfl hc56 rfl) ?_)
              refine OpsJ.put rfl (OpJ.pure (OpP.pick_f rfl (congrArg Bool.not hc49) rfl) ?_)
              refine OpsJ.put rfl (OpJ.pure (OpP.move rfl) ?_)
              by_cases hc64 : y61 = true
              · rw [if_pos hc64] at h63
                refine OpsJ.guard_y rfl rfl rfl rfl (congrArg Bool.not hc64) ?_
                refine OpsJ.put rfl (OpJ.pure (OpP.move rfl) ?_)
                refine OpsJ.guard_y rfl rfl rfl rfl (congrArg Bool.not hc64) ?_
                refine OpsJ.put rfl (OpJ.pure (OpP.len rfl) ?_)
                refine OpsJ.guard_y rfl rfl rfl rfl (congrArg Bool.not hc64) ?_
                refine OpsJ.put rfl (OpJ.pure (OpP.move rfl) ?_)
                refine OpsJ.guard_y rfl rfl rfl rfl (congrArg Bool.not hc64) ?_
                refine OpsJ.put rfl (OpJ.pure (OpP.len rfl) ?_)
                refine OpsJ.guard_y rfl rfl rfl rfl (congrArg Bool.not hc64) ?_
                refine OpsJ.put rfl (OpJ.pure (OpP.neq rfl rfl) ?_)
                refine OpsJ.put rfl (OpJ.pure (OpP.pick_f rfl (congrArg Bool.not hc64) rfl) ?_)
                refine OpsJ.nil ?_
                by_cases hc65 : ((y34.length : Nat) : Int) ≠ ((p0_t.length : Nat) : Int)
                · rw [if_pos hc65] at h63
                  refine CodeJ.cond_t rfl (decide_eq_true hc65) ?_
                  refine CodeJ.seq' ?_
                  refine CodeJ.region ?_
                  refine OpsJ.put rfl (OpJ.pure (OpP.assign rfl) ?_)
                  refine OpsJ.nil ?_
                  refine CodeJ.ret' ?_
                  obtain rfl := Option.some.inj h63
                  exact Ret.mk0 ⟨rfl, rfl⟩ (ResJ.one Try.results5 rfl) (IM.le_refl _) (SubL.nil _)
                · rw [if_neg hc65] at h63
                  refine CodeJ.cond_f rfl (decide_eq_false hc65) ?_
                  refine CodeJ.skip ?_
                  refine CodeJ.seq' ?_
                  refine CodeJ.seq' ?_
                  refine CodeJ.region ?_
                  refine OpsJ.put rfl (OpJ.pure (OpP.assign rfl) ?_)
                  refine OpsJ.nil ?_
                  obtain ⟨t147, hl148, h149⟩ := bind_ok h63
                  clear h63
                  refine CodeJ.mid (fun e s => .inr () = t147 ∧ e = [(1, .slice A1_ p1_l.length c1_), (7, .slice A37 y34.length c38)] ∧ s = ⟨R, [.row 41 2 A37 y34.length c38 cs39]⟩) ?_ ?_
                  · refine CodeJ.block ?_
                    refine CodeJ.loopM hl148 (fun i_119 e s => e = [(0, .slice A0_ p0_t.length c0_), (1, .slice A1_ p1_l.length c1_), (7, .slice A37 y34.length c38), (8, .int .i64 i_119)] ∧ s = ⟨R, [.row 41 2 A37 y34.length c38 cs39]⟩) ⟨rfl, rfl⟩ (SubE.cons rfl (SubE.cons rfl (SubE.cons rfl (SubE.cons rfl (SubE.nil _))))) (SubL.p0 (SubL.nil _)) ?_
                    rintro i_119 _ _ _ ⟨rfl, rfl⟩ h145 hne146
                    (try dsimp only at h145); unfold winnowerlaw14_PartMerges_l0 at h145
                    refine CodeJ.seq' ?_
                    refine CodeJ.seq' ?_
                    refine CodeJ.region ?_
                    refine OpsJ.put rfl (OpJ.pure (OpP.move rfl) ?_)
                    refine OpsJ.put rfl (OpJ.pure (OpP.move rfl) ?_)
                    refine OpsJ.put rfl (OpJ.pure (OpP.len rfl) ?_)
                    refine OpsJ.put rfl (OpJ.pure (OpP.lss rfl rfl) ?_)
                    refine OpsJ.nil ?_
                    by_cases hc150 : i_119 < ((p0_t.length : Nat) : Int)
                    · rw [if_pos hc150] at h145
                      refine CodeJ.cond_t rfl (decide_eq_true hc150) ?_
                      refine CodeJ.skip ?_
                      refine CodeJ.seq' ?_
                      refine CodeJ.block ?_
                      refine CodeJ.seq' ?_
                      refine CodeJ.drawn (by kernel_rfl) (by kernel_rfl) ?_
                      refine QuietJ.put rfl (OpQ.pure (OpP.move rfl) ?_)
                      refine QuietJ.put rfl (OpQ.pure (OpP.move rfl) ?_)
                      obtain ⟨x151, hx152, h153⟩ := bind_ok h145
                      clear h145
                      have hE154 : ∀ j v, ([.bool x151.1, .string x151.2] : List Value)[j]? = some v → (cs39)[Int.toNat i_119 * Dat.size (Bool × ByteArray) + j]? = some v := row_getF (α := Bool × ByteArray) hr40 hx152
                      refine QuietJ.put rfl (OpQ.pure (OpP.ixW (List.Mem.head _) hr40 rfl hx152 (by exact rfl) (by exact rfl) rfl rfl) ?_)
                      refine QuietJ.put rfl (OpQ.pure (OpP.fldAddr rfl (by exact rfl)) ?_)
                      refine QuietJ.put rfl (OpQ.pure (OpP.ldW (by exact rfl) (List.Mem.head _) hE154 rfl rfl) ?_)
                      refine QuietJ.put rfl (OpQ.pure (OpP.move rfl) ?_)
                      refine QuietJ.put rfl (OpQ.pure (OpP.move rfl) ?_)
                      obtain ⟨x155, hx156, h157⟩ := bind_ok h153
                      clear h153
                      have hE158 : RC _ (some ((adr A0_).add (Int.toNat i_119 * Dat.size (Bool × ByteArray)))) [.bool x155.1, .string x155.2] := SlR.getF (α := Bool × ByteArray) hA0_ hx156
                      refine QuietJ.put rfl (OpQ.pure (OpP.ixR hA0_ rfl hx156 (by exact rfl) (by exact rfl) rfl rfl) ?_)
                      refine QuietJ.put rfl (OpQ.pure (OpP.fldAddr rfl (by exact rfl)) ?_)
                      refine QuietJ.put rfl (OpQ.pure (OpP.ldR (by exact rfl) hE158 (IM.le_refl _) rfl rfl) ?_)
                      refine QuietJ.put rfl (OpQ.pure (OpP.move rfl) ?_)
                      by_cases hc159 : x155.1 = true
                      · rw [if_pos hc159] at h157
                        refine QuietJ.guard_n rfl rfl rfl rfl hc159 ?_
                        refine QuietJ.guard_n rfl rfl rfl rfl hc159 ?_
                        refine QuietJ.guard_n rfl rfl rfl rfl hc159 ?_
                        refine QuietJ.guard_n rfl rfl rfl rfl hc159 ?_
                        refine QuietJ.guard_n rfl rfl rfl rfl hc159 ?_
                        refine QuietJ.guard_n rfl rfl rfl rfl hc159 ?_
                        refine QuietJ.guard_n rfl rfl rfl rfl hc159 ?_
                        refine QuietJ.guard_n rfl rfl rfl rfl hc159 ?_
                        refine QuietJ.guard_n rfl rfl rfl rfl hc159 ?_
                        refine QuietJ.guard_n rfl rfl rfl rfl hc159 ?_
                        refine QuietJ.guard_n rfl rfl rfl rfl hc159 ?_
                        refine QuietJ.put rfl (OpQ.pure (OpP.pick_t rfl hc159 rfl) ?_)
                        refine QuietJ.put rfl (OpQ.pure (OpP.neq_bool rfl rfl) ?_)
                        refine QuietJ.put rfl (OpQ.pure (OpP.move rfl) ?_)
                        by_cases hc160 : (!(x151.1 == true)) = true
                        · rw [if_pos hc160] at h157
                          refine QuietJ.guard_n rfl rfl rfl rfl hc160 ?_
                          refine QuietJ.guard_n rfl rfl rfl rfl hc160 ?_
                          refine QuietJ.guard_n rfl rfl rfl rfl hc160 ?_
                          refine QuietJ.guard_n rfl rfl rfl rfl hc160 ?_
                          refine QuietJ.guard_n rfl rfl rfl rfl hc160 ?_
                          refine QuietJ.guard_n rfl rfl rfl rfl hc160 ?_
                          refine QuietJ.gund rfl rfl rfl rfl ?_
                          refine QuietJ.gund rfl rfl rfl rfl ?_
                          refine QuietJ.gund rfl rfl rfl rfl ?_
                          refine QuietJ.gund rfl rfl rfl rfl ?_
                          refine QuietJ.gund rfl rfl rfl rfl ?_
                          refine QuietJ.gund rfl rfl rfl rfl ?_
                          refine QuietJ.guard_n rfl rfl rfl rfl hc160 ?_
                          refine QuietJ.put rfl (OpQ.pure (OpP.pick_t rfl hc160 rfl) ?_)
                          refine QuietJ.nil ?_
                          refine CodeJ.cond_t rfl rfl ?_
                          refine CodeJ.seq' ?_
                          refine CodeJ.region ?_
                          refine OpsJ.put rfl (OpJ.pure (OpP.assign rfl) ?_)
                          refine OpsJ.nil ?_
                          obtain rfl := Option.some.inj h157
                          have ht161 := hne146 _ rfl
                          subst ht161
                          simp only [Sum.elim_inl] at h149
                          refine CodeJ.ret' ?_
                          obtain rfl := Option.some.inj h149
                          exact Ret.mk0 ⟨rfl, rfl⟩ (ResJ.one Try.results5 rfl) (IM.le_refl _) (SubL.nil _)
                        · rw [if_neg hc160] at h157
                          refine QuietJ.guard_y rfl rfl rfl rfl (Bool.eq_false_iff.2 hc160) ?_
                          refine QuietJ.put rfl (OpQ.pure (OpP.move rfl) ?_)
                          refine QuietJ.guard_y rfl rfl rfl rfl (Bool.eq_false_iff.2 hc160) ?_
                          refine QuietJ.put rfl (OpQ.pure (OpP.move rfl) ?_)
                          refine QuietJ.guard_y rfl rfl rfl rfl (Bool.eq_false_iff.2 hc160) ?_
                          have hE164 : ∀ j v, ([.bool x151.1, .string x151.2] : List Value)[j]? = some v → (cs39)[Int.toNat i_119 * Dat.size (Bool × ByteArray) + j]? = some v := row_getF (α := Bool × ByteArray) hr40 hx152
                          refine QuietJ.put rfl (OpQ.pure (OpP.ixW (List.Mem.head _) hr40 rfl hx152 (by exact rfl) (by exact rfl) rfl rfl) ?_)
                          refine QuietJ.guard_y rfl rfl rfl rfl (Bool.eq_false_iff.2 hc160) ?_
                          refine QuietJ.put rfl (OpQ.pure (OpP.fldAddr rfl (by exact rfl)) ?_)
                          refine QuietJ.guard_y rfl rfl rfl rfl (Bool.eq_false_iff.2 hc160) ?_
                          refine QuietJ.put rfl (OpQ.pure (OpP.ldW (by exact rfl) (List.Mem.head _) hE164 rfl rfl) ?_)
                          refine QuietJ.guard_y rfl rfl rfl rfl (Bool.eq_false_iff.2 hc160) ?_
                          refine QuietJ.put rfl (OpQ.pure (OpP.move rfl) ?_)
                          by_cases hc165 : x151.1 = true
                          · rw [if_pos hc165] at h157
                            refine QuietJ.guard_y rfl rfl rfl rfl hc165 ?_
                            refine QuietJ.put rfl (OpQ.pure (OpP.move rfl) ?_)
                            refine QuietJ.guard_y rfl rfl rfl rfl hc165 ?_
                            refine QuietJ.put rfl (OpQ.pure (OpP.move rfl) ?_)
                            refine QuietJ.guard_y rfl rfl rfl rfl hc165 ?_
                            have hE166 : ∀ j v, ([.bool x151.1, .string x151.2] : List Value)[j]? = some v → (cs39)[Int.toNat i_119 * Dat.size (Bool × ByteArray) + j]? = some v := row_getF (α := Bool × ByteArray) hr40 hx152
                            refine QuietJ.put rfl (OpQ.pure (OpP.ixW (List.Mem.head _) hr40 rfl hx152 (by exact rfl) (by exact rfl) rfl rfl) ?_)
                            refine QuietJ.guard_y rfl rfl rfl rfl hc165 ?_
                            refine QuietJ.put rfl (OpQ.pure (OpP.fldAddr rfl (by exact rfl)) ?_)
                            refine QuietJ.guard_y rfl rfl rfl rfl hc165 ?_
                            refine QuietJ.put rfl (OpQ.pure (OpP.ldW (by exact rfl) (List.Mem.head _) hE166 rfl rfl) ?_)
                            refine QuietJ.guard_y rfl rfl rfl rfl hc165 ?_
                            refine QuietJ.put rfl (OpQ.pure (OpP.neqS rfl rfl) ?_)
                            refine QuietJ.guard_y rfl rfl rfl rfl (Bool.eq_false_iff.2 hc160) ?_
                            refine QuietJ.put rfl (OpQ.pure (OpP.pick_t rfl hc165 rfl) ?_)
                            refine QuietJ.put rfl (OpQ.pure (OpP.pick_f rfl (Bool.eq_false_iff.2 hc160) rfl) ?_)
                            refine QuietJ.nil ?_
                            by_cases hc167 : x151.2 ≠ (⟨#[]⟩ : ByteArray)
                            · rw [if_pos hc167] at h157
                              refine CodeJ.cond_t rfl (decide_eq_true hc167) ?_
                              refine CodeJ.seq' ?_
                              refine CodeJ.region ?_
                              refine OpsJ.put rfl (OpJ.pure (OpP.assign rfl) ?_)
                              refine OpsJ.nil ?_
                              obtain rfl := Option.some.inj h157
                              have ht168 := hne146 _ rfl
                              subst ht168
                              simp only [Sum.elim_inl] at h149
                              refine CodeJ.ret' ?_
                              obtain rfl := Option.some.inj h149
                              exact Ret.mk0 ⟨rfl, rfl⟩ (ResJ.one Try.results5 rfl) (IM.le_refl _) (SubL.nil _)
                            · rw [if_neg hc167] at h157
                              refine CodeJ.cond_f rfl (decide_eq_false hc167) ?_
                              refine CodeJ.skip ?_
                              refine CodeJ.region ?_
                              refine OpsJ.put rfl (OpJ.pure (OpP.move rfl) ?_)
                              refine OpsJ.put rfl (OpJ.pure (OpP.add64 rfl rfl) ?_)
                              refine OpsJ.put rfl (OpJ.pure (OpP.assign rfl) ?_)
                              refine OpsJ.nil ?_
                              obtain rfl := Option.some.inj h157
                              exact ⟨_, _, _, _, rfl, ⟨rfl, rfl⟩, IM.le_refl _, (SubE.cons rfl (SubE.cons rfl (SubE.cons rfl (SubE.cons rfl (SubE.nil _))))), (SubL.p0 (SubL.nil _))⟩
                          · rw [if_neg hc165] at h157
                            refine QuietJ.guard_n rfl rfl rfl rfl (Bool.eq_false_iff.2 hc165) ?_
                            refine QuietJ.guard_n rfl rfl rfl rfl (Bool.eq_false_iff.2 hc165) ?_
                            refine QuietJ.guard_n rfl rfl rfl rfl (Bool.eq_false_iff.2 hc165) ?_
                            refine QuietJ.guard_n rfl rfl rfl rfl (Bool.eq_false_iff.2 hc165) ?_
                            refine QuietJ.guard_n rfl rfl rfl rfl (Bool.eq_false_iff.2 hc165) ?_
                            refine QuietJ.guard_n rfl rfl rfl rfl (Bool.eq_false_iff.2 hc165) ?_
                            refine QuietJ.guard_y rfl rfl rfl rfl (Bool.eq_false_iff.2 hc160) ?_
                            refine QuietJ.put rfl (OpQ.pure (OpP.pick_f rfl (Bool.eq_false_iff.2 hc165) rfl) ?_)
                            refine QuietJ.put rfl (OpQ.pure (OpP.pick_f rfl (Bool.eq_false_iff.2 hc160) rfl) ?_)
                            refine QuietJ.nil ?_
                            refine CodeJ.cond_f rfl rfl ?_
                            refine CodeJ.skip ?_
                            refine CodeJ.region ?_
                            refine OpsJ.put rfl (OpJ.pure (OpP.move rfl) ?_)
                            refine OpsJ.put rfl (OpJ.pure (OpP.add64 rfl rfl) ?_)
                            refine OpsJ.put rfl (OpJ.pure (OpP.assign rfl) ?_)
                            refine OpsJ.nil ?_
                            obtain rfl := Option.some.inj h157
                            exact ⟨_, _, _, _, rfl, ⟨rfl, rfl⟩, IM.le_refl _, (SubE.cons rfl (SubE.cons rfl (SubE.cons rfl (SubE.cons rfl (SubE.nil _))))), (SubL.p0 (SubL.nil _))⟩
                      · rw [if_neg hc159] at h157
                        refine QuietJ.guard_y rfl rfl rfl rfl (Bool.eq_false_iff.2 hc159) ?_
                        refine QuietJ.put rfl (OpQ.pure (OpP.move rfl) ?_)
                        refine QuietJ.guard_y rfl rfl rfl rfl (Bool.eq_false_iff.2 hc159) ?_
                        refine QuietJ.put rfl (OpQ.pure (OpP.move rfl) ?_)
                        refine QuietJ.guard_y rfl rfl rfl rfl (Bool.eq_false_iff.2 hc159) ?_
                        have hE171 : RC _ (some ((adr A0_).add (Int.toNat i_119 * Dat.size (Bool × ByteArray)))) [.bool x155.1, .string x155.2] := SlR.getF (α := Bool × ByteArray) hA0_ hx156
                        refine QuietJ.put rfl (OpQ.pure (OpP.ixR hA0_ rfl hx156 (by exact rfl) (by exact rfl) rfl rfl) ?_)
                        refine QuietJ.guard_y rfl rfl rfl rfl (Bool.eq_false_iff.2 hc159) ?_
                        refine QuietJ.put rfl (OpQ.pure (OpP.fldAddr rfl (by exact rfl)) ?_)
                        refine QuietJ.guard_y rfl rfl rfl rfl (Bool.eq_false_iff.2 hc159) ?_
                        refine QuietJ.put rfl (OpQ.pure (OpP.ldR (by exact rfl) hE171 (IM.le_refl _) rfl rfl) ?_)
                        refine QuietJ.guard_y rfl rfl rfl rfl (Bool.eq_false_iff.2 hc159) ?_
                        refine QuietJ.put rfl (OpQ.pure (OpP.move rfl) ?_)
                        refine QuietJ.guard_y rfl rfl rfl rfl (Bool.eq_false_iff.2 hc159) ?_
                        refine QuietJ.put rfl (OpQ.pure (OpP.move rfl) ?_)
                        refine QuietJ.guard_y rfl rfl rfl rfl (Bool.eq_false_iff.2 hc159) ?_
                        obtain ⟨x172, hx173, h174⟩ := bind_ok h157
                        clear h157
                        have hE175 : RC _ (some ((adr A1_).add (Int.toNat i_119 * Dat.size (Int × ByteArray)))) [.int .i64 x172.1, .string x172.2] := SlR.getF (α := Int × ByteArray) hA1_ hx173
                        refine QuietJ.put rfl (OpQ.pure (OpP.ixR hA1_ rfl hx173 (by exact rfl) (by exact rfl) rfl rfl) ?_)
                        refine QuietJ.guard_y rfl rfl rfl rfl (Bool.eq_false_iff.2 hc159) ?_
                        refine QuietJ.put rfl (OpQ.pure (OpP.fldAddr rfl (by exact rfl)) ?_)
                        refine QuietJ.guard_y rfl rfl rfl rfl (Bool.eq_false_iff.2 hc159) ?_
                        refine QuietJ.put rfl (OpQ.pure (OpP.ldR (by exact rfl) hE175 (IM.le_refl _) rfl rfl) ?_)
                        refine QuietJ.guard_y rfl rfl rfl rfl (Bool.eq_false_iff.2 hc159) ?_
                        refine QuietJ.put rfl (OpQ.pure (OpP.neqS rfl rfl) ?_)
                        refine QuietJ.put rfl (OpQ.pure (OpP.pick_f rfl (Bool.eq_false_iff.2 hc159) rfl) ?_)
                        refine QuietJ.put rfl (OpQ.pure (OpP.neq_bool rfl rfl) ?_)
                        refine QuietJ.put rfl (OpQ.pure (OpP.move rfl) ?_)
                        by_cases hc176 : (!(x151.1 == decide (x155.2 ≠ x172.2))) = true
                        · rw [if_pos hc176] at h174
                          refine QuietJ.guard_n rfl rfl rfl rfl hc176 ?_
                          refine QuietJ.guard_n rfl rfl rfl rfl hc176 ?_
                          refine QuietJ.guard_n rfl rfl rfl rfl hc176 ?_
                          refine QuietJ.guard_n rfl rfl rfl rfl hc176 ?_
                          refine QuietJ.guard_n rfl rfl rfl rfl hc176 ?_
                          refine QuietJ.guard_n rfl rfl rfl rfl hc176 ?_
                          refine QuietJ.gund rfl rfl rfl rfl ?_
                          refine QuietJ.gund rfl rfl rfl rfl ?_
                          refine QuietJ.gund rfl rfl rfl rfl ?_
                          refine QuietJ.gund rfl rfl rfl rfl ?_
                          refine QuietJ.gund rfl rfl rfl rfl ?_
                          refine QuietJ.gund rfl rfl rfl rfl ?_
                          refine QuietJ.guard_n rfl rfl rfl rfl hc176 ?_
                          refine QuietJ.put rfl (OpQ.pure (OpP.pick_t rfl hc176 rfl) ?_)
                          refine QuietJ.nil ?_
                          refine CodeJ.cond_t rfl rfl ?_
                          refine CodeJ.seq' ?_
                          refine CodeJ.region ?_
                          refine OpsJ.put rfl (OpJ.pure (OpP.assign rfl) ?_)
                          refine OpsJ.nil ?_
                          obtain rfl := Option.some.inj h174
                          have ht177 := hne146 _ rfl
                          subst ht177
                          simp only [Sum.elim_inl] at h149
                          refine CodeJ.ret' ?_
                          obtain rfl := Option.some.inj h149
                          exact Ret.mk0 ⟨rfl, rfl⟩ (ResJ.one Try.results5 rfl) (IM.le_refl _) (SubL.nil _)
                        · rw [if_neg hc176] at h174
                          refine QuietJ.guard_y rfl rfl rfl rfl (Bool.eq_false_iff.2 hc176) ?_
                          refine QuietJ.put rfl (OpQ.pure (OpP.move rfl) ?_)
                          refine QuietJ.guard_y rfl rfl rfl rfl (Bool.eq_false_iff.2 hc176) ?_
                          refine QuietJ.put rfl (OpQ.pure (OpP.move rfl) ?_)
                          refine QuietJ.guard_y rfl rfl rfl rfl (Bool.eq_false_iff.2 hc176) ?_
                          have hE180 : ∀ j v, ([.bool x151.1, .string x151.2] : List Value)[j]? = some v → (cs39)[Int.toNat i_119 * Dat.size (Bool × ByteArray) + j]? = some v := row_getF (α := Bool × ByteArray) hr40 hx152
                          refine QuietJ.put rfl (OpQ.pure (OpP.ixW (List.Mem.head _) hr40 rfl hx152 (by exact rfl) (by exact rfl) rfl rfl) ?_)
                          refine QuietJ.guard_y rfl rfl rfl rfl (Bool.eq_false_iff.2 hc176) ?_
                          refine QuietJ.put rfl (OpQ.pure (OpP.fldAddr rfl (by exact rfl)) ?_)
                          refine QuietJ.guard_y rfl rfl rfl rfl (Bool.eq_false_iff.2 hc176) ?_
                          refine QuietJ.put rfl (OpQ.pure (OpP.ldW (by exact rfl) (List.Mem.head _) hE180 rfl rfl) ?_)
                          refine QuietJ.guard_y rfl rfl rfl rfl (Bool.eq_false_iff.2 hc176) ?_
                          refine QuietJ.put rfl (OpQ.pure (OpP.move rfl) ?_)
                          by_cases hc181 : x151.1 = true
                          · rw [if_pos hc181] at h174
                            refine QuietJ.guard_y rfl rfl rfl rfl hc181 ?_
                            refine QuietJ.put rfl (OpQ.pure (OpP.move rfl) ?_)
                            refine QuietJ.guard_y rfl rfl rfl rfl hc181 ?_
                            refine QuietJ.put rfl (OpQ.pure (OpP.move rfl) ?_)
                            refine QuietJ.guard_y rfl rfl rfl rfl hc181 ?_
                            have hE182 : ∀ j v, ([.bool x151.1, .string x151.2] : List Value)[j]? = some v → (cs39)[Int.toNat i_119 * Dat.size (Bool × ByteArray) + j]? = some v := row_getF (α := Bool × ByteArray) hr40 hx152
                            refine QuietJ.put rfl (OpQ.pure (OpP.ixW (List.Mem.head _) hr40 rfl hx152 (by exact rfl) (by exact rfl) rfl rfl) ?_)
                            refine QuietJ.guard_y rfl rfl rfl rfl hc181 ?_
                            refine QuietJ.put rfl (OpQ.pure (OpP.fldAddr rfl (by exact rfl)) ?_)
                            refine QuietJ.guard_y rfl rfl rfl rfl hc181 ?_
                            refine QuietJ.put rfl (OpQ.pure (OpP.ldW (by exact rfl) (List.Mem.head _) hE182 rfl rfl) ?_)
                            refine QuietJ.guard_y rfl rfl rfl rfl hc181 ?_
                            refine QuietJ.put rfl (OpQ.pure (OpP.neqS rfl rfl) ?_)
                            refine QuietJ.guard_y rfl rfl rfl rfl (Bool.eq_false_iff.2 hc176) ?_
                            refine QuietJ.put rfl (OpQ.pure (OpP.pick_t rfl hc181 rfl) ?_)
                            refine QuietJ.put rfl (OpQ.pure (OpP.pick_f rfl (Bool.eq_false_iff.2 hc176) rfl) ?_)
                            refine QuietJ.nil ?_
                            by_cases hc183 : x151.2 ≠ (⟨#[]⟩ : ByteArray)
                            · rw [if_pos hc183] at h174
                              refine CodeJ.cond_t rfl (decide_eq_true hc183) ?_
                              refine CodeJ.seq' ?_
                              refine CodeJ.region ?_
                              refine OpsJ.put rfl (OpJ.pure (OpP.assign rfl) ?_)
                              refine OpsJ.nil ?_
                              obtain rfl := Option.some.inj h174
                              have ht184 := hne146 _ rfl
                              subst ht184
                              simp only [Sum.elim_inl] at h149
                              refine CodeJ.ret' ?_
                              obtain rfl := Option.some.inj h149
                              exact Ret.mk0 ⟨rfl, rfl⟩ (ResJ.one Try.results5 rfl) (IM.le_refl _) (SubL.nil _)
                            · rw [if_neg hc183] at h174
                              refine CodeJ.cond_f rfl (decide_eq_false hc183) ?_
                              refine CodeJ.skip ?_
                              refine CodeJ.region ?_
                              refine OpsJ.put rfl (OpJ.pure (OpP.move rfl) ?_)
                              refine OpsJ.put rfl (OpJ.pure (OpP.add64 rfl rfl) ?_)
                              refine OpsJ.put rfl (OpJ.pure (OpP.assign rfl) ?_)
                              refine OpsJ.nil ?_
                              obtain rfl := Option.some.inj h174
                              exact ⟨_, _, _, _, rfl, ⟨rfl, rfl⟩, IM.le_refl _, (SubE.cons rfl (SubE.cons rfl (SubE.cons rfl (SubE.cons rfl (SubE.nil _))))), (SubL.p0 (SubL.nil _))⟩
                          · rw [if_neg hc181] at h174
                            refine QuietJ.guard_n rfl rfl rfl rfl (Bool.eq_false_iff.2 hc181) ?_
                            refine QuietJ.guard_n rfl rfl rfl rfl (Bool.eq_false_iff.2 hc181) ?_
                            refine QuietJ.guard_n rfl rfl rfl rfl (Bool.eq_false_iff.2 hc181) ?_
                            refine QuietJ.guard_n rfl rfl rfl rfl (Bool.eq_false_iff.2 hc181) ?_
                            refine QuietJ.guard_n rfl rfl rfl rfl (Bool.eq_false_iff.2 hc181) ?_
                            refine QuietJ.guard_n rfl rfl rfl rfl (Bool.eq_false_iff.2 hc181) ?_
                            refine QuietJ.guard_y rfl rfl rfl rfl (Bool.eq_false_iff.2 hc176) ?_
                            refine QuietJ.put rfl (OpQ.pure (OpP.pick_f rfl (Bool.eq_false_iff.2 hc181) rfl) ?_)
                            refine QuietJ.put rfl (OpQ.pure (OpP.pick_f rfl (Bool.eq_false_iff.2 hc176) rfl) ?_)
                            refine QuietJ.nil ?_
                            refine CodeJ.cond_f rfl rfl ?_
                            refine CodeJ.skip ?_
                            refine CodeJ.region ?_
                            refine OpsJ.put rfl (OpJ.pure (OpP.move rfl) ?_)
                            refine OpsJ.put rfl (OpJ.pure (OpP.add64 rfl rfl) ?_)
                            refine OpsJ.put rfl (OpJ.pure (OpP.assign rfl) ?_)
                            refine OpsJ.nil ?_
                            obtain rfl := Option.some.inj h174
                            exact ⟨_, _, _, _, rfl, ⟨rfl, rfl⟩, IM.le_refl _, (SubE.cons rfl (SubE.cons rfl (SubE.cons rfl (SubE.cons rfl (SubE.nil _))))), (SubL.p0 (SubL.nil _))⟩
                    · rw [if_neg hc150] at h145
                      refine CodeJ.cond_f rfl (decide_eq_false hc150) ?_
                      refine CodeJ.exit rfl ?_
                      obtain rfl := Option.some.inj h145
                      have ht187 := hne146 _ rfl
                      exact ⟨_, _, _, ⟨ht187, rfl, rfl⟩, IM.le_refl _, (SubE.cons rfl (SubE.cons rfl (SubE.nil _))), (SubL.p0 (SubL.nil _))⟩
                  · rintro _ _ ⟨rfl, rfl, rfl⟩
                    simp only [Sum.elim_inr] at h149
                    refine CodeJ.seq' ?_
                    refine CodeJ.region ?_
                    refine OpsJ.put rfl (OpJ.pure (OpP.move rfl) ?_)
                    refine OpsJ.put rfl (OpJ.pure (OpP.move rfl) ?_)
                    refine OpsJ.rowle (List.Perm.refl _) (fun hcap188 _ => ?_)
                    obtain ⟨y192, hy193, h194⟩ := bind_ok h149
                    clear h149
                    refine OpsJ.put rfl (OpJ.callP Split.nil rfl (fun R189 hle190 hin191 => part_Merge_w R189 A37 y34.length c38 y34 (SlR.of_row (inRow hin191 (List.Mem.head _)) hr40 (IM.le_nil _)) rfl hcap188 A1_ p1_l.length c1_ p1_l (SlR.mono hA1_ (IM.le_trans (IM.le_refl _) hle190)) rfl hc1_  _ hy193) ?_)
                    rintro _ _ _ ⟨A195, c196, cs197, rfl, hr198, rfl⟩
                    refine OpsJ.put rfl (OpJ.pure (OpP.move rfl) ?_)
                    refine OpsJ.rowle (List.Perm.refl _) (fun hcap200 _ => ?_)
                    refine OpsJ.rowle (List.Perm.swap _ _ _) (fun hcap201 _ => ?_)
                    obtain ⟨y205, hy206, h207⟩ := bind_ok h194
                    clear h194
                    refine OpsJ.put rfl (OpJ.call0 rfl (fun R202 hle203 hin204 => winnowerref14_Same_w R202 A195 y192.length c196 y192 (SlR.of_row (inRow hin204 (List.Mem.head _)) hr198 (IM.le_nil _)) rfl hcap200 A37 y34.length c38 y34 (SlR.of_row (inRow hin204 (List.Mem.tail _ (List.Mem.head _))) hr40 (IM.le_nil _)) rfl hcap201  _ hy206) ?_)
                    rintro _ _ _ ⟨rfl, rfl⟩
                    refine OpsJ.put rfl (OpJ.pure (OpP.move rfl) ?_)
                    by_cases hc208 : y205 = true
                    · rw [if_pos hc208] at h207
                      refine OpsJ.guard_y rfl rfl rfl rfl hc208 ?_
                      obtain ⟨y212, hy213, h214⟩ := bind_ok h207
                      clear h207
                      refine OpsJ.put rfl (OpJ.call0 rfl (fun R209 hle210 hin211 => winnowerlaw14_known_w R209   _ hy213) ?_)
                      rintro _ _ _ ⟨rfl, rfl⟩
                      refine OpsJ.put rfl (OpJ.pure (OpP.pick_t rfl hc208 rfl) ?_)
                      refine OpsJ.put rfl (OpJ.pure (OpP.assign rfl) ?_)
                      refine OpsJ.nil ?_
                      refine CodeJ.ret' ?_
                      obtain rfl := Option.some.inj h214
                      exact Ret.mk0 ⟨rfl, rfl⟩ (ResJ.one Try.results5 rfl) (IM.le_refl _) (SubL.nil _)
                    · rw [if_neg hc208] at h207
                      refine OpsJ.guard_n rfl rfl rfl rfl (Bool.eq_false_iff.2 hc208) ?_
                      refine OpsJ.put rfl (OpJ.pure (OpP.pick_f rfl (Bool.eq_false_iff.2 hc208) rfl) ?_)
                      refine OpsJ.put rfl (OpJ.pure (OpP.assign rfl) ?_)
                      refine OpsJ.nil ?_
                      refine CodeJ.ret' ?_
                      obtain rfl := Option.some.inj h207
                      exact Ret.mk0 ⟨rfl, rfl⟩ (ResJ.one Try.results5 rfl) (IM.le_refl _) (SubL.nil _)
              · rw [if_neg hc64] at h63
                refine OpsJ.guard_n rfl rfl rfl rfl (congrArg Bool.not (Bool.eq_false_iff.2 hc64)) ?_
                refine OpsJ.guard_n rfl rfl rfl rfl (congrArg Bool.not (Bool.eq_false_iff.2 hc64)) ?_
                refine OpsJ.guard_n rfl rfl rfl rfl (congrArg Bool.not (Bool.eq_false_iff.2 hc64)) ?_
                refine OpsJ.guard_n rfl rfl rfl rfl (congrArg Bool.not (Bool.eq_false_iff.2 hc64)) ?_
                refine OpsJ.guard_n rfl rfl rfl rfl (congrArg Bool.not (Bool.eq_false_iff.2 hc64)) ?_
                refine OpsJ.put rfl (OpJ.pure (OpP.pick_t rfl (congrArg Bool.not (Bool.eq_false_iff.2 hc64)) rfl) ?_)
                refine OpsJ.nil ?_
                refine CodeJ.cond_t rfl rfl ?_
                refine CodeJ.seq' ?_
                refine CodeJ.region ?_
                refine OpsJ.put rfl (OpJ.pure (OpP.assign rfl) ?_)
                refine OpsJ.nil ?_
                refine CodeJ.ret' ?_
                obtain rfl := Option.some.inj h63
                exact Ret.mk0 ⟨rfl, rfl⟩ (ResJ.one Try.results5 rfl) (IM.le_refl _) (SubL.nil _)
            · rw [if_neg hc56] at h55
              refine OpsJ.guard_n rfl rfl rfl rfl (Bool.eq_false_iff.2 hc56) ?_
              refine OpsJ.guard_n rfl rfl rfl rfl (Bool.eq_false_iff.2 hc56) ?_
              refine OpsJ.guard_n rfl rfl rfl rfl (Bool.eq_false_iff.2 hc56) ?_
              refine OpsJ.guard_n rfl rfl rfl rfl (Bool.eq_false_iff.2 hc56) ?_
              refine OpsJ.guard_y rfl rfl rfl rfl (congrArg Bool.not hc49) ?_
              refine OpsJ.put rfl (OpJ.pure (OpP.pick_f rfl (Bool.eq_false_iff.2 hc56) rfl) ?_)
              refine OpsJ.put rfl (OpJ.pure (OpP.pick_f rfl (congrArg Bool.not hc49) rfl) ?_)
              refine OpsJ.put rfl (OpJ.pure (OpP.move rfl) ?_)
              refine OpsJ.guard_y rfl rfl rfl rfl rfl ?_
              refine OpsJ.put rfl (OpJ.pure (OpP.move rfl) ?_)
              refine OpsJ.guard_y rfl rfl rfl rfl rfl ?_
              refine OpsJ.put rfl (OpJ.pure (OpP.len rfl) ?_)
              refine OpsJ.guard_y rfl rfl rfl rfl rfl ?_
              refine OpsJ.put rfl (OpJ.pure (OpP.move rfl) ?_)
              refine OpsJ.guard_y rfl rfl rfl rfl rfl ?_
              refine OpsJ.put rfl (OpJ.pure (OpP.len rfl) ?_)
              refine OpsJ.guard_y rfl rfl rfl rfl rfl ?_
              refine OpsJ.put rfl (OpJ.pure (OpP.neq rfl rfl) ?_)
              refine OpsJ.put rfl (OpJ.pure (OpP.pick_f rfl rfl rfl) ?_)
              refine OpsJ.nil ?_
              by_cases hc221 : ((y34.length : Nat) : Int) ≠ ((p0_t.length : Nat) : Int)
              · rw [if_pos hc221] at h55
                refine CodeJ.cond_t rfl (decide_eq_true hc221) ?_
                refine CodeJ.seq' ?_
                refine CodeJ.region ?_
                refine OpsJ.put rfl (OpJ.pure (OpP.assign rfl) ?_)
                refine OpsJ.nil ?_
                refine CodeJ.ret' ?_
                obtain rfl := Option.some.inj h55
                exact Ret.mk0 ⟨rfl, rfl⟩ (ResJ.one Try.results5 rfl) (IM.le_refl _) (SubL.nil _)
              · rw [if_neg hc221] at h55
                refine CodeJ.cond_f rfl (decide_eq_false hc221) ?_
                refine CodeJ.skip ?_
                refine CodeJ.seq' ?_
                refine CodeJ.seq' ?_
                refine CodeJ.region ?_
                refine OpsJ.put rfl (OpJ.pure (OpP.assign rfl) ?_)
                refine OpsJ.nil ?_
                obtain ⟨t303, hl304, h305⟩ := bind_ok h55
                clear h55
                refine CodeJ.mid (fun e s => .inr () = t303 ∧ e = [(1, .slice A1_ p1_l.length c1_), (7, .slice A37 y34.length c38)] ∧ s = ⟨R, [.row 41 2 A37 y34.length c38 cs39]⟩) ?_ ?_
                · refine CodeJ.block ?_
                  refine CodeJ.loopM hl304 (fun i_275 e s => e = [(0, .slice A0_ p0_t.length c0_), (1, .slice A1_ p1_l.length c1_), (7, .slice A37 y34.length c38), (8, .int .i64 i_275)] ∧ s = ⟨R, [.row 41 2 A37 y34.length c38 cs39]⟩) ⟨rfl, rfl⟩ (SubE.cons rfl (SubE.cons rfl (SubE.cons rfl (SubE.cons rfl (SubE.nil _))))) (SubL.p0 (SubL.nil _)) ?_
                  rintro i_275 _ _ _ ⟨rfl, rfl⟩ h301 hne302
                  (try dsimp only at h301); unfold winnowerlaw14_PartMerges_l0 at h301
                  refine CodeJ.seq' ?_
                  refine CodeJ.seq' ?_
                  refine CodeJ.region ?_
                  refine OpsJ.put rfl (OpJ.pure (OpP.move rfl) ?_)
                  refine OpsJ.put rfl (OpJ.pure (OpP.move rfl) ?_)
                  refine OpsJ.put rfl (OpJ.pure (OpP.len rfl) ?_)
                  refine OpsJ.put rfl (OpJ.pure (OpP.lss rfl rfl) ?_)
                  refine OpsJ.nil ?_
                  by_cases hc306 : i_275 < ((p0_t.length : Nat) : Int)
                  · rw [if_pos hc306] at h301
                    refine CodeJ.cond_t rfl (decide_eq_true hc306) ?_
                    refine CodeJ.skip ?_
                    refine CodeJ.seq' ?_
                    refine CodeJ.block ?_
                    refine CodeJ.seq' ?_
                    refine CodeJ.drawn (by kernel_rfl) (by kernel_rfl) ?_
                    refine QuietJ.put rfl (OpQ.pure (OpP.move rfl) ?_)
                    refine QuietJ.put rfl (OpQ.pure (OpP.move rfl) ?_)
                    obtain ⟨x307, hx308, h309⟩ := bind_ok h301
                    clear h301
                    have hE310 : ∀ j v, ([.bool x307.1, .string x307.2] : List Value)[j]? = some v → (cs39)[Int.toNat i_275 * Dat.size (Bool × ByteArray) + j]? = some v := row_getF (α := Bool × ByteArray) hr40 hx308
                    refine QuietJ.put rfl (OpQ.pure (OpP.ixW (List.Mem.head _) hr40 rfl hx308 (by exact rfl) (by exact rfl) rfl rfl) ?_)
                    refine QuietJ.put rfl (OpQ.pure (OpP.fldAddr rfl (by exact rfl)) ?_)
                    refine QuietJ.put rfl (OpQ.pure (OpP.ldW (by exact rfl) (List.Mem.head _) hE310 rfl rfl) ?_)
                    refine QuietJ.put rfl (OpQ.pure (OpP.move rfl) ?_)
                    refine QuietJ.put rfl (OpQ.pure (OpP.move rfl) ?_)
                    obtain ⟨x311, hx312, h313⟩ := bind_ok h309
                    clear h309
                    have hE314 : RC _ (some ((adr A0_).add (Int.toNat i_275 * Dat.size (Bool × ByteArray)))) [.bool x311.1, .string x311.2] := SlR.getF (α := Bool × ByteArray) hA0_ hx312
                    refine QuietJ.put rfl (OpQ.pure (OpP.ixR hA0_ rfl hx312 (by exact rfl) (by exact rfl) rfl rfl) ?_)
                    refine QuietJ.put rfl (OpQ.pure (OpP.fldAddr rfl (by exact rfl)) ?_)
                    refine QuietJ.put rfl (OpQ.pure (OpP.ldR (by exact rfl) hE314 (IM.le_refl _) rfl rfl) ?_)
                    refine QuietJ.put rfl (OpQ.pure (OpP.move rfl) ?_)
                    by_cases hc315 : x311.1 = true
                    · rw [if_pos hc315] at h313
                      refine QuietJ.guard_n rfl rfl rfl rfl hc315 ?_
                      refine QuietJ.guard_n rfl rfl rfl rfl hc315 ?_
                      refine QuietJ.guard_n rfl rfl rfl rfl hc315 ?_
                      refine QuietJ.guard_n rfl rfl rfl rfl hc315 ?_
                      refine QuietJ.guard_n rfl rfl rfl rfl hc315 ?_
                      refine QuietJ.guard_n rfl rfl rfl rfl hc315 ?_
                      refine QuietJ.guard_n rfl rfl rfl rfl hc315 ?_
                      refine QuietJ.guard_n rfl rfl rfl rfl hc315 ?_
                      refine QuietJ.guard_n rfl rfl rfl rfl hc315 ?_
                      refine QuietJ.guard_n rfl rfl rfl rfl hc315 ?_
                      refine QuietJ.guard_n rfl rfl rfl rfl hc315 ?_
                      refine QuietJ.put rfl (OpQ.pure (OpP.pick_t rfl hc315 rfl) ?_)
                      refine QuietJ.put rfl (OpQ.pure (OpP.neq_bool rfl rfl) ?_)
                      refine QuietJ.put rfl (OpQ.pure (OpP.move rfl) ?_)
                      by_cases hc316 : (!(x307.1 == true)) = true
                      · rw [if_pos hc316] at h313
                        refine QuietJ.guard_n rfl rfl rfl rfl hc316 ?_
                        refine QuietJ.guard_n rfl rfl rfl rfl hc316 ?_
                        refine QuietJ.guard_n rfl rfl rfl rfl hc316 ?_
                        refine QuietJ.guard_n rfl rfl rfl rfl hc316 ?_
                        refine QuietJ.guard_n rfl rfl rfl rfl hc316 ?_
                        refine QuietJ.guard_n rfl rfl rfl rfl hc316 ?_
                        refine QuietJ.gund rfl rfl rfl rfl ?_
                        refine QuietJ.gund rfl rfl rfl rfl ?_
                        refine QuietJ.gund rfl rfl rfl rfl ?_
                        refine QuietJ.gund rfl rfl rfl rfl ?_
                        refine QuietJ.gund rfl rfl rfl rfl ?_
                        refine QuietJ.gund rfl rfl rfl rfl ?_
                        refine QuietJ.guard_n rfl rfl rfl rfl hc316 ?_
                        refine QuietJ.put rfl (OpQ.pure (OpP.pick_t rfl hc316 rfl) ?_)
                        refine QuietJ.nil ?_
                        refine CodeJ.cond_t rfl rfl ?_
                        refine CodeJ.seq' ?_
                        refine CodeJ.region ?_
                        refine OpsJ.put rfl (OpJ.pure (OpP.assign rfl) ?_)
                        refine OpsJ.nil ?_
                        obtain rfl := Option.some.inj h313
                        have ht317 := hne302 _ rfl
                        subst ht317
                        simp only [Sum.elim_inl] at h305
                        refine CodeJ.ret' ?_
                        obtain rfl := Option.some.inj h305
                        exact Ret.mk0 ⟨rfl, rfl⟩ (ResJ.one Try.results5 rfl) (IM.le_refl _) (SubL.nil _)
                      · rw [if_neg hc316] at h313
                        refine QuietJ.guard_y rfl rfl rfl rfl (Bool.eq_false_iff.2 hc316) ?_
                        refine QuietJ.put rfl (OpQ.pure (OpP.move rfl) ?_)
                        refine QuietJ.guard_y rfl rfl rfl rfl (Bool.eq_false_iff.2 hc316) ?_
                        refine QuietJ.put rfl (OpQ.pure (OpP.move rfl) ?_)
                        refine QuietJ.guard_y rfl rfl rfl rfl (Bool.eq_false_iff.2 hc316) ?_
                        have hE320 : ∀ j v, ([.bool x307.1, .string x307.2] : List Value)[j]? = some v → (cs39)[Int.toNat i_275 * Dat.size (Bool × ByteArray) + j]? = some v := row_getF (α := Bool × ByteArray) hr40 hx308
                        refine QuietJ.put rfl (OpQ.pure (OpP.ixW (List.Mem.head _) hr40 rfl hx308 (by exact rfl) (by exact rfl) rfl rfl) ?_)
                        refine QuietJ.guard_y rfl rfl rfl rfl (Bool.eq_false_iff.2 hc316) ?_
                        refine QuietJ.put rfl (OpQ.pure (OpP.fldAddr rfl (by exact rfl)) ?_)
                        refine QuietJ.guard_y rfl rfl rfl rfl (Bool.eq_false_iff.2 hc316) ?_
                        refine QuietJ.put rfl (OpQ.pure (OpP.ldW (by exact rfl) (List.Mem.head _) hE320 rfl rfl) ?_)
                        refine QuietJ.guard_y rfl rfl rfl rfl (Bool.eq_false_iff.2 hc316) ?_
                        refine QuietJ.put rfl (OpQ.pure (OpP.move rfl) ?_)
                        by_cases hc321 : x307.1 = true
                        · rw [if_pos hc321] at h313
                          refine QuietJ.guard_y rfl rfl rfl rfl hc321 ?_
                          refine QuietJ.put rfl (OpQ.pure (OpP.move rfl) ?_)
                          refine QuietJ.guard_y rfl rfl rfl rfl hc321 ?_
                          refine QuietJ.put rfl (OpQ.pure (OpP.move rfl) ?_)
                          refine QuietJ.guard_y rfl rfl rfl rfl hc321 ?_
                          have hE322 : ∀ j v, ([.bool x307.1, .string x307.2] : List Value)[j]? = some v → (cs39)[Int.toNat i_275 * Dat.size (Bool × ByteArray) + j]? = some v := row_getF (α := Bool × ByteArray) hr40 hx308
                          refine QuietJ.put rfl (OpQ.pure (OpP.ixW (List.Mem.head _) hr40 rfl hx308 (by exact rfl) (by exact rfl) rfl rfl) ?_)
                          refine QuietJ.guard_y rfl rfl rfl rfl hc321 ?_
                          refine QuietJ.put rfl (OpQ.pure (OpP.fldAddr rfl (by exact rfl)) ?_)
                          refine QuietJ.guard_y rfl rfl rfl rfl hc321 ?_
                          refine QuietJ.put rfl (OpQ.pure (OpP.ldW (by exact rfl) (List.Mem.head _) hE322 rfl rfl) ?_)
                          refine QuietJ.guard_y rfl rfl rfl rfl hc321 ?_
                          refine QuietJ.put rfl (OpQ.pure (OpP.neqS rfl rfl) ?_)
                          refine QuietJ.guard_y rfl rfl rfl rfl (Bool.eq_false_iff.2 hc316) ?_
                          refine QuietJ.put rfl (OpQ.pure (OpP.pick_t rfl hc321 rfl) ?_)
                          refine QuietJ.put rfl (OpQ.pure (OpP.pick_f rfl (Bool.eq_false_iff.2 hc316) rfl) ?_)
                          refine QuietJ.nil ?_
                          by_cases hc323 : x307.2 ≠ (⟨#[]⟩ : ByteArray)
                          · rw [if_pos hc323] at h313
                            refine CodeJ.cond_t rfl (decide_eq_true hc323) ?_
                            refine CodeJ.seq' ?_
                            refine CodeJ.region ?_
                            refine OpsJ.put rfl (OpJ.pure (OpP.assign rfl) ?_)
                            refine OpsJ.nil ?_
                            obtain rfl := Option.some.inj h313
                            have ht324 := hne302 _ rfl
                            subst ht324
                            simp only [Sum.elim_inl] at h305
                            refine CodeJ.ret' ?_
                            obtain rfl := Option.some.inj h305
                            exact Ret.mk0 ⟨rfl, rfl⟩ (ResJ.one Try.results5 rfl) (IM.le_refl _) (SubL.nil _)
                          · rw [if_neg hc323] at h313
                            refine CodeJ.cond_f rfl (decide_eq_false hc323) ?_
                            refine CodeJ.skip ?_
                            refine CodeJ.region ?_
                            refine OpsJ.put rfl (OpJ.pure (OpP.move rfl) ?_)
                            refine OpsJ.put rfl (OpJ.pure (OpP.add64 rfl rfl) ?_)
                            refine OpsJ.put rfl (OpJ.pure (OpP.assign rfl) ?_)
                            refine OpsJ.nil ?_
                            obtain rfl := Option.some.inj h313
                            exact ⟨_, _, _, _, rfl, ⟨rfl, rfl⟩, IM.le_refl _, (SubE.cons rfl (SubE.cons rfl (SubE.cons rfl (SubE.cons rfl (SubE.nil _))))), (SubL.p0 (SubL.nil _))⟩
                        · rw [if_neg hc321] at h313
                          refine QuietJ.guard_n rfl rfl rfl rfl (Bool.eq_false_iff.2 hc321) ?_
                          refine QuietJ.guard_n rfl rfl rfl rfl (Bool.eq_false_iff.2 hc321) ?_
                          refine QuietJ.guard_n rfl rfl rfl rfl (Bool.eq_false_iff.2 hc321) ?_
                          refine QuietJ.guard_n rfl rfl rfl rfl (Bool.eq_false_iff.2 hc321) ?_
                          refine QuietJ.guard_n rfl rfl rfl rfl (Bool.eq_false_iff.2 hc321) ?_
                          refine QuietJ.guard_n rfl rfl rfl rfl (Bool.eq_false_iff.2 hc321) ?_
                          refine QuietJ.guard_y rfl rfl rfl rfl (Bool.eq_false_iff.2 hc316) ?_
                          refine QuietJ.put rfl (OpQ.pure (OpP.pick_f rfl (Bool.eq_false_iff.2 hc321) rfl) ?_)
                          refine QuietJ.put rfl (OpQ.pure (OpP.pick_f rfl (Bool.eq_false_iff.2 hc316) rfl) ?_)
                          refine QuietJ.nil ?_
                          refine CodeJ.cond_f rfl rfl ?_
                          refine CodeJ.skip ?_
                          refine CodeJ.region ?_
                          refine OpsJ.put rfl (OpJ.pure (OpP.move rfl) ?_)
                          refine OpsJ.put rfl (OpJ.pure (OpP.add64 rfl rfl) ?_)
                          refine OpsJ.put rfl (OpJ.pure (OpP.assign rfl) ?_)
                          refine OpsJ.nil ?_
                          obtain rfl := Option.some.inj h313
                          exact ⟨_, _, _, _, rfl, ⟨rfl, rfl⟩, IM.le_refl _, (SubE.cons rfl (SubE.cons rfl (SubE.cons rfl (SubE.cons rfl (SubE.nil _))))), (SubL.p0 (SubL.nil _))⟩
                    · rw [if_neg hc315] at h313
                      refine QuietJ.guard_y rfl rfl rfl rfl (Bool.eq_false_iff.2 hc315) ?_
                      refine QuietJ.put rfl (OpQ.pure (OpP.move rfl) ?_)
                      refine QuietJ.guard_y rfl rfl rfl rfl (Bool.eq_false_iff.2 hc315) ?_
                      refine QuietJ.put rfl (OpQ.pure (OpP.move rfl) ?_)
                      refine QuietJ.guard_y rfl rfl rfl rfl (Bool.eq_false_iff.2 hc315) ?_
                      have hE327 : RC _ (some ((adr A0_).add (Int.toNat i_275 * Dat.size (Bool × ByteArray)))) [.bool x311.1, .string x311.2] := SlR.getF (α := Bool × ByteArray) hA0_ hx312
                      refine QuietJ.put rfl (OpQ.pure (OpP.ixR hA0_ rfl hx312 (by exact rfl) (by exact rfl) rfl rfl) ?_)
                      refine QuietJ.guard_y rfl rfl rfl rfl (Bool.eq_false_iff.2 hc315) ?_
                      refine QuietJ.put rfl (OpQ.pure (OpP.fldAddr rfl (by exact rfl)) ?_)
                      refine QuietJ.guard_y rfl rfl rfl rfl (Bool.eq_false_iff.2 hc315) ?_
                      refine QuietJ.put rfl (OpQ.pure (OpP.ldR (by exact rfl) hE327 (IM.le_refl _) rfl rfl) ?_)
                      refine QuietJ.guard_y rfl rfl rfl rfl (Bool.eq_false_iff.2 hc315) ?_
                      refine QuietJ.put rfl (OpQ.pure (OpP.move rfl) ?_)
                      refine QuietJ.guard_y rfl rfl rfl rfl (Bool.eq_false_iff.2 hc315) ?_
                      refine QuietJ.put rfl (OpQ.pure (OpP.move rfl) ?_)
                      refine QuietJ.guard_y rfl rfl rfl rfl (Bool.eq_false_iff.2 hc315) ?_
                      obtain ⟨x328, hx329, h330⟩ := bind_ok h313
                      clear h313
                      have hE331 : RC _ (some ((adr A1_).add (Int.toNat i_275 * Dat.size (Int × ByteArray)))) [.int .i64 x328.1, .string x328.2] := SlR.getF (α := Int × ByteArray) hA1_ hx329
                      refine QuietJ.put rfl (OpQ.pure (OpP.ixR hA1_ rfl hx329 (by exact rfl) (by exact rfl) rfl rfl) ?_)
                      refine QuietJ.guard_y rfl rfl rfl rfl (Bool.eq_false_iff.2 hc315) ?_
                      refine QuietJ.put rfl (OpQ.pure (OpP.fldAddr rfl (by exact rfl)) ?_)
                      refine QuietJ.guard_y rfl rfl rfl rfl (Bool.eq_false_iff.2 hc315) ?_
                      refine QuietJ.put rfl (OpQ.pure (OpP.ldR (by exact rfl) hE331 (IM.le_refl _) rfl rfl) ?_)
                      refine QuietJ.guard_y rfl rfl rfl rfl (Bool.eq_false_iff.2 hc315) ?_
                      refine QuietJ.put rfl (OpQ.pure (OpP.neqS rfl rfl) ?_)
                      refine QuietJ.put rfl (OpQ.pure (OpP.pick_f rfl (Bool.eq_false_iff.2 hc315) rfl) ?_)
                      refine QuietJ.put rfl (OpQ.pure (OpP.neq_bool rfl rfl) ?_)
                      refine QuietJ.put rfl (OpQ.pure (OpP.move rfl) ?_)
                      by_cases hc332 : (!(x307.1 == decide (x311.2 ≠ x328.2))) = true
                      · rw [if_pos hc332] at h330
                        refine QuietJ.guard_n rfl rfl rfl rfl hc332 ?_
                        refine QuietJ.guard_n rfl rfl rfl rfl hc332 ?_
                        refine QuietJ.guard_n rfl rfl rfl rfl hc332 ?_
                        refine QuietJ.guard_n rfl rfl rfl rfl hc332 ?_
                        refine QuietJ.guard_n rfl rfl rfl rfl hc332 ?_
                        refine QuietJ.guard_n rfl rfl rfl rfl hc332 ?_
                        refine QuietJ.gund rfl rfl rfl rfl ?_
                        refine QuietJ.gund rfl rfl rfl rfl ?_
                        refine QuietJ.gund rfl rfl rfl rfl ?_
                        refine QuietJ.gund rfl rfl rfl rfl ?_
                        refine QuietJ.gund rfl rfl rfl rfl ?_
                        refine QuietJ.gund rfl rfl rfl rfl ?_
                        refine QuietJ.guard_n rfl rfl rfl rfl hc332 ?_
                        refine QuietJ.put rfl (OpQ.pure (OpP.pick_t rfl hc332 rfl) ?_)
                        refine QuietJ.nil ?_
                        refine CodeJ.cond_t rfl rfl ?_
                        refine CodeJ.seq' ?_
                        refine CodeJ.region ?_
                        refine OpsJ.put rfl (OpJ.pure (OpP.assign rfl) ?_)
                        refine OpsJ.nil ?_
                        obtain rfl := Option.some.inj h330
                        have ht333 := hne302 _ rfl
                        subst ht333
                        simp only [Sum.elim_inl] at h305
                        refine CodeJ.ret' ?_
                        obtain rfl := Option.some.inj h305
                        exact Ret.mk0 ⟨rfl, rfl⟩ (ResJ.one Try.results5 rfl) (IM.le_refl _) (SubL.nil _)
                      · rw [if_neg hc332] at h330
                        refine QuietJ.guard_y rfl rfl rfl rfl (Bool.eq_false_iff.2 hc332) ?_
                        refine QuietJ.put rfl (OpQ.pure (OpP.move rfl) ?_)
                        refine QuietJ.guard_y rfl rfl rfl rfl (Bool.eq_false_iff.2 hc332) ?_
                        refine QuietJ.put rfl (OpQ.pure (OpP.move rfl) ?_)
                        refine QuietJ.guard_y rfl rfl rfl rfl (Bool.eq_false_iff.2 hc332) ?_
                        have hE336 : ∀ j v, ([.bool x307.1, .string x307.2] : List Value)[j]? = some v → (cs39)[Int.toNat i_275 * Dat.size (Bool × ByteArray) + j]? = some v := row_getF (α := Bool × ByteArray) hr40 hx308
                        refine QuietJ.put rfl (OpQ.pure (OpP.ixW (List.Mem.head _) hr40 rfl hx308 (by exact rfl) (by exact rfl) rfl rfl) ?_)
                        refine QuietJ.guard_y rfl rfl rfl rfl (Bool.eq_false_iff.2 hc332) ?_
                        refine QuietJ.put rfl (OpQ.pure (OpP.fldAddr rfl (by exact rfl)) ?_)
                        refine QuietJ.guard_y rfl rfl rfl rfl (Bool.eq_false_iff.2 hc332) ?_
                        refine QuietJ.put rfl (OpQ.pure (OpP.ldW (by exact rfl) (List.Mem.head _) hE336 rfl rfl) ?_)
                        refine QuietJ.guard_y rfl rfl rfl rfl (Bool.eq_false_iff.2 hc332) ?_
                        refine QuietJ.put rfl (OpQ.pure (OpP.move rfl) ?_)
                        by_cases hc337 : x307.1 = true
                        · rw [if_pos hc337] at h330
                          refine QuietJ.guard_y rfl rfl rfl rfl hc337 ?_
                          refine QuietJ.put rfl (OpQ.pure (OpP.move rfl) ?_)
                          refine QuietJ.guard_y rfl rfl rfl rfl hc337 ?_
                          refine QuietJ.put rfl (OpQ.pure (OpP.move rfl) ?_)
                          refine QuietJ.guard_y rfl rfl rfl rfl hc337 ?_
                          have hE338 : ∀ j v, ([.bool x307.1, .string x307.2] : List Value)[j]? = some v → (cs39)[Int.toNat i_275 * Dat.size (Bool × ByteArray) + j]? = some v := row_getF (α := Bool × ByteArray) hr40 hx308
                          refine QuietJ.put rfl (OpQ.pure (OpP.ixW (List.Mem.head _) hr40 rfl hx308 (by exact rfl) (by exact rfl) rfl rfl) ?_)
                          refine QuietJ.guard_y rfl rfl rfl rfl hc337 ?_
                          refine QuietJ.put rfl (OpQ.pure (OpP.fldAddr rfl (by exact rfl)) ?_)
                          refine QuietJ.guard_y rfl rfl rfl rfl hc337 ?_
                          refine QuietJ.put rfl (OpQ.pure (OpP.ldW (by exact rfl) (List.Mem.head _) hE338 rfl rfl) ?_)
                          refine QuietJ.guard_y rfl rfl rfl rfl hc337 ?_
                          refine QuietJ.put rfl (OpQ.pure (OpP.neqS rfl rfl) ?_)
                          refine QuietJ.guard_y rfl rfl rfl rfl (Bool.eq_false_iff.2 hc332) ?_
                          refine QuietJ.put rfl (OpQ.pure (OpP.pick_t rfl hc337 rfl) ?_)
                          refine QuietJ.put rfl (OpQ.pure (OpP.pick_f rfl (Bool.eq_false_iff.2 hc332) rfl) ?_)
                          refine QuietJ.nil ?_
                          by_cases hc339 : x307.2 ≠ (⟨#[]⟩ : ByteArray)
                          · rw [if_pos hc339] at h330
                            refine CodeJ.cond_t rfl (decide_eq_true hc339) ?_
                            refine CodeJ.seq' ?_
                            refine CodeJ.region ?_
                            refine OpsJ.put rfl (OpJ.pure (OpP.assign rfl) ?_)
                            refine OpsJ.nil ?_
                            obtain rfl := Option.some.inj h330
                            have ht340 := hne302 _ rfl
                            subst ht340
                            simp only [Sum.elim_inl] at h305
                            refine CodeJ.ret' ?_
                            obtain rfl := Option.some.inj h305
                            exact Ret.mk0 ⟨rfl, rfl⟩ (ResJ.one Try.results5 rfl) (IM.le_refl _) (SubL.nil _)
                          · rw [if_neg hc339] at h330
                            refine CodeJ.cond_f rfl (decide_eq_false hc339) ?_
                            refine CodeJ.skip ?_
                            refine CodeJ.region ?_
                            refine OpsJ.put rfl (OpJ.pure (OpP.move rfl) ?_)
                            refine OpsJ.put rfl (OpJ.pure (OpP.add64 rfl rfl) ?_)
                            refine OpsJ.put rfl (OpJ.pure (OpP.assign rfl) ?_)
                            refine OpsJ.nil ?_
                            obtain rfl := Option.some.inj h330
                            exact ⟨_, _, _, _, rfl, ⟨rfl, rfl⟩, IM.le_refl _, (SubE.cons rfl (SubE.cons rfl (SubE.cons rfl (SubE.cons rfl (SubE.nil _))))), (SubL.p0 (SubL.nil _))⟩
                        · rw [if_neg hc337] at h330
                          refine QuietJ.guard_n rfl rfl rfl rfl (Bool.eq_false_iff.2 hc337) ?_
                          refine QuietJ.guard_n rfl rfl rfl rfl (Bool.eq_false_iff.2 hc337) ?_
                          refine QuietJ.guard_n rfl rfl rfl rfl (Bool.eq_false_iff.2 hc337) ?_
                          refine QuietJ.guard_n rfl rfl rfl rfl (Bool.eq_false_iff.2 hc337) ?_
                          refine QuietJ.guard_n rfl rfl rfl rfl (Bool.eq_false_iff.2 hc337) ?_
                          refine QuietJ.guard_n rfl rfl rfl rfl (Bool.eq_false_iff.2 hc337) ?_
                          refine QuietJ.guard_y rfl rfl rfl rfl (Bool.eq_false_iff.2 hc332) ?_
                          refine QuietJ.put rfl (OpQ.pure (OpP.pick_f rfl (Bool.eq_false_iff.2 hc337) rfl) ?_)
                          refine QuietJ.put rfl (OpQ.pure (OpP.pick_f rfl (Bool.eq_false_iff.2 hc332) rfl) ?_)
                          refine QuietJ.nil ?_
                          refine CodeJ.cond_f rfl rfl ?_
                          refine CodeJ.skip ?_
                          refine CodeJ.region ?_
                          refine OpsJ.put rfl (OpJ.pure (OpP.move rfl) ?_)
                          refine OpsJ.put rfl (OpJ.pure (OpP.add64 rfl rfl) ?_)
                          refine OpsJ.put rfl (OpJ.pure (OpP.assign rfl) ?_)
                          refine OpsJ.nil ?_
                          obtain rfl := Option.some.inj h330
                          exact ⟨_, _, _, _, rfl, ⟨rfl, rfl⟩, IM.le_refl _, (SubE.cons rfl (SubE.cons rfl (SubE.cons rfl (SubE.cons rfl (SubE.nil _))))), (SubL.p0 (SubL.nil _))⟩
                  · rw [if_neg hc306] at h301
                    refine CodeJ.cond_f rfl (decide_eq_false hc306) ?_
                    refine CodeJ.exit rfl ?_
                    obtain rfl := Option.some.inj h301
                    have ht343 := hne302 _ rfl
                    exact ⟨_, _, _, ⟨ht343, rfl, rfl⟩, IM.le_refl _, (SubE.cons rfl (SubE.cons rfl (SubE.nil _))), (SubL.p0 (SubL.nil _))⟩
                · rintro _ _ ⟨rfl, rfl, rfl⟩
                  simp only [Sum.elim_inr] at h305
                  refine CodeJ.seq' ?_
                  refine CodeJ.region ?_
                  refine OpsJ.put rfl (OpJ.pure (OpP.move rfl) ?_)
                  refine OpsJ.put rfl (OpJ.pure (OpP.move rfl) ?_)
                  refine OpsJ.rowle (List.Perm.refl _) (fun hcap344 _ => ?_)
                  obtain ⟨y348, hy349, h350⟩ := bind_ok h305
                  clear h305
                  refine OpsJ.put rfl (OpJ.callP Split.nil rfl (fun R345 hle346 hin347 => part_Merge_w R345 A37 y34.length c38 y34 (SlR.of_row (inRow hin347 (List.Mem.head _)) hr40 (IM.le_nil _)) rfl hcap344 A1_ p1_l.length c1_ p1_l (SlR.mono hA1_ (IM.le_trans (IM.le_refl _) hle346)) rfl hc1_  _ hy349) ?_)
                  rintro _ _ _ ⟨A351, c352, cs353, rfl, hr354, rfl⟩
                  refine OpsJ.put rfl (OpJ.pure (OpP.move rfl) ?_)
                  refine OpsJ.rowle (List.Perm.refl _) (fun hcap356 _ => ?_)
                  refine OpsJ.rowle (List.Perm.swap _ _ _) (fun hcap357 _ => ?_)
                  obtain ⟨y361, hy362, h363⟩ := bind_ok h350
                  clear h350
                  refine OpsJ.put rfl (OpJ.call0 rfl (fun R358 hle359 hin360 => winnowerref14_Same_w R358 A351 y348.length c352 y348 (SlR.of_row (inRow hin360 (List.Mem.head _)) hr354 (IM.le_nil _)) rfl hcap356 A37 y34.length c38 y34 (SlR.of_row (inRow hin360 (List.Mem.tail _ (List.Mem.head _))) hr40 (IM.le_nil _)) rfl hcap357  _ hy362) ?_)
                  rintro _ _ _ ⟨rfl, rfl⟩
                  refine OpsJ.put rfl (OpJ.pure (OpP.move rfl) ?_)
                  by_cases hc364 : y361 = true
                  · rw [if_pos hc364] at h363
                    refine OpsJ.guard_y rfl rfl rfl rfl hc364 ?_
                    obtain ⟨y368, hy369, h370⟩ := bind_ok h363
                    clear h363
                    refine OpsJ.put rfl (OpJ.call0 rfl (fun R365 hle366 hin367 => winnowerlaw14_known_w R365   _ hy369) ?_)
                    rintro _ _ _ ⟨rfl, rfl⟩
                    refine OpsJ.put rfl (OpJ.pure (OpP.pick_t rfl hc364 rfl) ?_)
                    refine OpsJ.put rfl (OpJ.pure (OpP.assign rfl) ?_)
                    refine OpsJ.nil ?_
                    refine CodeJ.ret' ?_
                    obtain rfl := Option.some.inj h370
                    exact Ret.mk0 ⟨rfl, rfl⟩ (ResJ.one Try.results5 rfl) (IM.le_refl _) (SubL.nil _)
                  · rw [if_neg hc364] at h363
                    refine OpsJ.guard_n rfl rfl rfl rfl (Bool.eq_false_iff.2 hc364) ?_
                    refine OpsJ.put rfl (OpJ.pure (OpP.pick_f rfl (Bool.eq_false_iff.2 hc364) rfl) ?_)
                    refine OpsJ.put rfl (OpJ.pure (OpP.assign rfl) ?_)
                    refine OpsJ.nil ?_
                    refine CodeJ.ret' ?_
                    obtain rfl := Option.some.inj h363
                    exact Ret.mk0 ⟨rfl, rfl⟩ (ResJ.one Try.results5 rfl) (IM.le_refl _) (SubL.nil _)
          · rw [if_neg hc49] at h48
            refine OpsJ.guard_n rfl rfl rfl rfl (congrArg Bool.not (Bool.eq_false_iff.2 hc49)) ?_
            refine OpsJ.guard_n rfl rfl rfl rfl (congrArg Bool.not (Bool.eq_false_iff.2 hc49)) ?_
            refine OpsJ.guard_n rfl rfl rfl rfl (congrArg Bool.not (Bool.eq_false_iff.2 hc49)) ?_
            refine OpsJ.guard_n rfl rfl rfl rfl (congrArg Bool.not (Bool.eq_false_iff.2 hc49)) ?_
            refine OpsJ.gund rfl rfl rfl rfl ?_
            refine OpsJ.gund rfl rfl rfl rfl ?_
            refine OpsJ.gund rfl rfl rfl rfl ?_
            refine OpsJ.gund rfl rfl rfl rfl ?_
            refine OpsJ.guard_n rfl rfl rfl rfl (congrArg Bool.not (Bool.eq_false_iff.2 hc49)) ?_
            refine OpsJ.put rfl (OpJ.pure (OpP.pick_t rfl (congrArg Bool.not (Bool.eq_false_iff.2 hc49)) rfl) ?_)
            refine OpsJ.put rfl (OpJ.pure (OpP.move rfl) ?_)
            refine OpsJ.guard_n rfl rfl rfl rfl rfl ?_
            refine OpsJ.guard_n rfl rfl rfl rfl rfl ?_
            refine OpsJ.guard_n rfl rfl rfl rfl rfl ?_
            refine OpsJ.guard_n rfl rfl rfl rfl rfl ?_
            refine OpsJ.guard_n rfl rfl rfl rfl rfl ?_
            refine OpsJ.put rfl (OpJ.pure (OpP.pick_t rfl rfl rfl) ?_)
            refine OpsJ.nil ?_
            refine CodeJ.cond_t rfl rfl ?_
            refine CodeJ.seq' ?_
            refine CodeJ.region ?_
            refine OpsJ.put rfl (OpJ.pure (OpP.assign rfl) ?_)
            refine OpsJ.nil ?_
            refine CodeJ.ret' ?_
            obtain rfl := Option.some.inj h48
            exact Ret.mk0 ⟨rfl, rfl⟩ (ResJ.one Try.results5 rfl) (IM.le_refl _) (SubL.nil _)
theorem winnowerlaw14_PartWilder_w (R : IM) (A0_ : Option Addr) (n0_ c0_ : Nat) (p0_t : List (Bool × ByteArray)) (hA0_ : SlR R A0_ p0_t) (hn0_ : p0_t.length = n0_) (hc0_ : n0_ ≤ c0_) (A1_ : Option Addr) (n1_ c1_ : Nat) (p1_a : List (Int × ByteArray)) (hA1_ : SlR R A1_ p1_a) (hn1_ : p1_a.length = n1_) (hc1_ : n1_ ≤ c1_) (A2_ : Option Addr) (n2_ c2_ : Nat) (p2_b : List (Int × ByteArray)) (hA2_ : SlR R A2_ p2_b) (hn2_ : p2_b.length = n2_) (hc2_ : n2_ ≤ c2_) (y : Bool) (h : winnowerlaw14_PartWilder p0_t p1_a p2_b = some y) :
    CallJ Try.prog 6 #[.slice A0_ n0_ c0_, .slice A1_ n1_ c1_, .slice A2_ n2_ c2_] ⟨R, []⟩ (fun v D hs' => v = .bool y ∧ hs' = []) := by
  subst hn0_
  subst hn1_
  subst hn2_
  unfold winnowerlaw14_PartWilder at h
  refine CallJ.of3 Try.func6 rfl Try.ntmps6 rfl (fun W0 => ?_)
  refine CodeJ.seq' ?_
  refine CodeJ.region ?_
  refine OpsJ.put rfl (OpJ.pure (OpP.assign rfl) ?_)
  refine OpsJ.nil ?_
  refine CodeJ.seq' ?_
  refine CodeJ.seq' ?_
  refine CodeJ.region ?_
  refine OpsJ.put rfl (OpJ.pure (OpP.move rfl) ?_)
  obtain ⟨y4, hy5, h6⟩ := bind_ok h
  clear h
  refine OpsJ.put rfl (OpJ.call0 rfl (fun R1 hle2 hin3 => winnowerlaw14_wide_w R1 A0_ p0_t.length c0_ p0_t (SlR.mono hA0_ (IM.le_trans (IM.le_refl _) hle2)) rfl hc0_  _ hy5) ?_)
  rintro _ _ _ ⟨rfl, rfl⟩
  refine OpsJ.put rfl (OpJ.pure (OpP.move rfl) ?_)
  by_cases hc7 : y4 = true
  · rw [if_pos hc7] at h6
    refine OpsJ.guard_n rfl rfl rfl rfl hc7 ?_
    refine OpsJ.guard_n rfl rfl rfl rfl hc7 ?_
    refine OpsJ.put rfl (OpJ.pure (OpP.pick_t rfl hc7 rfl) ?_)
    refine OpsJ.put rfl (OpJ.pure (OpP.move rfl) ?_)
    refine OpsJ.guard_n rfl rfl rfl rfl rfl ?_
    refine OpsJ.guard_n rfl rfl rfl rfl rfl ?_
    refine OpsJ.put rfl (OpJ.pure (OpP.pick_t rfl rfl rfl) ?_)
    refine OpsJ.put rfl (OpJ.pure (OpP.move rfl) ?_)
    refine OpsJ.guard_n rfl rfl rfl rfl rfl ?_
    refine OpsJ.guard_n rfl rfl rfl rfl rfl ?_
    refine OpsJ.guard_n rfl rfl rfl rfl rfl ?_
    refine OpsJ.guard_n rfl rfl rfl rfl rfl ?_
    refine OpsJ.guard_n rfl rfl rfl rfl rfl ?_
    refine OpsJ.put rfl (OpJ.pure (OpP.pick_t rfl rfl rfl) ?_)
    refine OpsJ.put rfl (OpJ.pure (OpP.move rfl) ?_)
    refine OpsJ.guard_n rfl rfl rfl rfl rfl ?_
    refine OpsJ.guard_n rfl rfl rfl rfl rfl ?_
    refine OpsJ.guard_n rfl rfl rfl rfl rfl ?_
    refine OpsJ.guard_n rfl rfl rfl rfl rfl ?_
    refine OpsJ.guard_n rfl rfl rfl rfl rfl ?_
    refine OpsJ.put rfl (OpJ.pure (OpP.pick_t rfl rfl rfl) ?_)
    refine OpsJ.nil ?_
    refine CodeJ.cond_t rfl rfl ?_
    refine CodeJ.seq' ?_
    refine CodeJ.region ?_
    refine OpsJ.put rfl (OpJ.pure (OpP.assign rfl) ?_)
    refine OpsJ.nil ?_
    refine CodeJ.ret' ?_
    obtain rfl := Option.some.inj h6
    exact Ret.mk0 ⟨rfl, rfl⟩ (ResJ.one Try.results6 rfl) (IM.le_refl _) (SubL.nil _)
  · rw [if_neg hc7] at h6
    refine OpsJ.guard_y rfl rfl rfl rfl (Bool.eq_false_iff.2 hc7) ?_
    refine OpsJ.put rfl (OpJ.pure (OpP.move rfl) ?_)
    refine OpsJ.guard_y rfl rfl rfl rfl (Bool.eq_false_iff.2 hc7) ?_
    obtain ⟨y13, hy14, h15⟩ := bind_ok h6
    clear h6
    refine OpsJ.put rfl (OpJ.call0 rfl (fun R10 hle11 hin12 => winnowerlaw14_long_w R10 A1_ p1_a.length c1_ p1_a (SlR.mono hA1_ (IM.le_trans (IM.le_refl _) hle11)) rfl hc1_  _ hy14) ?_)
    rintro _ _ _ ⟨rfl, rfl⟩
    refine OpsJ.put rfl (OpJ.pure (OpP.pick_f rfl (Bool.eq_false_iff.2 hc7) rfl) ?_)
    refine OpsJ.put rfl (OpJ.pure (OpP.move rfl) ?_)
    by_cases hc16 : y13 = true
    · rw [if_pos hc16] at h15
      refine OpsJ.guard_n rfl rfl rfl rfl hc16 ?_
      refine OpsJ.guard_n rfl rfl rfl rfl hc16 ?_
      refine OpsJ.put rfl (OpJ.pure (OpP.pick_t rfl hc16 rfl) ?_)
      refine OpsJ.put rfl (OpJ.pure (OpP.move rfl) ?_)
      refine OpsJ.guard_n rfl rfl rfl rfl rfl ?_
      refine OpsJ.guard_n rfl rfl rfl rfl rfl ?_
      refine OpsJ.guard_n rfl rfl rfl rfl rfl ?_
      refine OpsJ.guard_n rfl rfl rfl rfl rfl ?_
      refine OpsJ.guard_n rfl rfl rfl rfl rfl ?_
      refine OpsJ.put rfl (OpJ.pure (OpP.pick_t rfl rfl rfl) ?_)
      refine OpsJ.put rfl (OpJ.pure (OpP.move rfl) ?_)
      refine OpsJ.guard_n rfl rfl rfl rfl rfl ?_
      refine OpsJ.guard_n rfl rfl rfl rfl rfl ?_
      refine OpsJ.guard_n rfl rfl rfl rfl rfl ?_
      refine OpsJ.guard_n rfl rfl rfl rfl rfl ?_
      refine OpsJ.guard_n rfl rfl rfl rfl rfl ?_
      refine OpsJ.put rfl (OpJ.pure (OpP.pick_t rfl rfl rfl) ?_)
      refine OpsJ.nil ?_
      refine CodeJ.cond_t rfl rfl ?_
      refine CodeJ.seq' ?_
      refine CodeJ.region ?_
      refine OpsJ.put rfl (OpJ.pure (OpP.assign rfl) ?_)
      refine OpsJ.nil ?_
      refine CodeJ.ret' ?_
      obtain rfl := Option.some.inj h15
      exact Ret.mk0 ⟨rfl, rfl⟩ (ResJ.one Try.results6 rfl) (IM.le_refl _) (SubL.nil _)
    · rw [if_neg hc16] at h15
      refine OpsJ.guard_y rfl rfl rfl rfl (Bool.eq_false_iff.2 hc16) ?_
      refine OpsJ.put rfl (OpJ.pure (OpP.move rfl) ?_)
      refine OpsJ.guard_y rfl rfl rfl rfl (Bool.eq_false_iff.2 hc16) ?_
      obtain ⟨y22, hy23, h24⟩ := bind_ok h15
      clear h15
      refine OpsJ.put rfl (OpJ.call0 rfl (fun R19 hle20 hin21 => winnowerlaw14_long_w R19 A2_ p2_b.length c2_ p2_b (SlR.mono hA2_ (IM.le_trans (IM.le_refl _) hle20)) rfl hc2_  _ hy23) ?_)
      rintro _ _ _ ⟨rfl, rfl⟩
      refine OpsJ.put rfl (OpJ.pure (OpP.pick_f rfl (Bool.eq_false_iff.2 hc16) rfl) ?_)
      refine OpsJ.put rfl (OpJ.pure (OpP.move rfl) ?_)
      by_cases hc25 : y22 = true
      · rw [if_pos hc25] at h24
        refine OpsJ.guard_n rfl rfl rfl rfl hc25 ?_
        refine OpsJ.guard_n rfl rfl rfl rfl hc25 ?_
        refine OpsJ.guard_n rfl rfl rfl rfl hc25 ?_
        refine OpsJ.guard_n rfl rfl rfl rfl hc25 ?_
        refine OpsJ.guard_n rfl rfl rfl rfl hc25 ?_
        refine OpsJ.put rfl (OpJ.pure (OpP.pick_t rfl hc25 rfl) ?_)
        refine OpsJ.put rfl (OpJ.pure (OpP.move rfl) ?_)
        refine OpsJ.guard_n rfl rfl rfl rfl rfl ?_
        refine OpsJ.guard_n rfl rfl rfl rfl rfl ?_
        refine OpsJ.guard_n rfl rfl rfl rfl rfl ?_
        refine OpsJ.guard_n rfl rfl rfl rfl rfl ?_
        refine OpsJ.guard_n rfl rfl rfl rfl rfl ?_
        refine OpsJ.put rfl (OpJ.pure (OpP.pick_t rfl rfl rfl) ?_)
        refine OpsJ.nil ?_
        refine CodeJ.cond_t rfl rfl ?_
        refine CodeJ.seq' ?_
        refine CodeJ.region ?_
        refine OpsJ.put rfl (OpJ.pure (OpP.assign rfl) ?_)
        refine OpsJ.nil ?_
        refine CodeJ.ret' ?_
        obtain rfl := Option.some.inj h24
        exact Ret.mk0 ⟨rfl, rfl⟩ (ResJ.one Try.results6 rfl) (IM.le_refl _) (SubL.nil _)
      · rw [if_neg hc25] at h24
        refine OpsJ.guard_y rfl rfl rfl rfl (Bool.eq_false_iff.2 hc25) ?_
        refine OpsJ.put rfl (OpJ.pure (OpP.move rfl) ?_)
        refine OpsJ.guard_y rfl rfl rfl rfl (Bool.eq_false_iff.2 hc25) ?_
        refine OpsJ.put rfl (OpJ.pure (OpP.len rfl) ?_)
        refine OpsJ.guard_y rfl rfl rfl rfl (Bool.eq_false_iff.2 hc25) ?_
        refine OpsJ.put rfl (OpJ.pure (OpP.move rfl) ?_)
        refine OpsJ.guard_y rfl rfl rfl rfl (Bool.eq_false_iff.2 hc25) ?_
        refine OpsJ.put rfl (OpJ.pure (OpP.len rfl) ?_)
        refine OpsJ.guard_y rfl rfl rfl rfl (Bool.eq_false_iff.2 hc25) ?_
        refine OpsJ.put rfl (OpJ.pure (OpP.neq rfl rfl) ?_)
        refine OpsJ.put rfl (OpJ.pure (OpP.pick_f rfl (Bool.eq_false_iff.2 hc25) rfl) ?_)
        refine OpsJ.put rfl (OpJ.pure (OpP.move rfl) ?_)
        by_cases hc28 : ((p1_a.length : Nat) : Int) ≠ ((p0_t.length : Nat) : Int)
        · rw [if_pos hc28] at h24
          refine OpsJ.guard_n rfl rfl rfl rfl (decide_eq_true hc28) ?_
          refine OpsJ.guard_n rfl rfl rfl rfl (decide_eq_true hc28) ?_
          refine OpsJ.guard_n rfl rfl rfl rfl (decide_eq_true hc28) ?_
          refine OpsJ.guard_n rfl rfl rfl rfl (decide_eq_true hc28) ?_
          refine OpsJ.guard_n rfl rfl rfl rfl (decide_eq_true hc28) ?_
          refine OpsJ.put rfl (OpJ.pure (OpP.pick_t rfl (decide_eq_true hc28) rfl) ?_)
          refine OpsJ.nil ?_
          refine CodeJ.cond_t rfl rfl ?_
          refine CodeJ.seq' ?_
          refine CodeJ.region ?_
          refine OpsJ.put rfl (OpJ.pure (OpP.assign rfl) ?_)
          refine OpsJ.nil ?_
          refine CodeJ.ret' ?_
          obtain rfl := Option.some.inj h24
          exact Ret.mk0 ⟨rfl, rfl⟩ (ResJ.one Try.results6 rfl) (IM.le_refl _) (SubL.nil _)
        · rw [if_neg hc28] at h24
          refine OpsJ.guard_y rfl rfl rfl rfl (decide_eq_false hc28) ?_
          refine OpsJ.put rfl (OpJ.pure (OpP.move rfl) ?_)
          refine OpsJ.guard_y rfl rfl rfl rfl (decide_eq_false hc28) ?_
          refine OpsJ.put rfl (OpJ.pure (OpP.len rfl) ?_)
          refine OpsJ.guard_y rfl rfl rfl rfl (decide_eq_false hc28) ?_
          refine OpsJ.put rfl (OpJ.pure (OpP.move rfl) ?_)
          refine OpsJ.guard_y rfl rfl rfl rfl (decide_eq_false hc28) ?_
          refine OpsJ.put rfl (OpJ.pure (OpP.len rfl) ?_)
          refine OpsJ.guard_y rfl rfl rfl rfl (decide_eq_false hc28) ?_
          refine OpsJ.put rfl (OpJ.pure (OpP.neq rfl rfl) ?_)
          refine OpsJ.put rfl (OpJ.pure (OpP.pick_f rfl (decide_eq_false hc28) rfl) ?_)
          refine OpsJ.nil ?_
          by_cases hc31 : ((p2_b.length : Nat) : Int) ≠ ((p0_t.length : Nat) : Int)
          · rw [if_pos hc31] at h24
            refine CodeJ.cond_t rfl (decide_eq_true hc31) ?_
            refine CodeJ.seq' ?_
            refine CodeJ.region ?_
            refine OpsJ.put rfl (OpJ.pure (OpP.assign rfl) ?_)
            refine OpsJ.nil ?_
            refine CodeJ.ret' ?_
            obtain rfl := Option.some.inj h24
            exact Ret.mk0 ⟨rfl, rfl⟩ (ResJ.one Try.results6 rfl) (IM.le_refl _) (SubL.nil _)
          · rw [if_neg hc31] at h24
            refine CodeJ.cond_f rfl (decide_eq_false hc31) ?_
            refine CodeJ.skip ?_
            refine CodeJ.seq' ?_
            refine CodeJ.region ?_
            refine OpsJ.put rfl (OpJ.pure (OpP.move rfl) ?_)
            refine OpsJ.put rfl (OpJ.pure (OpP.move rfl) ?_)
            obtain ⟨y37, hy38, h39⟩ := bind_ok h24
            clear h24
            refine OpsJ.put rfl (OpJ.callP Split.nil rfl (fun R34 hle35 hin36 => part_Merge_w R34 A0_ p0_t.length c0_ p0_t (SlR.mono hA0_ (IM.le_trans (IM.le_refl _) hle35)) rfl hc0_ A1_ p1_a.length c1_ p1_a (SlR.mono hA1_ (IM.le_trans (IM.le_refl _) hle35)) rfl hc1_  _ hy38) ?_)
            rintro _ _ _ ⟨A40, c41, cs42, rfl, hr43, rfl⟩
            refine OpsJ.put rfl (OpJ.pure (OpP.move rfl) ?_)
            refine OpsJ.rowle (List.Perm.refl _) (fun hcap45 _ => ?_)
            obtain ⟨y49, hy50, h51⟩ := bind_ok h39
            clear h39
            refine OpsJ.put rfl (OpJ.callP Split.nil rfl (fun R46 hle47 hin48 => part_Merge_w R46 A40 y37.length c41 y37 (SlR.of_row (inRow hin48 (List.Mem.head _)) hr43 (IM.le_nil _)) rfl hcap45 A2_ p2_b.length c2_ p2_b (SlR.mono hA2_ (IM.le_trans (IM.le_refl _) hle47)) rfl hc2_  _ hy50) ?_)
            rintro _ _ _ ⟨A52, c53, cs54, rfl, hr55, rfl⟩
            refine OpsJ.put rfl (OpJ.pure (OpP.move rfl) ?_)
            refine OpsJ.put rfl (OpJ.pure (OpP.move rfl) ?_)
            obtain ⟨y60, hy61, h62⟩ := bind_ok h51
            clear h51
            refine OpsJ.put rfl (OpJ.callP Split.nil rfl (fun R57 hle58 hin59 => part_Merge_w R57 A0_ p0_t.length c0_ p0_t (SlR.mono hA0_ (IM.le_trans (IM.le_refl _) hle58)) rfl hc0_ A2_ p2_b.length c2_ p2_b (SlR.mono hA2_ (IM.le_trans (IM.le_refl _) hle58)) rfl hc2_  _ hy61) ?_)
            rintro _ _ _ ⟨A63, c64, cs65, rfl, hr66, rfl⟩
            refine OpsJ.put rfl (OpJ.pure (OpP.move rfl) ?_)
            refine OpsJ.rowle (List.Perm.refl _) (fun hcap68 _ => ?_)
            obtain ⟨y72, hy73, h74⟩ := bind_ok h62
            clear h62
            refine OpsJ.put rfl (OpJ.callP Split.nil rfl (fun R69 hle70 hin71 => part_Merge_w R69 A63 y60.length c64 y60 (SlR.of_row (inRow hin71 (List.Mem.head _)) hr66 (IM.le_nil _)) rfl hcap68 A1_ p1_a.length c1_ p1_a (SlR.mono hA1_ (IM.le_trans (IM.le_refl _) hle70)) rfl hc1_  _ hy73) ?_)
            rintro _ _ _ ⟨A75, c76, cs77, rfl, hr78, rfl⟩
            refine OpsJ.put rfl (OpJ.pure (OpP.assign rfl) ?_)
            refine OpsJ.put rfl (OpJ.pure (OpP.assign rfl) ?_)
            refine OpsJ.nil ?_
            refine CodeJ.seq' ?_
            refine CodeJ.region ?_
            refine OpsJ.put rfl (OpJ.pure (OpP.move rfl) ?_)
            refine OpsJ.rowle (permm2 _ _ _ _) (fun hcap80 _ => ?_)
            obtain ⟨y84, hy85, h86⟩ := bind_ok h74
            clear h74
            refine OpsJ.put rfl (OpJ.call0 rfl (fun R81 hle82 hin83 => part_Wild_w R81 A52 y49.length c53 y49 (SlR.of_row (inRow hin83 (List.Mem.tail _ (List.Mem.tail _ (List.Mem.head _)))) hr55 (IM.le_nil _)) rfl hcap80  _ hy85) ?_)
            rintro _ _ _ ⟨rfl, rfl⟩
            refine OpsJ.put rfl (OpJ.pure (OpP.move rfl) ?_)
            refine OpsJ.put rfl (OpJ.pure (OpP.move rfl) ?_)
            obtain ⟨y90, hy91, h92⟩ := bind_ok h86
            clear h86
            refine OpsJ.put rfl (OpJ.callP Split.nil rfl (fun R87 hle88 hin89 => part_Merge_w R87 A0_ p0_t.length c0_ p0_t (SlR.mono hA0_ (IM.le_trans (IM.le_refl _) hle88)) rfl hc0_ A1_ p1_a.length c1_ p1_a (SlR.mono hA1_ (IM.le_trans (IM.le_refl _) hle88)) rfl hc1_  _ hy91) ?_)
            rintro _ _ _ ⟨A93, c94, cs95, rfl, hr96, rfl⟩
            refine OpsJ.rowle (List.Perm.refl _) (fun hcap98 _ => ?_)
            obtain ⟨y102, hy103, h104⟩ := bind_ok h92
            clear h92
            refine OpsJ.put rfl (OpJ.call0 rfl (fun R99 hle100 hin101 => part_Wild_w R99 A93 y90.length c94 y90 (SlR.of_row (inRow hin101 (List.Mem.head _)) hr96 (IM.le_nil _)) rfl hcap98  _ hy103) ?_)
            rintro _ _ _ ⟨rfl, rfl⟩
            refine OpsJ.put rfl (OpJ.pure (OpP.geq rfl rfl) ?_)
            refine OpsJ.put rfl (OpJ.pure (OpP.move rfl) ?_)
            by_cases hc105 : y84 ≥ y102
            · rw [if_pos hc105] at h104
              refine OpsJ.guard_y rfl rfl rfl rfl (decide_eq_true hc105) ?_
              refine OpsJ.put rfl (OpJ.pure (OpP.move rfl) ?_)
              refine OpsJ.guard_y rfl rfl rfl rfl (decide_eq_true hc105) ?_
              refine OpsJ.put rfl (OpJ.pure (OpP.move rfl) ?_)
              refine OpsJ.guard_y rfl rfl rfl rfl (decide_eq_true hc105) ?_
              obtain ⟨y109, hy110, h111⟩ := bind_ok h104
              clear h104
              refine OpsJ.put rfl (OpJ.callP Split.nil rfl (fun R106 hle107 hin108 => part_Merge_w R106 A0_ p0_t.length c0_ p0_t (SlR.mono hA0_ (IM.le_trans (IM.le_refl _) hle107)) rfl hc0_ A1_ p1_a.length c1_ p1_a (SlR.mono hA1_ (IM.le_trans (IM.le_refl _) hle107)) rfl hc1_  _ hy110) ?_)
              rintro _ _ _ ⟨A112, c113, cs114, rfl, hr115, rfl⟩
              refine OpsJ.guard_y rfl rfl rfl rfl (decide_eq_true hc105) ?_
              refine OpsJ.rowle (List.Perm.refl _) (fun hcap117 _ => ?_)
              obtain ⟨y121, hy122, h123⟩ := bind_ok h111
              clear h111
              refine OpsJ.put rfl (OpJ.call0 rfl (fun R118 hle119 hin120 => part_Wild_w R118 A112 y109.length c113 y109 (SlR.of_row (inRow hin120 (List.Mem.head _)) hr115 (IM.le_nil _)) rfl hcap117  _ hy122) ?_)
              rintro _ _ _ ⟨rfl, rfl⟩
              refine OpsJ.guard_y rfl rfl rfl rfl (decide_eq_true hc105) ?_
              refine OpsJ.put rfl (OpJ.pure (OpP.move rfl) ?_)
              refine OpsJ.guard_y rfl rfl rfl rfl (decide_eq_true hc105) ?_
              obtain ⟨y127, hy128, h129⟩ := bind_ok h123
              clear h123
              refine OpsJ.put rfl (OpJ.call0 rfl (fun R124 hle125 hin126 => part_Wild_w R124 A0_ p0_t.length c0_ p0_t (SlR.mono hA0_ (IM.le_trans (IM.le_refl _) hle125)) rfl hc0_  _ hy128) ?_)
              rintro _ _ _ ⟨rfl, rfl⟩
              refine OpsJ.guard_y rfl rfl rfl rfl (decide_eq_true hc105) ?_
              refine OpsJ.put rfl (OpJ.pure (OpP.geq rfl rfl) ?_)
              refine OpsJ.put rfl (OpJ.pure (OpP.pick_t rfl (decide_eq_true hc105) rfl) ?_)
              refine OpsJ.put rfl (OpJ.pure (OpP.move rfl) ?_)
              by_cases hc130 : y121 ≥ y127
              · rw [if_pos hc130] at h129
                refine OpsJ.guard_y rfl rfl rfl rfl (decide_eq_true hc130) ?_
                refine OpsJ.put rfl (OpJ.pure (OpP.move rfl) ?_)
                refine OpsJ.guard_y rfl rfl rfl rfl (decide_eq_true hc130) ?_
                refine OpsJ.put rfl (OpJ.pure (OpP.move rfl) ?_)
                refine OpsJ.guard_y rfl rfl rfl rfl (decide_eq_true hc130) ?_
                refine OpsJ.rowle (permm4 _ _ _ _ _ _) (fun hcap131 _ => ?_)
                refine OpsJ.rowle (permm2 _ _ _ _) (fun hcap132 _ => ?_)
                obtain ⟨y136, hy137, h138⟩ := bind_ok h129
                clear h129
                refine OpsJ.put rfl (OpJ.call0 rfl (fun R133 hle134 hin135 => winnowerref14_Same_w R133 A52 y49.length c53 y49 (SlR.of_row (inRow hin135 (List.Mem.tail _ (List.Mem.tail _ (List.Mem.tail _ (List.Mem.tail _ (List.Mem.head _)))))) hr55 (IM.le_nil _)) rfl hcap131 A75 y72.length c76 y72 (SlR.of_row (inRow hin135 (List.Mem.tail _ (List.Mem.tail _ (List.Mem.head _)))) hr78 (IM.le_nil _)) rfl hcap132  _ hy137) ?_)
                rintro _ _ _ ⟨rfl, rfl⟩
                refine OpsJ.put rfl (OpJ.pure (OpP.pick_t rfl (decide_eq_true hc130) rfl) ?_)
                refine OpsJ.put rfl (OpJ.pure (OpP.move rfl) ?_)
                by_cases hc139 : y136 = true
                · rw [if_pos hc139] at h138
                  refine OpsJ.guard_y rfl rfl rfl rfl hc139 ?_
                  obtain ⟨y143, hy144, h145⟩ := bind_ok h138
                  clear h138
                  refine OpsJ.put rfl (OpJ.call0 rfl (fun R140 hle141 hin142 => winnowerlaw14_known_w R140   _ hy144) ?_)
                  rintro _ _ _ ⟨rfl, rfl⟩
                  refine OpsJ.put rfl (OpJ.pure (OpP.pick_t rfl hc139 rfl) ?_)
                  refine OpsJ.put rfl (OpJ.pure (OpP.assign rfl) ?_)
                  refine OpsJ.nil ?_
                  refine CodeJ.ret' ?_
                  obtain rfl := Option.some.inj h145
                  exact Ret.mk0 ⟨rfl, rfl⟩ (ResJ.one Try.results6 rfl) (IM.le_refl _) (SubL.nil _)
                · rw [if_neg hc139] at h138
                  refine OpsJ.guard_n rfl rfl rfl rfl (Bool.eq_false_iff.2 hc139) ?_
                  refine OpsJ.put rfl (OpJ.pure (OpP.pick_f rfl (Bool.eq_false_iff.2 hc139) rfl) ?_)
                  refine OpsJ.put rfl (OpJ.pure (OpP.assign rfl) ?_)
                  refine OpsJ.nil ?_
                  refine CodeJ.ret' ?_
                  obtain rfl := Option.some.inj h138
                  exact Ret.mk0 ⟨rfl, rfl⟩ (ResJ.one Try.results6 rfl) (IM.le_refl _) (SubL.nil _)
              · rw [if_neg hc130] at h129
                refine OpsJ.guard_n rfl rfl rfl rfl (decide_eq_false hc130) ?_
                refine OpsJ.guard_n rfl rfl rfl rfl (decide_eq_false hc130) ?_
                refine OpsJ.guard_n rfl rfl rfl rfl (decide_eq_false hc130) ?_
                refine OpsJ.put rfl (OpJ.pure (OpP.pick_f rfl (decide_eq_false hc130) rfl) ?_)
                refine OpsJ.put rfl (OpJ.pure (OpP.move rfl) ?_)
                refine OpsJ.guard_n rfl rfl rfl rfl rfl ?_
                refine OpsJ.put rfl (OpJ.pure (OpP.pick_f rfl rfl rfl) ?_)
                refine OpsJ.put rfl (OpJ.pure (OpP.assign rfl) ?_)
                refine OpsJ.nil ?_
                refine CodeJ.ret' ?_
                obtain rfl := Option.some.inj h129
                exact Ret.mk0 ⟨rfl, rfl⟩ (ResJ.one Try.results6 rfl) (IM.le_refl _) (SubL.nil _)
            · rw [if_neg hc105] at h104
              refine OpsJ.guard_n rfl rfl rfl rfl (decide_eq_false hc105) ?_
              refine OpsJ.guard_n rfl rfl rfl rfl (decide_eq_false hc105) ?_
              refine OpsJ.guard_n rfl rfl rfl rfl (decide_eq_false hc105) ?_
              refine OpsJ.guard_n rfl rfl rfl rfl (decide_eq_false hc105) ?_
              refine OpsJ.guard_n rfl rfl rfl rfl (decide_eq_false hc105) ?_
              refine OpsJ.guard_n rfl rfl rfl rfl (decide_eq_false hc105) ?_
              refine OpsJ.guard_n rfl rfl rfl rfl (decide_eq_false hc105) ?_
              refine OpsJ.put rfl (OpJ.pure (OpP.pick_f rfl (decide_eq_false hc105) rfl) ?_)
              refine OpsJ.put rfl (OpJ.pure (OpP.move rfl) ?_)
              refine OpsJ.guard_n rfl rfl rfl rfl rfl ?_
              refine OpsJ.guard_n rfl rfl rfl rfl rfl ?_
              refine OpsJ.guard_n rfl rfl rfl rfl rfl ?_
              refine OpsJ.put rfl (OpJ.pure (OpP.pick_f rfl rfl rfl) ?_)
              refine OpsJ.put rfl (OpJ.pure (OpP.move rfl) ?_)
              refine OpsJ.guard_n rfl rfl rfl rfl rfl ?_
              refine OpsJ.put rfl (OpJ.pure (OpP.pick_f rfl rfl rfl) ?_)
              refine OpsJ.put rfl (OpJ.pure (OpP.assign rfl) ?_)
              refine OpsJ.nil ?_
              refine CodeJ.ret' ?_
              obtain rfl := Option.some.inj h104
              exact Ret.mk0 ⟨rfl, rfl⟩ (ResJ.one Try.results6 rfl) (IM.le_refl _) (SubL.nil _)
theorem winnowerlaw14_PartRenders_w (R : IM) (A0_ : Option Addr) (n0_ c0_ : Nat) (p0_t : List (Bool × ByteArray)) (hA0_ : SlR R A0_ p0_t) (hn0_ : p0_t.length = n0_) (hc0_ : n0_ ≤ c0_) (A1_ : Option Addr) (n1_ c1_ : Nat) (p1_vars : List ByteArray) (hA1_ : SlR R A1_ p1_vars) (hn1_ : p1_vars.length = n1_) (hc1_ : n1_ ≤ c1_) (y : Bool) (h : winnowerlaw14_PartRenders p0_t p1_vars = some y) :
    CallJ Try.prog 8 #[.slice A0_ n0_ c0_, .slice A1_ n1_ c1_] ⟨R, []⟩ (fun v D hs' => v = .bool y ∧ hs' = []) := by
  subst hn0_
  subst hn1_
  unfold winnowerlaw14_PartRenders at h
  refine CallJ.of2 Try.func8 rfl Try.ntmps8 rfl (fun W0 => ?_)
  refine CodeJ.seq' ?_
  refine CodeJ.region ?_
  refine OpsJ.put rfl (OpJ.pure (OpP.assign rfl) ?_)
  refine OpsJ.nil ?_
  refine CodeJ.seq' ?_
  refine CodeJ.seq' ?_
  refine CodeJ.region ?_
  refine OpsJ.put rfl (OpJ.pure (OpP.move rfl) ?_)
  obtain ⟨y4, hy5, h6⟩ := bind_ok h
  clear h
  refine OpsJ.put rfl (OpJ.call0 rfl (fun R1 hle2 hin3 => winnowerlaw14_wide_w R1 A0_ p0_t.length c0_ p0_t (SlR.mono hA0_ (IM.le_trans (IM.le_refl _) hle2)) rfl hc0_  _ hy5) ?_)
  rintro _ _ _ ⟨rfl, rfl⟩
  refine OpsJ.put rfl (OpJ.pure (OpP.move rfl) ?_)
  by_cases hc7 : y4 = true
  · rw [if_pos hc7] at h6
    refine OpsJ.guard_n rfl rfl rfl rfl hc7 ?_
    refine OpsJ.guard_n rfl rfl rfl rfl hc7 ?_
    refine OpsJ.guard_n rfl rfl rfl rfl hc7 ?_
    refine OpsJ.put rfl (OpJ.pure (OpP.pick_t rfl hc7 rfl) ?_)
    refine OpsJ.nil ?_
    refine CodeJ.cond_t rfl rfl ?_
    refine CodeJ.seq' ?_
    refine CodeJ.region ?_
    refine OpsJ.put rfl (OpJ.pure (OpP.assign rfl) ?_)
    refine OpsJ.nil ?_
    refine CodeJ.ret' ?_
    obtain rfl := Option.some.inj h6
    exact Ret.mk0 ⟨rfl, rfl⟩ (ResJ.one Try.results8 rfl) (IM.le_refl _) (SubL.nil _)
  · rw [if_neg hc7] at h6
    refine OpsJ.guard_y rfl rfl rfl rfl (Bool.eq_false_iff.2 hc7) ?_
    refine OpsJ.put rfl (OpJ.pure (OpP.move rfl) ?_)
    refine OpsJ.guard_y rfl rfl rfl rfl (Bool.eq_false_iff.2 hc7) ?_
    refine OpsJ.put rfl (OpJ.pure (OpP.len rfl) ?_)
    refine OpsJ.guard_y rfl rfl rfl rfl (Bool.eq_false_iff.2 hc7) ?_
    refine OpsJ.put rfl (OpJ.pure (OpP.gtr rfl rfl) ?_)
    refine OpsJ.put rfl (OpJ.pure (OpP.pick_f rfl (Bool.eq_false_iff.2 hc7) rfl) ?_)
    refine OpsJ.nil ?_
    by_cases hc10 : ((p1_vars.length : Nat) : Int) > 100
    · rw [if_pos hc10] at h6
      refine CodeJ.cond_t rfl (decide_eq_true hc10) ?_
      refine CodeJ.seq' ?_
      refine CodeJ.region ?_
      refine OpsJ.put rfl (OpJ.pure (OpP.assign rfl) ?_)
      refine OpsJ.nil ?_
      refine CodeJ.ret' ?_
      obtain rfl := Option.some.inj h6
      exact Ret.mk0 ⟨rfl, rfl⟩ (ResJ.one Try.results8 rfl) (IM.le_refl _) (SubL.nil _)
    · rw [if_neg hc10] at h6
      refine CodeJ.cond_f rfl (decide_eq_false hc10) ?_
      refine CodeJ.skip ?_
      refine CodeJ.seq' ?_
      refine CodeJ.region ?_
      refine OpsJ.put rfl (OpJ.pure (OpP.move rfl) ?_)
      refine OpsJ.put rfl (OpJ.pure (OpP.move rfl) ?_)
      obtain ⟨y16, hy17, h18⟩ := bind_ok h6
      clear h6
      refine OpsJ.put rfl (OpJ.call0 rfl (fun R13 hle14 hin15 => part_Render_w R13 A0_ p0_t.length c0_ p0_t (SlR.mono hA0_ (IM.le_trans (IM.le_refl _) hle14)) rfl hc0_ A1_ p1_vars.length c1_ p1_vars (SlR.mono hA1_ (IM.le_trans (IM.le_refl _) hle14)) rfl hc1_  _ hy17) ?_)
      rintro _ _ _ ⟨rfl, rfl⟩
      refine OpsJ.put rfl (OpJ.pure (OpP.move rfl) ?_)
      refine OpsJ.put rfl (OpJ.pure (OpP.extract rfl rfl) ?_)
      refine OpsJ.put rfl (OpJ.pure (OpP.extract rfl rfl) ?_)
      refine OpsJ.put rfl (OpJ.pure (OpP.assign rfl) ?_)
      refine OpsJ.put rfl (OpJ.pure (OpP.assign rfl) ?_)
      refine OpsJ.nil ?_
      refine CodeJ.seq' ?_
      refine CodeJ.region ?_
      refine OpsJ.put rfl (OpJ.pure (OpP.move rfl) ?_)
      refine OpsJ.put rfl (OpJ.pure (OpP.move rfl) ?_)
      obtain ⟨y22, hy23, h24⟩ := bind_ok h18
      clear h18
      refine OpsJ.put rfl (OpJ.call0 rfl (fun R19 hle20 hin21 => winnowerref14_Render_w R19 A0_ p0_t.length c0_ p0_t (SlR.mono hA0_ (IM.le_trans (IM.le_refl _) hle20)) rfl hc0_ A1_ p1_vars.length c1_ p1_vars (SlR.mono hA1_ (IM.le_trans (IM.le_refl _) hle20)) rfl hc1_  _ hy23) ?_)
      rintro _ _ _ ⟨rfl, rfl⟩
      refine OpsJ.put rfl (OpJ.pure (OpP.move rfl) ?_)
      refine OpsJ.put rfl (OpJ.pure (OpP.extract rfl rfl) ?_)
      refine OpsJ.put rfl (OpJ.pure (OpP.extract rfl rfl) ?_)
      refine OpsJ.put rfl (OpJ.pure (OpP.assign rfl) ?_)
      refine OpsJ.put rfl (OpJ.pure (OpP.assign rfl) ?_)
      refine OpsJ.nil ?_
      refine CodeJ.seq' ?_
      refine CodeJ.region ?_
      refine OpsJ.put rfl (OpJ.pure (OpP.move rfl) ?_)
      refine OpsJ.put rfl (OpJ.pure (OpP.move rfl) ?_)
      refine OpsJ.put rfl (OpJ.pure (OpP.eql_string rfl rfl) ?_)
      refine OpsJ.put rfl (OpJ.pure (OpP.move rfl) ?_)
      by_cases hc25 : y16.1 = y22.1
      · rw [if_pos hc25] at h24
        refine OpsJ.guard_y rfl rfl rfl rfl (decide_eq_true hc25) ?_
        refine OpsJ.put rfl (OpJ.pure (OpP.move rfl) ?_)
        refine OpsJ.guard_y rfl rfl rfl rfl (decide_eq_true hc25) ?_
        refine OpsJ.put rfl (OpJ.pure (OpP.move rfl) ?_)
        refine OpsJ.guard_y rfl rfl rfl rfl (decide_eq_true hc25) ?_
        refine OpsJ.put rfl (OpJ.pure (OpP.eql rfl rfl) ?_)
        refine OpsJ.put rfl (OpJ.pure (OpP.pick_t rfl (decide_eq_true hc25) rfl) ?_)
        refine OpsJ.put rfl (OpJ.pure (OpP.move rfl) ?_)
        by_cases hc26 : y16.2 = y22.2
        · rw [if_pos hc26] at h24
          refine OpsJ.guard_y rfl rfl rfl rfl (decide_eq_true hc26) ?_
          obtain ⟨y30, hy31, h32⟩ := bind_ok h24
          clear h24
          refine OpsJ.put rfl (OpJ.call0 rfl (fun R27 hle28 hin29 => winnowerlaw14_known_w R27   _ hy31) ?_)
          rintro _ _ _ ⟨rfl, rfl⟩
          refine OpsJ.put rfl (OpJ.pure (OpP.pick_t rfl (decide_eq_true hc26) rfl) ?_)
          refine OpsJ.put rfl (OpJ.pure (OpP.assign rfl) ?_)
          refine OpsJ.nil ?_
          refine CodeJ.ret' ?_
          obtain rfl := Option.some.inj h32
          exact Ret.mk0 ⟨rfl, rfl⟩ (ResJ.one Try.results8 rfl) (IM.le_refl _) (SubL.nil _)
        · rw [if_neg hc26] at h24
          refine OpsJ.guard_n rfl rfl rfl rfl (decide_eq_false hc26) ?_
          refine OpsJ.put rfl (OpJ.pure (OpP.pick_f rfl (decide_eq_false hc26) rfl) ?_)
          refine OpsJ.put rfl (OpJ.pure (OpP.assign rfl) ?_)
          refine OpsJ.nil ?_
          refine CodeJ.ret' ?_
          obtain rfl := Option.some.inj h24
          exact Ret.mk0 ⟨rfl, rfl⟩ (ResJ.one Try.results8 rfl) (IM.le_refl _) (SubL.nil _)
      · rw [if_neg hc25] at h24
        refine OpsJ.guard_n rfl rfl rfl rfl (decide_eq_false hc25) ?_
        refine OpsJ.guard_n rfl rfl rfl rfl (decide_eq_false hc25) ?_
        refine OpsJ.guard_n rfl rfl rfl rfl (decide_eq_false hc25) ?_
        refine OpsJ.put rfl (OpJ.pure (OpP.pick_f rfl (decide_eq_false hc25) rfl) ?_)
        refine OpsJ.put rfl (OpJ.pure (OpP.move rfl) ?_)
        refine OpsJ.guard_n rfl rfl rfl rfl rfl ?_
        refine OpsJ.put rfl (OpJ.pure (OpP.pick_f rfl rfl rfl) ?_)
        refine OpsJ.put rfl (OpJ.pure (OpP.assign rfl) ?_)
        refine OpsJ.nil ?_
        refine CodeJ.ret' ?_
        obtain rfl := Option.some.inj h24
        exact Ret.mk0 ⟨rfl, rfl⟩ (ResJ.one Try.results8 rfl) (IM.le_refl _) (SubL.nil _)
theorem winnowerlaw14_PartTells_w (R : IM) (A0_ : Option Addr) (n0_ c0_ : Nat) (p0_t : List (Bool × ByteArray)) (hA0_ : SlR R A0_ p0_t) (hn0_ : p0_t.length = n0_) (hc0_ : n0_ ≤ c0_) (A1_ : Option Addr) (n1_ c1_ : Nat) (p1_l : List (Int × ByteArray)) (hA1_ : SlR R A1_ p1_l) (hn1_ : p1_l.length = n1_) (hc1_ : n1_ ≤ c1_) (A2_ : Option Addr) (n2_ c2_ : Nat) (p2_b : List (Bool × ByteArray)) (hA2_ : SlR R A2_ p2_b) (hn2_ : p2_b.length = n2_) (hc2_ : n2_ ≤ c2_) (y : Bool) (h : winnowerlaw14_PartTells p0_t p1_l p2_b = some y) :
    CallJ Try.prog 10 #[.slice A0_ n0_ c0_, .slice A1_ n1_ c1_, .slice A2_ n2_ c2_] ⟨R, []⟩ (fun v D hs' => v = .bool y ∧ hs' = []) := by
  subst hn0_
  subst hn1_
  subst hn2_
  unfold winnowerlaw14_PartTells at h
  refine CallJ.of3 Try.func10 rfl Try.ntmps10 rfl (fun W0 => ?_)
  refine CodeJ.seq' ?_
  refine CodeJ.region ?_
  refine OpsJ.put rfl (OpJ.pure (OpP.assign rfl) ?_)
  refine OpsJ.nil ?_
  refine CodeJ.seq' ?_
  refine CodeJ.seq' ?_
  refine CodeJ.region ?_
  refine OpsJ.put rfl (OpJ.pure (OpP.move rfl) ?_)
  obtain ⟨y4, hy5, h6⟩ := bind_ok h
  clear h
  refine OpsJ.put rfl (OpJ.call0 rfl (fun R1 hle2 hin3 => winnowerlaw14_wide_w R1 A0_ p0_t.length c0_ p0_t (SlR.mono hA0_ (IM.le_trans (IM.le_refl _) hle2)) rfl hc0_  _ hy5) ?_)
  rintro _ _ _ ⟨rfl, rfl⟩
  refine OpsJ.put rfl (OpJ.pure (OpP.move rfl) ?_)
  by_cases hc7 : y4 = true
  · rw [if_pos hc7] at h6
    refine OpsJ.guard_n rfl rfl rfl rfl hc7 ?_
    refine OpsJ.guard_n rfl rfl rfl rfl hc7 ?_
    refine OpsJ.put rfl (OpJ.pure (OpP.pick_t rfl hc7 rfl) ?_)
    refine OpsJ.put rfl (OpJ.pure (OpP.move rfl) ?_)
    refine OpsJ.guard_n rfl rfl rfl rfl rfl ?_
    refine OpsJ.guard_n rfl rfl rfl rfl rfl ?_
    refine OpsJ.put rfl (OpJ.pure (OpP.pick_t rfl rfl rfl) ?_)
    refine OpsJ.nil ?_
    refine CodeJ.cond_t rfl rfl ?_
    refine CodeJ.seq' ?_
    refine CodeJ.region ?_
    refine OpsJ.put rfl (OpJ.pure (OpP.assign rfl) ?_)
    refine OpsJ.nil ?_
    refine CodeJ.ret' ?_
    obtain rfl := Option.some.inj h6
    exact Ret.mk0 ⟨rfl, rfl⟩ (ResJ.one Try.results10 rfl) (IM.le_refl _) (SubL.nil _)
  · rw [if_neg hc7] at h6
    refine OpsJ.guard_y rfl rfl rfl rfl (Bool.eq_false_iff.2 hc7) ?_
    refine OpsJ.put rfl (OpJ.pure (OpP.move rfl) ?_)
    refine OpsJ.guard_y rfl rfl rfl rfl (Bool.eq_false_iff.2 hc7) ?_
    obtain ⟨y13, hy14, h15⟩ := bind_ok h6
    clear h6
    refine OpsJ.put rfl (OpJ.call0 rfl (fun R10 hle11 hin12 => winnowerlaw14_wide_w R10 A2_ p2_b.length c2_ p2_b (SlR.mono hA2_ (IM.le_trans (IM.le_refl _) hle11)) rfl hc2_  _ hy14) ?_)
    rintro _ _ _ ⟨rfl, rfl⟩
    refine OpsJ.put rfl (OpJ.pure (OpP.pick_f rfl (Bool.eq_false_iff.2 hc7) rfl) ?_)
    refine OpsJ.put rfl (OpJ.pure (OpP.move rfl) ?_)
    by_cases hc16 : y13 = true
    · rw [if_pos hc16] at h15
      refine OpsJ.guard_n rfl rfl rfl rfl hc16 ?_
      refine OpsJ.guard_n rfl rfl rfl rfl hc16 ?_
      refine OpsJ.put rfl (OpJ.pure (OpP.pick_t rfl hc16 rfl) ?_)
      refine OpsJ.nil ?_
      refine CodeJ.cond_t rfl rfl ?_
      refine CodeJ.seq' ?_
      refine CodeJ.region ?_
      refine OpsJ.put rfl (OpJ.pure (OpP.assign rfl) ?_)
      refine OpsJ.nil ?_
      refine CodeJ.ret' ?_
      obtain rfl := Option.some.inj h15
      exact Ret.mk0 ⟨rfl, rfl⟩ (ResJ.one Try.results10 rfl) (IM.le_refl _) (SubL.nil _)
    · rw [if_neg hc16] at h15
      refine OpsJ.guard_y rfl rfl rfl rfl (Bool.eq_false_iff.2 hc16) ?_
      refine OpsJ.put rfl (OpJ.pure (OpP.move rfl) ?_)
      refine OpsJ.guard_y rfl rfl rfl rfl (Bool.eq_false_iff.2 hc16) ?_
      obtain ⟨y22, hy23, h24⟩ := bind_ok h15
      clear h15
      refine OpsJ.put rfl (OpJ.call0 rfl (fun R19 hle20 hin21 => winnowerlaw14_long_w R19 A1_ p1_l.length c1_ p1_l (SlR.mono hA1_ (IM.le_trans (IM.le_refl _) hle20)) rfl hc1_  _ hy23) ?_)
      rintro _ _ _ ⟨rfl, rfl⟩
      refine OpsJ.put rfl (OpJ.pure (OpP.pick_f rfl (Bool.eq_false_iff.2 hc16) rfl) ?_)
      refine OpsJ.nil ?_
      by_cases hc25 : y22 = true
      · rw [if_pos hc25] at h24
        refine CodeJ.cond_t rfl hc25 ?_
        refine CodeJ.seq' ?_
        refine CodeJ.region ?_
        refine OpsJ.put rfl (OpJ.pure (OpP.assign rfl) ?_)
        refine OpsJ.nil ?_
        refine CodeJ.ret' ?_
        obtain rfl := Option.some.inj h24
        exact Ret.mk0 ⟨rfl, rfl⟩ (ResJ.one Try.results10 rfl) (IM.le_refl _) (SubL.nil _)
      · rw [if_neg hc25] at h24
        refine CodeJ.cond_f rfl (Bool.eq_false_iff.2 hc25) ?_
        refine CodeJ.skip ?_
        refine CodeJ.seq' ?_
        refine CodeJ.region ?_
        refine OpsJ.put rfl (OpJ.pure (OpP.move rfl) ?_)
        refine OpsJ.put rfl (OpJ.pure (OpP.move rfl) ?_)
        obtain ⟨y31, hy32, h33⟩ := bind_ok h24
        clear h24
        refine OpsJ.put rfl (OpJ.call0 rfl (fun R28 hle29 hin30 => winnowerref14_Alike_w R28 A0_ p0_t.length c0_ p0_t (SlR.mono hA0_ (IM.le_trans (IM.le_refl _) hle29)) rfl hc0_ A1_ p1_l.length c1_ p1_l (SlR.mono hA1_ (IM.le_trans (IM.le_refl _) hle29)) rfl hc1_  _ hy32) ?_)
        rintro _ _ _ ⟨rfl, rfl⟩
        refine OpsJ.put rfl (OpJ.pure (OpP.assign rfl) ?_)
        refine OpsJ.nil ?_
        refine CodeJ.seq' ?_
        refine CodeJ.region ?_
        refine OpsJ.put rfl (OpJ.pure (OpP.move rfl) ?_)
        obtain ⟨y37, hy38, h39⟩ := bind_ok h33
        clear h33
        refine OpsJ.put rfl (OpJ.callP Split.nil rfl (fun R34 hle35 hin36 => part_Of_w R34 A1_ p1_l.length c1_ p1_l (SlR.mono hA1_ (IM.le_trans (IM.le_refl _) hle35)) rfl hc1_  _ hy38) ?_)
        rintro _ _ _ ⟨A40, c41, cs42, rfl, hr43, rfl⟩
        refine OpsJ.put rfl (OpJ.pure (OpP.move rfl) ?_)
        obtain ⟨y48, hy49, h50⟩ := bind_ok h39
        clear h39
        refine OpsJ.put rfl (OpJ.callP Split.nil rfl (fun R45 hle46 hin47 => winnowerref14_Of_w R45 A1_ p1_l.length c1_ p1_l (SlR.mono hA1_ (IM.le_trans (IM.le_refl _) hle46)) rfl hc1_  _ hy49) ?_)
        rintro _ _ _ ⟨A51, c52, cs53, rfl, hr54, rfl⟩
        refine OpsJ.rowle (List.Perm.swap _ _ _) (fun hcap56 _ => ?_)
        refine OpsJ.rowle (List.Perm.refl _) (fun hcap57 _ => ?_)
        obtain ⟨y61, hy62, h63⟩ := bind_ok h50
        clear h50
        refine OpsJ.put rfl (OpJ.call0 rfl (fun R58 hle59 hin60 => winnowerref14_Same_w R58 A40 y37.length c41 y37 (SlR.of_row (inRow hin60 (List.Mem.tail _ (List.Mem.head _))) hr43 (IM.le_nil _)) rfl hcap56 A51 y48.length c52 y48 (SlR.of_row (inRow hin60 (List.Mem.head _)) hr54 (IM.le_nil _)) rfl hcap57  _ hy62) ?_)
        rintro _ _ _ ⟨rfl, rfl⟩
        refine OpsJ.put rfl (OpJ.pure (OpP.move rfl) ?_)
        by_cases hc64 : y61 = true
        · rw [if_pos hc64] at h63
          refine OpsJ.guard_y rfl rfl rfl rfl hc64 ?_
          refine OpsJ.put rfl (OpJ.pure (OpP.move rfl) ?_)
          refine OpsJ.guard_y rfl rfl rfl rfl hc64 ?_
          refine OpsJ.put rfl (OpJ.pure (OpP.move rfl) ?_)
          refine OpsJ.guard_y rfl rfl rfl rfl hc64 ?_
          obtain ⟨y68, hy69, h70⟩ := bind_ok h63
          clear h63
          refine OpsJ.put rfl (OpJ.call0 rfl (fun R65 hle66 hin67 => part_Alike_w R65 A0_ p0_t.length c0_ p0_t (SlR.mono hA0_ (IM.le_trans (IM.le_refl _) hle66)) rfl hc0_ A1_ p1_l.length c1_ p1_l (SlR.mono hA1_ (IM.le_trans (IM.le_refl _) hle66)) rfl hc1_  _ hy69) ?_)
          rintro _ _ _ ⟨rfl, rfl⟩
          refine OpsJ.guard_y rfl rfl rfl rfl hc64 ?_
          refine OpsJ.put rfl (OpJ.pure (OpP.move rfl) ?_)
          refine OpsJ.guard_y rfl rfl rfl rfl hc64 ?_
          refine OpsJ.put rfl (OpJ.pure (OpP.eql rfl rfl) ?_)
          refine OpsJ.put rfl (OpJ.pure (OpP.pick_t rfl hc64 rfl) ?_)
          refine OpsJ.put rfl (OpJ.pure (OpP.move rfl) ?_)
          by_cases hc71 : y68 = y31
          · rw [if_pos hc71] at h70
            refine OpsJ.guard_y rfl rfl rfl rfl (decide_eq_true hc71) ?_
            refine OpsJ.put rfl (OpJ.pure (OpP.move rfl) ?_)
            refine OpsJ.guard_y rfl rfl rfl rfl (decide_eq_true hc71) ?_
            refine OpsJ.put rfl (OpJ.pure (OpP.move rfl) ?_)
            refine OpsJ.guard_y rfl rfl rfl rfl (decide_eq_true hc71) ?_
            obtain ⟨y75, hy76, h77⟩ := bind_ok h70
            clear h70
            refine OpsJ.put rfl (OpJ.call0 rfl (fun R72 hle73 hin74 => part_Fits_w R72 A0_ p0_t.length c0_ p0_t (SlR.mono hA0_ (IM.le_trans (IM.le_refl _) hle73)) rfl hc0_ A1_ p1_l.length c1_ p1_l (SlR.mono hA1_ (IM.le_trans (IM.le_refl _) hle73)) rfl hc1_  _ hy76) ?_)
            rintro _ _ _ ⟨rfl, rfl⟩
            refine OpsJ.guard_y rfl rfl rfl rfl (decide_eq_true hc71) ?_
            refine OpsJ.put rfl (OpJ.pure (OpP.move rfl) ?_)
            refine OpsJ.guard_y rfl rfl rfl rfl (decide_eq_true hc71) ?_
            refine OpsJ.put rfl (OpJ.pure (OpP.move rfl) ?_)
            refine OpsJ.guard_y rfl rfl rfl rfl (decide_eq_true hc71) ?_
            refine OpsJ.put rfl (OpJ.pure (OpP.len rfl) ?_)
            refine OpsJ.guard_y rfl rfl rfl rfl (decide_eq_true hc71) ?_
            refine OpsJ.put rfl (OpJ.pure (OpP.eql rfl rfl) ?_)
            refine OpsJ.guard_y rfl rfl rfl rfl (decide_eq_true hc71) ?_
            refine OpsJ.put rfl (OpJ.pure (OpP.move rfl) ?_)
            by_cases hc78 : y31 = ((p0_t.length : Nat) : Int)
            · rw [if_pos hc78] at h77
              refine OpsJ.guard_y rfl rfl rfl rfl (decide_eq_true hc78) ?_
              refine OpsJ.put rfl (OpJ.pure (OpP.move rfl) ?_)
              refine OpsJ.guard_y rfl rfl rfl rfl (decide_eq_true hc78) ?_
              refine OpsJ.put rfl (OpJ.pure (OpP.geq rfl rfl) ?_)
              refine OpsJ.guard_y rfl rfl rfl rfl (decide_eq_true hc71) ?_
              refine OpsJ.put rfl (OpJ.pure (OpP.pick_t rfl (decide_eq_true hc78) rfl) ?_)
              refine OpsJ.guard_y rfl rfl rfl rfl (decide_eq_true hc71) ?_
              refine OpsJ.put rfl (OpJ.pure (OpP.eql_bool rfl rfl) ?_)
              refine OpsJ.put rfl (OpJ.pure (OpP.pick_t rfl (decide_eq_true hc71) rfl) ?_)
              refine OpsJ.put rfl (OpJ.pure (OpP.move rfl) ?_)
              by_cases hc79 : (y75 == decide (y31 ≥ 0)) = true
              · rw [if_pos hc79] at h77
                refine OpsJ.guard_y rfl rfl rfl rfl hc79 ?_
                refine OpsJ.put rfl (OpJ.pure (OpP.move rfl) ?_)
                refine OpsJ.guard_y rfl rfl rfl rfl hc79 ?_
                refine OpsJ.put rfl (OpJ.pure (OpP.move rfl) ?_)
                refine OpsJ.guard_y rfl rfl rfl rfl hc79 ?_
                obtain ⟨y83, hy84, h85⟩ := bind_ok h77
                clear h77
                refine OpsJ.put rfl (OpJ.callP Split.nil rfl (fun R80 hle81 hin82 => part_Merge_w R80 A0_ p0_t.length c0_ p0_t (SlR.mono hA0_ (IM.le_trans (IM.le_refl _) hle81)) rfl hc0_ A1_ p1_l.length c1_ p1_l (SlR.mono hA1_ (IM.le_trans (IM.le_refl _) hle81)) rfl hc1_  _ hy84) ?_)
                rintro _ _ _ ⟨A86, c87, cs88, rfl, hr89, rfl⟩
                refine OpsJ.guard_y rfl rfl rfl rfl hc79 ?_
                refine OpsJ.put rfl (OpJ.pure (OpP.move rfl) ?_)
                refine OpsJ.guard_y rfl rfl rfl rfl hc79 ?_
                refine OpsJ.put rfl (OpJ.pure (OpP.move rfl) ?_)
                refine OpsJ.guard_y rfl rfl rfl rfl hc79 ?_
                obtain ⟨y94, hy95, h96⟩ := bind_ok h85
                clear h85
                refine OpsJ.put rfl (OpJ.callP Split.nil rfl (fun R91 hle92 hin93 => winnowerref14_Merge_w R91 A0_ p0_t.length c0_ p0_t (SlR.mono hA0_ (IM.le_trans (IM.le_refl _) hle92)) rfl hc0_ A1_ p1_l.length c1_ p1_l (SlR.mono hA1_ (IM.le_trans (IM.le_refl _) hle92)) rfl hc1_  _ hy95) ?_)
                rintro _ _ _ ⟨A97, c98, cs99, rfl, hr100, rfl⟩
                refine OpsJ.guard_y rfl rfl rfl rfl hc79 ?_
                refine OpsJ.rowle (List.Perm.swap _ _ _) (fun hcap102 _ => ?_)
                refine OpsJ.rowle (List.Perm.refl _) (fun hcap103 _ => ?_)
                obtain ⟨y107, hy108, h109⟩ := bind_ok h96
                clear h96
                refine OpsJ.put rfl (OpJ.call0 rfl (fun R104 hle105 hin106 => winnowerref14_Same_w R104 A86 y83.length c87 y83 (SlR.of_row (inRow hin106 (List.Mem.tail _ (List.Mem.head _))) hr89 (IM.le_nil _)) rfl hcap102 A97 y94.length c98 y94 (SlR.of_row (inRow hin106 (List.Mem.head _)) hr100 (IM.le_nil _)) rfl hcap103  _ hy108) ?_)
                rintro _ _ _ ⟨rfl, rfl⟩
                refine OpsJ.put rfl (OpJ.pure (OpP.pick_t rfl hc79 rfl) ?_)
                refine OpsJ.put rfl (OpJ.pure (OpP.move rfl) ?_)
                by_cases hc110 : y107 = true
                · rw [if_pos hc110] at h109
                  refine OpsJ.guard_y rfl rfl rfl rfl hc110 ?_
                  refine OpsJ.put rfl (OpJ.pure (OpP.move rfl) ?_)
                  refine OpsJ.guard_y rfl rfl rfl rfl hc110 ?_
                  refine OpsJ.put rfl (OpJ.pure (OpP.move rfl) ?_)
                  refine OpsJ.guard_y rfl rfl rfl rfl hc110 ?_
                  obtain ⟨y114, hy115, h116⟩ := bind_ok h109
                  clear h109
                  refine OpsJ.put rfl (OpJ.callP Split.nil rfl (fun R111 hle112 hin113 => part_Vars_w R111 A0_ p0_t.length c0_ p0_t (SlR.mono hA0_ (IM.le_trans (IM.le_refl _) hle112)) rfl hc0_ A1_ p1_l.length c1_ p1_l (SlR.mono hA1_ (IM.le_trans (IM.le_refl _) hle112)) rfl hc1_  _ hy115) ?_)
                  rintro _ _ _ ⟨A117, c118, cs119, rfl, hr120, rfl⟩
                  refine OpsJ.guard_y rfl rfl rfl rfl hc110 ?_
                  refine OpsJ.put rfl (OpJ.pure (OpP.move rfl) ?_)
                  refine OpsJ.guard_y rfl rfl rfl rfl hc110 ?_
                  refine OpsJ.put rfl (OpJ.pure (OpP.move rfl) ?_)
                  refine OpsJ.guard_y rfl rfl rfl rfl hc110 ?_
                  obtain ⟨y125, hy126, h127⟩ := bind_ok h116
                  clear h116
                  refine OpsJ.put rfl (OpJ.callP Split.nil rfl (fun R122 hle123 hin124 => winnowerref14_Vars_w R122 A0_ p0_t.length c0_ p0_t (SlR.mono hA0_ (IM.le_trans (IM.le_refl _) hle123)) rfl hc0_ A1_ p1_l.length c1_ p1_l (SlR.mono hA1_ (IM.le_trans (IM.le_refl _) hle123)) rfl hc1_  _ hy126) ?_)
                  rintro _ _ _ ⟨A128, c129, cs130, rfl, hr131, rfl⟩
                  refine OpsJ.guard_y rfl rfl rfl rfl hc110 ?_
                  refine OpsJ.rowle (List.Perm.swap _ _ _) (fun hcap133 _ => ?_)
                  refine OpsJ.rowle (List.Perm.refl _) (fun hcap134 _ => ?_)
                  obtain ⟨y138, hy139, h140⟩ := bind_ok h127
                  clear h127
                  refine OpsJ.put rfl (OpJ.call0 rfl (fun R135 hle136 hin137 => winnowerlaw14_texts_w R135 A117 y114.length c118 y114 (SlR.of_row (inRow hin137 (List.Mem.tail _ (List.Mem.head _))) hr120 (IM.le_nil _)) rfl hcap133 A128 y125.length c129 y125 (SlR.of_row (inRow hin137 (List.Mem.head _)) hr131 (IM.le_nil _)) rfl hcap134  _ hy139) ?_)
                  rintro _ _ _ ⟨rfl, rfl⟩
                  refine OpsJ.put rfl (OpJ.pure (OpP.pick_t rfl hc110 rfl) ?_)
                  refine OpsJ.put rfl (OpJ.pure (OpP.move rfl) ?_)
                  by_cases hc141 : y138 = true
                  · rw [if_pos hc141] at h140
                    refine OpsJ.guard_y rfl rfl rfl rfl hc141 ?_
                    refine OpsJ.put rfl (OpJ.pure (OpP.move rfl) ?_)
                    refine OpsJ.guard_y rfl rfl rfl rfl hc141 ?_
                    obtain ⟨y145, hy146, h147⟩ := bind_ok h140
                    clear h140
                    refine OpsJ.put rfl (OpJ.call0 rfl (fun R142 hle143 hin144 => part_Wild_w R142 A0_ p0_t.length c0_ p0_t (SlR.mono hA0_ (IM.le_trans (IM.le_refl _) hle143)) rfl hc0_  _ hy146) ?_)
                    rintro _ _ _ ⟨rfl, rfl⟩
                    refine OpsJ.guard_y rfl rfl rfl rfl hc141 ?_
                    refine OpsJ.put rfl (OpJ.pure (OpP.move rfl) ?_)
                    refine OpsJ.guard_y rfl rfl rfl rfl hc141 ?_
                    obtain ⟨y151, hy152, h153⟩ := bind_ok h147
                    clear h147
                    refine OpsJ.put rfl (OpJ.call0 rfl (fun R148 hle149 hin150 => winnowerref14_Wild_w R148 A0_ p0_t.length c0_ p0_t (SlR.mono hA0_ (IM.le_trans (IM.le_refl _) hle149)) rfl hc0_  _ hy152) ?_)
                    rintro _ _ _ ⟨rfl, rfl⟩
                    refine OpsJ.guard_y rfl rfl rfl rfl hc141 ?_
                    refine OpsJ.put rfl (OpJ.pure (OpP.eql rfl rfl) ?_)
                    refine OpsJ.put rfl (OpJ.pure (OpP.pick_t rfl hc141 rfl) ?_)
                    refine OpsJ.put rfl (OpJ.pure (OpP.move rfl) ?_)
                    by_cases hc154 : y145 = y151
                    · rw [if_pos hc154] at h153
                      refine OpsJ.guard_y rfl rfl rfl rfl (decide_eq_true hc154) ?_
                      refine OpsJ.put rfl (OpJ.pure (OpP.move rfl) ?_)
                      refine OpsJ.guard_y rfl rfl rfl rfl (decide_eq_true hc154) ?_
                      refine OpsJ.put rfl (OpJ.pure (OpP.move rfl) ?_)
                      refine OpsJ.guard_y rfl rfl rfl rfl (decide_eq_true hc154) ?_
                      obtain ⟨y158, hy159, h160⟩ := bind_ok h153
                      clear h153
                      refine OpsJ.put rfl (OpJ.call0 rfl (fun R155 hle156 hin157 => part_Same_w R155 A0_ p0_t.length c0_ p0_t (SlR.mono hA0_ (IM.le_trans (IM.le_refl _) hle156)) rfl hc0_ A2_ p2_b.length c2_ p2_b (SlR.mono hA2_ (IM.le_trans (IM.le_refl _) hle156)) rfl hc2_  _ hy159) ?_)
                      rintro _ _ _ ⟨rfl, rfl⟩
                      refine OpsJ.guard_y rfl rfl rfl rfl (decide_eq_true hc154) ?_
                      refine OpsJ.put rfl (OpJ.pure (OpP.move rfl) ?_)
                      refine OpsJ.guard_y rfl rfl rfl rfl (decide_eq_true hc154) ?_
                      refine OpsJ.put rfl (OpJ.pure (OpP.move rfl) ?_)
                      refine OpsJ.guard_y rfl rfl rfl rfl (decide_eq_true hc154) ?_
                      obtain ⟨y164, hy165, h166⟩ := bind_ok h160
                      clear h160
                      refine OpsJ.put rfl (OpJ.call0 rfl (fun R161 hle162 hin163 => winnowerref14_Same_w R161 A0_ p0_t.length c0_ p0_t (SlR.mono hA0_ (IM.le_trans (IM.le_refl _) hle162)) rfl hc0_ A2_ p2_b.length c2_ p2_b (SlR.mono hA2_ (IM.le_trans (IM.le_refl _) hle162)) rfl hc2_  _ hy165) ?_)
                      rintro _ _ _ ⟨rfl, rfl⟩
                      refine OpsJ.guard_y rfl rfl rfl rfl (decide_eq_true hc154) ?_
                      refine OpsJ.put rfl (OpJ.pure (OpP.eql_bool rfl rfl) ?_)
                      refine OpsJ.put rfl (OpJ.pure (OpP.pick_t rfl (decide_eq_true hc154) rfl) ?_)
                      refine OpsJ.put rfl (OpJ.pure (OpP.move rfl) ?_)
                      by_cases hc167 : (y158 == y164) = true
                      · rw [if_pos hc167] at h166
                        refine OpsJ.guard_y rfl rfl rfl rfl hc167 ?_
                        refine OpsJ.put rfl (OpJ.pure (OpP.move rfl) ?_)
                        refine OpsJ.guard_y rfl rfl rfl rfl hc167 ?_
                        refine OpsJ.put rfl (OpJ.pure (OpP.move rfl) ?_)
                        refine OpsJ.guard_y rfl rfl rfl rfl hc167 ?_
                        obtain ⟨y171, hy172, h173⟩ := bind_ok h166
                        clear h166
                        refine OpsJ.put rfl (OpJ.call0 rfl (fun R168 hle169 hin170 => part_Same_w R168 A0_ p0_t.length c0_ p0_t (SlR.mono hA0_ (IM.le_trans (IM.le_refl _) hle169)) rfl hc0_ A0_ p0_t.length c0_ p0_t (SlR.mono hA0_ (IM.le_trans (IM.le_refl _) hle169)) rfl hc0_  _ hy172) ?_)
                        rintro _ _ _ ⟨rfl, rfl⟩
                        refine OpsJ.put rfl (OpJ.pure (OpP.pick_t rfl hc167 rfl) ?_)
                        refine OpsJ.put rfl (OpJ.pure (OpP.move rfl) ?_)
                        by_cases hc174 : y171 = true
                        · rw [if_pos hc174] at h173
                          refine OpsJ.guard_y rfl rfl rfl rfl hc174 ?_
                          obtain ⟨y178, hy179, h180⟩ := bind_ok h173
                          clear h173
                          refine OpsJ.put rfl (OpJ.call0 rfl (fun R175 hle176 hin177 => winnowerlaw14_known_w R175   _ hy179) ?_)
                          rintro _ _ _ ⟨rfl, rfl⟩
                          refine OpsJ.put rfl (OpJ.pure (OpP.pick_t rfl hc174 rfl) ?_)
                          refine OpsJ.put rfl (OpJ.pure (OpP.assign rfl) ?_)
                          refine OpsJ.nil ?_
                          refine CodeJ.ret' ?_
                          obtain rfl := Option.some.inj h180
                          exact Ret.mk0 ⟨rfl, rfl⟩ (ResJ.one Try.results10 rfl) (IM.le_refl _) (SubL.nil _)
                        · rw [if_neg hc174] at h173
                          refine OpsJ.guard_n rfl rfl rfl rfl (Bool.eq_false_iff.2 hc174) ?_
                          refine OpsJ.put rfl (OpJ.pure (OpP.pick_f rfl (Bool.eq_false_iff.2 hc174) rfl) ?_)
                          refine OpsJ.put rfl (OpJ.pure (OpP.assign rfl) ?_)
                          refine OpsJ.nil ?_
                          refine CodeJ.ret' ?_
                          obtain rfl := Option.some.inj h173
                          exact Ret.mk0 ⟨rfl, rfl⟩ (ResJ.one Try.results10 rfl) (IM.le_refl _) (SubL.nil _)
                      · rw [if_neg hc167] at h166
                        refine OpsJ.guard_n rfl rfl rfl rfl (Bool.eq_false_iff.2 hc167) ?_
                        refine OpsJ.guard_n rfl rfl rfl rfl (Bool.eq_false_iff.2 hc167) ?_
                        refine OpsJ.guard_n rfl rfl rfl rfl (Bool.eq_false_iff.2 hc167) ?_
                        refine OpsJ.put rfl (OpJ.pure (OpP.pick_f rfl (Bool.eq_false_iff.2 hc167) rfl) ?_)
                        refine OpsJ.put rfl (OpJ.pure (OpP.move rfl) ?_)
                        refine OpsJ.guard_n rfl rfl rfl rfl rfl ?_
                        refine OpsJ.put rfl (OpJ.pure (OpP.pick_f rfl rfl rfl) ?_)
                        refine OpsJ.put rfl (OpJ.pure (OpP.assign rfl) ?_)
                        refine OpsJ.nil ?_
                        refine CodeJ.ret' ?_
                        obtain rfl := Option.some.inj h166
                        exact Ret.mk0 ⟨rfl, rfl⟩ (ResJ.one Try.results10 rfl) (IM.le_refl _) (SubL.nil _)
                    · rw [if_neg hc154] at h153
                      refine OpsJ.guard_n rfl rfl rfl rfl (decide_eq_false hc154) ?_
                      refine OpsJ.guard_n rfl rfl rfl rfl (decide_eq_false hc154) ?_
                      refine OpsJ.guard_n rfl rfl rfl rfl (decide_eq_false hc154) ?_
                      refine OpsJ.guard_n rfl rfl rfl rfl (decide_eq_false hc154) ?_
                      refine OpsJ.guard_n rfl rfl rfl rfl (decide_eq_false hc154) ?_
                      refine OpsJ.guard_n rfl rfl rfl rfl (decide_eq_false hc154) ?_
                      refine OpsJ.guard_n rfl rfl rfl rfl (decide_eq_false hc154) ?_
                      refine OpsJ.put rfl (OpJ.pure (OpP.pick_f rfl (decide_eq_false hc154) rfl) ?_)
                      refine OpsJ.put rfl (OpJ.pure (OpP.move rfl) ?_)
                      refine OpsJ.guard_n rfl rfl rfl rfl rfl ?_
                      refine OpsJ.guard_n rfl rfl rfl rfl rfl ?_
                      refine OpsJ.guard_n rfl rfl rfl rfl rfl ?_
                      refine OpsJ.put rfl (OpJ.pure (OpP.pick_f rfl rfl rfl) ?_)
                      refine OpsJ.put rfl (OpJ.pure (OpP.move rfl) ?_)
                      refine OpsJ.guard_n rfl rfl rfl rfl rfl ?_
                      refine OpsJ.put rfl (OpJ.pure (OpP.pick_f rfl rfl rfl) ?_)
                      refine OpsJ.put rfl (OpJ.pure (OpP.assign rfl) ?_)
                      refine OpsJ.nil ?_
                      refine CodeJ.ret' ?_
                      obtain rfl := Option.some.inj h153
                      exact Ret.mk0 ⟨rfl, rfl⟩ (ResJ.one Try.results10 rfl) (IM.le_refl _) (SubL.nil _)
                  · rw [if_neg hc141] at h140
                    refine OpsJ.guard_n rfl rfl rfl rfl (Bool.eq_false_iff.2 hc141) ?_
                    refine OpsJ.guard_n rfl rfl rfl rfl (Bool.eq_false_iff.2 hc141) ?_
                    refine OpsJ.guard_n rfl rfl rfl rfl (Bool.eq_false_iff.2 hc141) ?_
                    refine OpsJ.guard_n rfl rfl rfl rfl (Bool.eq_false_iff.2 hc141) ?_
                    refine OpsJ.guard_n rfl rfl rfl rfl (Bool.eq_false_iff.2 hc141) ?_
                    refine OpsJ.put rfl (OpJ.pure (OpP.pick_f rfl (Bool.eq_false_iff.2 hc141) rfl) ?_)
                    refine OpsJ.put rfl (OpJ.pure (OpP.move rfl) ?_)
                    refine OpsJ.guard_n rfl rfl rfl rfl rfl ?_
                    refine OpsJ.guard_n rfl rfl rfl rfl rfl ?_
                    refine OpsJ.guard_n rfl rfl rfl rfl rfl ?_
                    refine OpsJ.guard_n rfl rfl rfl rfl rfl ?_
                    refine OpsJ.guard_n rfl rfl rfl rfl rfl ?_
                    refine OpsJ.guard_n rfl rfl rfl rfl rfl ?_
                    refine OpsJ.guard_n rfl rfl rfl rfl rfl ?_
                    refine OpsJ.put rfl (OpJ.pure (OpP.pick_f rfl rfl rfl) ?_)
                    refine OpsJ.put rfl (OpJ.pure (OpP.move rfl) ?_)
                    refine OpsJ.guard_n rfl rfl rfl rfl rfl ?_
                    refine OpsJ.guard_n rfl rfl rfl rfl rfl ?_
                    refine OpsJ.guard_n rfl rfl rfl rfl rfl ?_
                    refine OpsJ.put rfl (OpJ.pure (OpP.pick_f rfl rfl rfl) ?_)
                    refine OpsJ.put rfl (OpJ.pure (OpP.move rfl) ?_)
                    refine OpsJ.guard_n rfl rfl rfl rfl rfl ?_
                    refine OpsJ.put rfl (OpJ.pure (OpP.pick_f rfl rfl rfl) ?_)
                    refine OpsJ.put rfl (OpJ.pure (OpP.assign rfl) ?_)
                    refine OpsJ.nil ?_
                    refine CodeJ.ret' ?_
                    obtain rfl := Option.some.inj h140
                    exact Ret.mk0 ⟨rfl, rfl⟩ (ResJ.one Try.results10 rfl) (IM.le_refl _) (SubL.nil _)
                · rw [if_neg hc110] at h109
                  refine OpsJ.guard_n rfl rfl rfl rfl (Bool.eq_false_iff.2 hc110) ?_
                  refine OpsJ.guard_n rfl rfl rfl rfl (Bool.eq_false_iff.2 hc110) ?_
                  refine OpsJ.guard_n rfl rfl rfl rfl (Bool.eq_false_iff.2 hc110) ?_
                  refine OpsJ.guard_n rfl rfl rfl rfl (Bool.eq_false_iff.2 hc110) ?_
                  refine OpsJ.guard_n rfl rfl rfl rfl (Bool.eq_false_iff.2 hc110) ?_
                  refine OpsJ.guard_n rfl rfl rfl rfl (Bool.eq_false_iff.2 hc110) ?_
                  refine OpsJ.guard_n rfl rfl rfl rfl (Bool.eq_false_iff.2 hc110) ?_
                  refine OpsJ.put rfl (OpJ.pure (OpP.pick_f rfl (Bool.eq_false_iff.2 hc110) rfl) ?_)
                  refine OpsJ.put rfl (OpJ.pure (OpP.move rfl) ?_)
                  refine OpsJ.guard_n rfl rfl rfl rfl rfl ?_
                  refine OpsJ.guard_n rfl rfl rfl rfl rfl ?_
                  refine OpsJ.guard_n rfl rfl rfl rfl rfl ?_
                  refine OpsJ.guard_n rfl rfl rfl rfl rfl ?_
                  refine OpsJ.guard_n rfl rfl rfl rfl rfl ?_
                  refine OpsJ.put rfl (OpJ.pure (OpP.pick_f rfl rfl rfl) ?_)
                  refine OpsJ.put rfl (OpJ.pure (OpP.move rfl) ?_)
                  refine OpsJ.guard_n rfl rfl rfl rfl rfl ?_
                  refine OpsJ.guard_n rfl rfl rfl rfl rfl ?_
                  refine OpsJ.guard_n rfl rfl rfl rfl rfl ?_
                  refine OpsJ.guard_n rfl rfl rfl rfl rfl ?_
                  refine OpsJ.guard_n rfl rfl rfl rfl rfl ?_
                  refine OpsJ.guard_n rfl rfl rfl rfl rfl ?_
                  refine OpsJ.guard_n rfl rfl rfl rfl rfl ?_
                  refine OpsJ.put rfl (OpJ.pure (OpP.pick_f rfl rfl rfl) ?_)
                  refine OpsJ.put rfl (OpJ.pure (OpP.move rfl) ?_)
                  refine OpsJ.guard_n rfl rfl rfl rfl rfl ?_
                  refine OpsJ.guard_n rfl rfl rfl rfl rfl ?_
                  refine OpsJ.guard_n rfl rfl rfl rfl rfl ?_
                  refine OpsJ.put rfl (OpJ.pure (OpP.pick_f rfl rfl rfl) ?_)
                  refine OpsJ.put rfl (OpJ.pure (OpP.move rfl) ?_)
                  refine OpsJ.guard_n rfl rfl rfl rfl rfl ?_
                  refine OpsJ.put rfl (OpJ.pure (OpP.pick_f rfl rfl rfl) ?_)
                  refine OpsJ.put rfl (OpJ.pure (OpP.assign rfl) ?_)
                  refine OpsJ.nil ?_
                  refine CodeJ.ret' ?_
                  obtain rfl := Option.some.inj h109
                  exact Ret.mk0 ⟨rfl, rfl⟩ (ResJ.one Try.results10 rfl) (IM.le_refl _) (SubL.nil _)
              · rw [if_neg hc79] at h77
                refine OpsJ.guard_n rfl rfl rfl rfl (Bool.eq_false_iff.2 hc79) ?_
                refine OpsJ.guard_n rfl rfl rfl rfl (Bool.eq_false_iff.2 hc79) ?_
                refine OpsJ.guard_n rfl rfl rfl rfl (Bool.eq_false_iff.2 hc79) ?_
                refine OpsJ.guard_n rfl rfl rfl rfl (Bool.eq_false_iff.2 hc79) ?_
                refine OpsJ.guard_n rfl rfl rfl rfl (Bool.eq_false_iff.2 hc79) ?_
                refine OpsJ.guard_n rfl rfl rfl rfl (Bool.eq_false_iff.2 hc79) ?_
                refine OpsJ.guard_n rfl rfl rfl rfl (Bool.eq_false_iff.2 hc79) ?_
                refine OpsJ.put rfl (OpJ.pure (OpP.pick_f rfl (Bool.eq_false_iff.2 hc79) rfl) ?_)
                refine OpsJ.put rfl (OpJ.pure (OpP.move rfl) ?_)
                refine OpsJ.guard_n rfl rfl rfl rfl rfl ?_
                refine OpsJ.guard_n rfl rfl rfl rfl rfl ?_
                refine OpsJ.guard_n rfl rfl rfl rfl rfl ?_
                refine OpsJ.guard_n rfl rfl rfl rfl rfl ?_
                refine OpsJ.guard_n rfl rfl rfl rfl rfl ?_
                refine OpsJ.guard_n rfl rfl rfl rfl rfl ?_
                refine OpsJ.guard_n rfl rfl rfl rfl rfl ?_
                refine OpsJ.put rfl (OpJ.pure (OpP.pick_f rfl rfl rfl) ?_)
                refine OpsJ.put rfl (OpJ.pure (OpP.move rfl) ?_)
                refine OpsJ.guard_n rfl rfl rfl rfl rfl ?_
                refine OpsJ.guard_n rfl rfl rfl rfl rfl ?_
                refine OpsJ.guard_n rfl rfl rfl rfl rfl ?_
                refine OpsJ.guard_n rfl rfl rfl rfl rfl ?_
                refine OpsJ.guard_n rfl rfl rfl rfl rfl ?_
                refine OpsJ.put rfl (OpJ.pure (OpP.pick_f rfl rfl rfl) ?_)
                refine OpsJ.put rfl (OpJ.pure (OpP.move rfl) ?_)
                refine OpsJ.guard_n rfl rfl rfl rfl rfl ?_
                refine OpsJ.guard_n rfl rfl rfl rfl rfl ?_
                refine OpsJ.guard_n rfl rfl rfl rfl rfl ?_
                refine OpsJ.guard_n rfl rfl rfl rfl rfl ?_
                refine OpsJ.guard_n rfl rfl rfl rfl rfl ?_
                refine OpsJ.guard_n rfl rfl rfl rfl rfl ?_
                refine OpsJ.guard_n rfl rfl rfl rfl rfl ?_
                refine OpsJ.put rfl (OpJ.pure (OpP.pick_f rfl rfl rfl) ?_)
                refine OpsJ.put rfl (OpJ.pure (OpP.move rfl) ?_)
                refine OpsJ.guard_n rfl rfl rfl rfl rfl ?_
                refine OpsJ.guard_n rfl rfl rfl rfl rfl ?_
                refine OpsJ.guard_n rfl rfl rfl rfl rfl ?_
                refine OpsJ.put rfl (OpJ.pure (OpP.pick_f rfl rfl rfl) ?_)
                refine OpsJ.put rfl (OpJ.pure (OpP.move rfl) ?_)
                refine OpsJ.guard_n rfl rfl rfl rfl rfl ?_
                refine OpsJ.put rfl (OpJ.pure (OpP.pick_f rfl rfl rfl) ?_)
                refine OpsJ.put rfl (OpJ.pure (OpP.assign rfl) ?_)
                refine OpsJ.nil ?_
                refine CodeJ.ret' ?_
                obtain rfl := Option.some.inj h77
                exact Ret.mk0 ⟨rfl, rfl⟩ (ResJ.one Try.results10 rfl) (IM.le_refl _) (SubL.nil _)
            · rw [if_neg hc78] at h77
              refine OpsJ.guard_n rfl rfl rfl rfl (decide_eq_false hc78) ?_
              refine OpsJ.guard_n rfl rfl rfl rfl (decide_eq_false hc78) ?_
              refine OpsJ.guard_y rfl rfl rfl rfl (decide_eq_true hc71) ?_
              refine OpsJ.put rfl (OpJ.pure (OpP.pick_f rfl (decide_eq_false hc78) rfl) ?_)
              refine OpsJ.guard_y rfl rfl rfl rfl (decide_eq_true hc71) ?_
              refine OpsJ.put rfl (OpJ.pure (OpP.eql_bool rfl rfl) ?_)
              refine OpsJ.put rfl (OpJ.pure (OpP.pick_t rfl (decide_eq_true hc71) rfl) ?_)
              refine OpsJ.put rfl (OpJ.pure (OpP.move rfl) ?_)
              by_cases hc195 : (y75 == false) = true
              · rw [if_pos hc195] at h77
                refine OpsJ.guard_y rfl rfl rfl rfl hc195 ?_
                refine OpsJ.put rfl (OpJ.pure (OpP.move rfl) ?_)
                refine OpsJ.guard_y rfl rfl rfl rfl hc195 ?_
                refine OpsJ.put rfl (OpJ.pure (OpP.move rfl) ?_)
                refine OpsJ.guard_y rfl rfl rfl rfl hc195 ?_
                obtain ⟨y199, hy200, h201⟩ := bind_ok h77
                clear h77
                refine OpsJ.put rfl (OpJ.callP Split.nil rfl (fun R196 hle197 hin198 => part_Merge_w R196 A0_ p0_t.length c0_ p0_t (SlR.mono hA0_ (IM.le_trans (IM.le_refl _) hle197)) rfl hc0_ A1_ p1_l.length c1_ p1_l (SlR.mono hA1_ (IM.le_trans (IM.le_refl _) hle197)) rfl hc1_  _ hy200) ?_)
                rintro _ _ _ ⟨A202, c203, cs204, rfl, hr205, rfl⟩
                refine OpsJ.guard_y rfl rfl rfl rfl hc195 ?_
                refine OpsJ.put rfl (OpJ.pure (OpP.move rfl) ?_)
                refine OpsJ.guard_y rfl rfl rfl rfl hc195 ?_
                refine OpsJ.put rfl (OpJ.pure (OpP.move rfl) ?_)
                refine OpsJ.guard_y rfl rfl rfl rfl hc195 ?_
                obtain ⟨y210, hy211, h212⟩ := bind_ok h201
                clear h201
                refine OpsJ.put rfl (OpJ.callP Split.nil rfl (fun R207 hle208 hin209 => winnowerref14_Merge_w R207 A0_ p0_t.length c0_ p0_t (SlR.mono hA0_ (IM.le_trans (IM.le_refl _) hle208)) rfl hc0_ A1_ p1_l.length c1_ p1_l (SlR.mono hA1_ (IM.le_trans (IM.le_refl _) hle208)) rfl hc1_  _ hy211) ?_)
                rintro _ _ _ ⟨A213, c214, cs215, rfl, hr216, rfl⟩
                refine OpsJ.guard_y rfl rfl rfl rfl hc195 ?_
                refine OpsJ.rowle (List.Perm.swap _ _ _) (fun hcap218 _ => ?_)
                refine OpsJ.rowle (List.Perm.refl _) (fun hcap219 _ => ?_)
                obtain ⟨y223, hy224, h225⟩ := bind_ok h212
                clear h212
                refine OpsJ.put rfl (OpJ.call0 rfl (fun R220 hle221 hin222 => winnowerref14_Same_w R220 A202 y199.length c203 y199 (SlR.of_row (inRow hin222 (List.Mem.tail _ (List.Mem.head _))) hr205 (IM.le_nil _)) rfl hcap218 A213 y210.length c214 y210 (SlR.of_row (inRow hin222 (List.Mem.head _)) hr216 (IM.le_nil _)) rfl hcap219  _ hy224) ?_)
                rintro _ _ _ ⟨rfl, rfl⟩
                refine OpsJ.put rfl (OpJ.pure (OpP.pick_t rfl hc195 rfl) ?_)
                refine OpsJ.put rfl (OpJ.pure (OpP.move rfl) ?_)
                by_cases hc226 : y223 = true
                · rw [if_pos hc226] at h225
                  refine OpsJ.guard_y rfl rfl rfl rfl hc226 ?_
                  refine OpsJ.put rfl (OpJ.pure (OpP.move rfl) ?_)
                  refine OpsJ.guard_y rfl rfl rfl rfl hc226 ?_
                  refine OpsJ.put rfl (OpJ.pure (OpP.move rfl) ?_)
                  refine OpsJ.guard_y rfl rfl rfl rfl hc226 ?_
                  obtain ⟨y230, hy231, h232⟩ := bind_ok h225
                  clear h225
                  refine OpsJ.put rfl (OpJ.callP Split.nil rfl (fun R227 hle228 hin229 => part_Vars_w R227 A0_ p0_t.length c0_ p0_t (SlR.mono hA0_ (IM.le_trans (IM.le_refl _) hle228)) rfl hc0_ A1_ p1_l.length c1_ p1_l (SlR.mono hA1_ (IM.le_trans (IM.le_refl _) hle228)) rfl hc1_  _ hy231) ?_)
                  rintro _ _ _ ⟨A233, c234, cs235, rfl, hr236, rfl⟩
                  refine OpsJ.guard_y rfl rfl rfl rfl hc226 ?_
                  refine OpsJ.put rfl (OpJ.pure (OpP.move rfl) ?_)
                  refine OpsJ.guard_y rfl rfl rfl rfl hc226 ?_
                  refine OpsJ.put rfl (OpJ.pure (OpP.move rfl) ?_)
                  refine OpsJ.guard_y rfl rfl rfl rfl hc226 ?_
                  obtain ⟨y241, hy242, h243⟩ := bind_ok h232
                  clear h232
                  refine OpsJ.put rfl (OpJ.callP Split.nil rfl (fun R238 hle239 hin240 => winnowerref14_Vars_w R238 A0_ p0_t.length c0_ p0_t (SlR.mono hA0_ (IM.le_trans (IM.le_refl _) hle239)) rfl hc0_ A1_ p1_l.length c1_ p1_l (SlR.mono hA1_ (IM.le_trans (IM.le_refl _) hle239)) rfl hc1_  _ hy242) ?_)
                  rintro _ _ _ ⟨A244, c245, cs246, rfl, hr247, rfl⟩
                  refine OpsJ.guard_y rfl rfl rfl rfl hc226 ?_
                  refine OpsJ.rowle (List.Perm.swap _ _ _) (fun hcap249 _ => ?_)
                  refine OpsJ.rowle (List.Perm.refl _) (fun hcap250 _ => ?_)
                  obtain ⟨y254, hy255, h256⟩ := bind_ok h243
                  clear h243
                  refine OpsJ.put rfl (OpJ.call0 rfl (fun R251 hle252 hin253 => winnowerlaw14_texts_w R251 A233 y230.length c234 y230 (SlR.of_row (inRow hin253 (List.Mem.tail _ (List.Mem.head _))) hr236 (IM.le_nil _)) rfl hcap249 A244 y241.length c245 y241 (SlR.of_row (inRow hin253 (List.Mem.head _)) hr247 (IM.le_nil _)) rfl hcap250  _ hy255) ?_)
                  rintro _ _ _ ⟨rfl, rfl⟩
                  refine OpsJ.put rfl (OpJ.pure (OpP.pick_t rfl hc226 rfl) ?_)
                  refine OpsJ.put rfl (OpJ.pure (OpP.move rfl) ?_)
                  by_cases hc257 : y254 = true
                  · rw [if_pos hc257] at h256
                    refine OpsJ.guard_y rfl rfl rfl rfl hc257 ?_
                    refine OpsJ.put rfl (OpJ.pure (OpP.move rfl) ?_)
                    refine OpsJ.guard_y rfl rfl rfl rfl hc257 ?_
                    obtain ⟨y261, hy262, h263⟩ := bind_ok h256
                    clear h256
                    refine OpsJ.put rfl (OpJ.call0 rfl (fun R258 hle259 hin260 => part_Wild_w R258 A0_ p0_t.length c0_ p0_t (SlR.mono hA0_ (IM.le_trans (IM.le_refl _) hle259)) rfl hc0_  _ hy262) ?_)
                    rintro _ _ _ ⟨rfl, rfl⟩
                    refine OpsJ.guard_y rfl rfl rfl rfl hc257 ?_
                    refine OpsJ.put rfl (OpJ.pure (OpP.move rfl) ?_)
                    refine OpsJ.guard_y rfl rfl rfl rfl hc257 ?_
                    obtain ⟨y267, hy268, h269⟩ := bind_ok h263
                    clear h263
                    refine OpsJ.put rfl (OpJ.call0 rfl (fun R264 hle265 hin266 => winnowerref14_Wild_w R264 A0_ p0_t.length c0_ p0_t (SlR.mono hA0_ (IM.le_trans (IM.le_refl _) hle265)) rfl hc0_  _ hy268) ?_)
                    rintro _ _ _ ⟨rfl, rfl⟩
                    refine OpsJ.guard_y rfl rfl rfl rfl hc257 ?_
                    refine OpsJ.put rfl (OpJ.pure (OpP.eql rfl rfl) ?_)
                    refine OpsJ.put rfl (OpJ.pure (OpP.pick_t rfl hc257 rfl) ?_)
                    refine OpsJ.put rfl (OpJ.pure (OpP.move rfl) ?_)
                    by_cases hc270 : y261 = y267
                    · rw [if_pos hc270] at h269
                      refine OpsJ.guard_y rfl rfl rfl rfl (decide_eq_true hc270) ?_
                      refine OpsJ.put rfl (OpJ.pure (OpP.move rfl) ?_)
                      refine OpsJ.guard_y rfl rfl rfl rfl (decide_eq_true hc270) ?_
                      refine OpsJ.put rfl (OpJ.pure (OpP.move rfl) ?_)
                      refine OpsJ.guard_y rfl rfl rfl rfl (decide_eq_true hc270) ?_
                      obtain ⟨y274, hy275, h276⟩ := bind_ok h269
                      clear h269
                      refine OpsJ.put rfl (OpJ.call0 rfl (fun R271 hle272 hin273 => part_Same_w R271 A0_ p0_t.length c0_ p0_t (SlR.mono hA0_ (IM.le_trans (IM.le_refl _) hle272)) rfl hc0_ A2_ p2_b.length c2_ p2_b (SlR.mono hA2_ (IM.le_trans (IM.le_refl _) hle272)) rfl hc2_  _ hy275) ?_)
                      rintro _ _ _ ⟨rfl, rfl⟩
                      refine OpsJ.guard_y rfl rfl rfl rfl (decide_eq_true hc270) ?_
                      refine OpsJ.put rfl (OpJ.pure (OpP.move rfl) ?_)
                      refine OpsJ.guard_y rfl rfl rfl rfl (decide_eq_true hc270) ?_
                      refine OpsJ.put rfl (OpJ.pure (OpP.move rfl) ?_)
                      refine OpsJ.guard_y rfl rfl rfl rfl (decide_eq_true hc270) ?_
                      obtain ⟨y280, hy281, h282⟩ := bind_ok h276
                      clear h276
                      refine OpsJ.put rfl (OpJ.call0 rfl (fun R277 hle278 hin279 => winnowerref14_Same_w R277 A0_ p0_t.length c0_ p0_t (SlR.mono hA0_ (IM.le_trans (IM.le_refl _) hle278)) rfl hc0_ A2_ p2_b.length c2_ p2_b (SlR.mono hA2_ (IM.le_trans (IM.le_refl _) hle278)) rfl hc2_  _ hy281) ?_)
                      rintro _ _ _ ⟨rfl, rfl⟩
                      refine OpsJ.guard_y rfl rfl rfl rfl (decide_eq_true hc270) ?_
                      refine OpsJ.put rfl (OpJ.pure (OpP.eql_bool rfl rfl) ?_)
                      refine OpsJ.put rfl (OpJ.pure (OpP.pick_t rfl (decide_eq_true hc270) rfl) ?_)
                      refine OpsJ.put rfl (OpJ.pure (OpP.move rfl) ?_)
                      by_cases hc283 : (y274 == y280) = true
                      · rw [if_pos hc283] at h282
                        refine OpsJ.guard_y rfl rfl rfl rfl hc283 ?_
                        refine OpsJ.put rfl (OpJ.pure (OpP.move rfl) ?_)
                        refine OpsJ.guard_y rfl rfl rfl rfl hc283 ?_
                        refine OpsJ.put rfl (OpJ.pure (OpP.move rfl) ?_)
                        refine OpsJ.guard_y rfl rfl rfl rfl hc283 ?_
                        obtain ⟨y287, hy288, h289⟩ := bind_ok h282
                        clear h282
                        refine OpsJ.put rfl (OpJ.call0 rfl (fun R284 hle285 hin286 => part_Same_w R284 A0_ p0_t.length c0_ p0_t (SlR.mono hA0_ (IM.le_trans (IM.le_refl _) hle285)) rfl hc0_ A0_ p0_t.length c0_ p0_t (SlR.mono hA0_ (IM.le_trans (IM.le_refl _) hle285)) rfl hc0_  _ hy288) ?_)
                        rintro _ _ _ ⟨rfl, rfl⟩
                        refine OpsJ.put rfl (OpJ.pure (OpP.pick_t rfl hc283 rfl) ?_)
                        refine OpsJ.put rfl (OpJ.pure (OpP.move rfl) ?_)
                        by_cases hc290 : y287 = true
                        · rw [if_pos hc290] at h289
                          refine OpsJ.guard_y rfl rfl rfl rfl hc290 ?_
                          obtain ⟨y294, hy295, h296⟩ := bind_ok h289
                          clear h289
                          refine OpsJ.put rfl (OpJ.call0 rfl (fun R291 hle292 hin293 => winnowerlaw14_known_w R291   _ hy295) ?_)
                          rintro _ _ _ ⟨rfl, rfl⟩
                          refine OpsJ.put rfl (OpJ.pure (OpP.pick_t rfl hc290 rfl) ?_)
                          refine OpsJ.put rfl (OpJ.pure (OpP.assign rfl) ?_)
                          refine OpsJ.nil ?_
                          refine CodeJ.ret' ?_
                          obtain rfl := Option.some.inj h296
                          exact Ret.mk0 ⟨rfl, rfl⟩ (ResJ.one Try.results10 rfl) (IM.le_refl _) (SubL.nil _)
                        · rw [if_neg hc290] at h289
                          refine OpsJ.guard_n rfl rfl rfl rfl (Bool.eq_false_iff.2 hc290) ?_
                          refine OpsJ.put rfl (OpJ.pure (OpP.pick_f rfl (Bool.eq_false_iff.2 hc290) rfl) ?_)
                          refine OpsJ.put rfl (OpJ.pure (OpP.assign rfl) ?_)
                          refine OpsJ.nil ?_
                          refine CodeJ.ret' ?_
                          obtain rfl := Option.some.inj h289
                          exact Ret.mk0 ⟨rfl, rfl⟩ (ResJ.one Try.results10 rfl) (IM.le_refl _) (SubL.nil _)
                      · rw [if_neg hc283] at h282
                        refine OpsJ.guard_n rfl rfl rfl rfl (Bool.eq_false_iff.2 hc283) ?_
                        refine OpsJ.guard_n rfl rfl rfl rfl (Bool.eq_false_iff.2 hc283) ?_
                        refine OpsJ.guard_n rfl rfl rfl rfl (Bool.eq_false_iff.2 hc283) ?_
                        refine OpsJ.put rfl (OpJ.pure (OpP.pick_f rfl (Bool.eq_false_iff.2 hc283) rfl) ?_)
                        refine OpsJ.put rfl (OpJ.pure (OpP.move rfl) ?_)
                        refine OpsJ.guard_n rfl rfl rfl rfl rfl ?_
                        refine OpsJ.put rfl (OpJ.pure (OpP.pick_f rfl rfl rfl) ?_)
                        refine OpsJ.put rfl (OpJ.pure (OpP.assign rfl) ?_)
                        refine OpsJ.nil ?_
                        refine CodeJ.ret' ?_
                        obtain rfl := Option.some.inj h282
                        exact Ret.mk0 ⟨rfl, rfl⟩ (ResJ.one Try.results10 rfl) (IM.le_refl _) (SubL.nil _)
                    · rw [if_neg hc270] at h269
                      refine OpsJ.guard_n rfl rfl rfl rfl (decide_eq_false hc270) ?_
                      refine OpsJ.guard_n rfl rfl rfl rfl (decide_eq_false hc270) ?_
                      refine OpsJ.guard_n rfl rfl rfl rfl (decide_eq_false hc270) ?_
                      refine OpsJ.guard_n rfl rfl rfl rfl (decide_eq_false hc270) ?_
                      refine OpsJ.guard_n rfl rfl rfl rfl (decide_eq_false hc270) ?_
                      refine OpsJ.guard_n rfl rfl rfl rfl (decide_eq_false hc270) ?_
                      refine OpsJ.guard_n rfl rfl rfl rfl (decide_eq_false hc270) ?_
                      refine OpsJ.put rfl (OpJ.pure (OpP.pick_f rfl (decide_eq_false hc270) rfl) ?_)
                      refine OpsJ.put rfl (OpJ.pure (OpP.move rfl) ?_)
                      refine OpsJ.guard_n rfl rfl rfl rfl rfl ?_
                      refine OpsJ.guard_n rfl rfl rfl rfl rfl ?_
                      refine OpsJ.guard_n rfl rfl rfl rfl rfl ?_
                      refine OpsJ.put rfl (OpJ.pure (OpP.pick_f rfl rfl rfl) ?_)
                      refine OpsJ.put rfl (OpJ.pure (OpP.move rfl) ?_)
                      refine OpsJ.guard_n rfl rfl rfl rfl rfl ?_
                      refine OpsJ.put rfl (OpJ.pure (OpP.pick_f rfl rfl rfl) ?_)
                      refine OpsJ.put rfl (OpJ.pure (OpP.assign rfl) ?_)
                      refine OpsJ.nil ?_
                      refine CodeJ.ret' ?_
                      obtain rfl := Option.some.inj h269
                      exact Ret.mk0 ⟨rfl, rfl⟩ (ResJ.one Try.results10 rfl) (IM.le_refl _) (SubL.nil _)
                  · rw [if_neg hc257] at h256
                    refine OpsJ.guard_n rfl rfl rfl rfl (Bool.eq_false_iff.2 hc257) ?_
                    refine OpsJ.guard_n rfl rfl rfl rfl (Bool.eq_false_iff.2 hc257) ?_
                    refine OpsJ.guard_n rfl rfl rfl rfl (Bool.eq_false_iff.2 hc257) ?_
                    refine OpsJ.guard_n rfl rfl rfl rfl (Bool.eq_false_iff.2 hc257) ?_
                    refine OpsJ.guard_n rfl rfl rfl rfl (Bool.eq_false_iff.2 hc257) ?_
                    refine OpsJ.put rfl (OpJ.pure (OpP.pick_f rfl (Bool.eq_false_iff.2 hc257) rfl) ?_)
                    refine OpsJ.put rfl (OpJ.pure (OpP.move rfl) ?_)
                    refine OpsJ.guard_n rfl rfl rfl rfl rfl ?_
                    refine OpsJ.guard_n rfl rfl rfl rfl rfl ?_
                    refine OpsJ.guard_n rfl rfl rfl rfl rfl ?_
                    refine OpsJ.guard_n rfl rfl rfl rfl rfl ?_
                    refine OpsJ.guard_n rfl rfl rfl rfl rfl ?_
                    refine OpsJ.guard_n rfl rfl rfl rfl rfl ?_
                    refine OpsJ.guard_n rfl rfl rfl rfl rfl ?_
                    refine OpsJ.put rfl (OpJ.pure (OpP.pick_f rfl rfl rfl) ?_)
                    refine OpsJ.put rfl (OpJ.pure (OpP.move rfl) ?_)
                    refine OpsJ.guard_n rfl rfl rfl rfl rfl ?_
                    refine OpsJ.guard_n rfl rfl rfl rfl rfl ?_
                    refine OpsJ.guard_n rfl rfl rfl rfl rfl ?_
                    refine OpsJ.put rfl (OpJ.pure (OpP.pick_f rfl rfl rfl) ?_)
                    refine OpsJ.put rfl (OpJ.pure (OpP.move rfl) ?_)
                    refine OpsJ.guard_n rfl rfl rfl rfl rfl ?_
                    refine OpsJ.put rfl (OpJ.pure (OpP.pick_f rfl rfl rfl) ?_)
                    refine OpsJ.put rfl (OpJ.pure (OpP.assign rfl) ?_)
                    refine OpsJ.nil ?_
                    refine CodeJ.ret' ?_
                    obtain rfl := Option.some.inj h256
                    exact Ret.mk0 ⟨rfl, rfl⟩ (ResJ.one Try.results10 rfl) (IM.le_refl _) (SubL.nil _)
                · rw [if_neg hc226] at h225
                  refine OpsJ.guard_n rfl rfl rfl rfl (Bool.eq_false_iff.2 hc226) ?_
                  refine OpsJ.guard_n rfl rfl rfl rfl (Bool.eq_false_iff.2 hc226) ?_
                  refine OpsJ.guard_n rfl rfl rfl rfl (Bool.eq_false_iff.2 hc226) ?_
                  refine OpsJ.guard_n rfl rfl rfl rfl (Bool.eq_false_iff.2 hc226) ?_
                  refine OpsJ.guard_n rfl rfl rfl rfl (Bool.eq_false_iff.2 hc226) ?_
                  refine OpsJ.guard_n rfl rfl rfl rfl (Bool.eq_false_iff.2 hc226) ?_
                  refine OpsJ.guard_n rfl rfl rfl rfl (Bool.eq_false_iff.2 hc226) ?_
                  refine OpsJ.put rfl (OpJ.pure (OpP.pick_f rfl (Bool.eq_false_iff.2 hc226) rfl) ?_)
                  refine OpsJ.put rfl (OpJ.pure (OpP.move rfl) ?_)
                  refine OpsJ.guard_n rfl rfl rfl rfl rfl ?_
                  refine OpsJ.guard_n rfl rfl rfl rfl rfl ?_
                  refine OpsJ.guard_n rfl rfl rfl rfl rfl ?_
                  refine OpsJ.guard_n rfl rfl rfl rfl rfl ?_
                  refine OpsJ.guard_n rfl rfl rfl rfl rfl ?_
                  refine OpsJ.put rfl (OpJ.pure (OpP.pick_f rfl rfl rfl) ?_)
                  refine OpsJ.put rfl (OpJ.pure (OpP.move rfl) ?_)
                  refine OpsJ.guard_n rfl rfl rfl rfl rfl ?_
                  refine OpsJ.guard_n rfl rfl rfl rfl rfl ?_
                  refine OpsJ.guard_n rfl rfl rfl rfl rfl ?_
                  refine OpsJ.guard_n rfl rfl rfl rfl rfl ?_
                  refine OpsJ.guard_n rfl rfl rfl rfl rfl ?_
                  refine OpsJ.guard_n rfl rfl rfl rfl rfl ?_
                  refine OpsJ.guard_n rfl rfl rfl rfl rfl ?_
                  refine OpsJ.put rfl (OpJ.pure (OpP.pick_f rfl rfl rfl) ?_)
                  refine OpsJ.put rfl (OpJ.pure (OpP.move rfl) ?_)
                  refine OpsJ.guard_n rfl rfl rfl rfl rfl ?_
                  refine OpsJ.guard_n rfl rfl rfl rfl rfl ?_
                  refine OpsJ.guard_n rfl rfl rfl rfl rfl ?_
                  refine OpsJ.put rfl (OpJ.pure (OpP.pick_f rfl rfl rfl) ?_)
                  refine OpsJ.put rfl (OpJ.pure (OpP.move rfl) ?_)
                  refine OpsJ.guard_n rfl rfl rfl rfl rfl ?_
                  refine OpsJ.put rfl (OpJ.pure (OpP.pick_f rfl rfl rfl) ?_)
                  refine OpsJ.put rfl (OpJ.pure (OpP.assign rfl) ?_)
                  refine OpsJ.nil ?_
                  refine CodeJ.ret' ?_
                  obtain rfl := Option.some.inj h225
                  exact Ret.mk0 ⟨rfl, rfl⟩ (ResJ.one Try.results10 rfl) (IM.le_refl _) (SubL.nil _)
              · rw [if_neg hc195] at h77
                refine OpsJ.guard_n rfl rfl rfl rfl (Bool.eq_false_iff.2 hc195) ?_
                refine OpsJ.guard_n rfl rfl rfl rfl (Bool.eq_false_iff.2 hc195) ?_
                refine OpsJ.guard_n rfl rfl rfl rfl (Bool.eq_false_iff.2 hc195) ?_
                refine OpsJ.guard_n rfl rfl rfl rfl (Bool.eq_false_iff.2 hc195) ?_
                refine OpsJ.guard_n rfl rfl rfl rfl (Bool.eq_false_iff.2 hc195) ?_
                refine OpsJ.guard_n rfl rfl rfl rfl (Bool.eq_false_iff.2 hc195) ?_
                refine OpsJ.guard_n rfl rfl rfl rfl (Bool.eq_false_iff.2 hc195) ?_
                refine OpsJ.put rfl (OpJ.pure (OpP.pick_f rfl (Bool.eq_false_iff.2 hc195) rfl) ?_)
                refine OpsJ.put rfl (OpJ.pure (OpP.move rfl) ?_)
                refine OpsJ.guard_n rfl rfl rfl rfl rfl ?_
                refine OpsJ.guard_n rfl rfl rfl rfl rfl ?_
                refine OpsJ.guard_n rfl rfl rfl rfl rfl ?_
                refine OpsJ.guard_n rfl rfl rfl rfl rfl ?_
                refine OpsJ.guard_n rfl rfl rfl rfl rfl ?_
                refine OpsJ.guard_n rfl rfl rfl rfl rfl ?_
                refine OpsJ.guard_n rfl rfl rfl rfl rfl ?_
                refine OpsJ.put rfl (OpJ.pure (OpP.pick_f rfl rfl rfl) ?_)
                refine OpsJ.put rfl (OpJ.pure (OpP.move rfl) ?_)
                refine OpsJ.guard_n rfl rfl rfl rfl rfl ?_
                refine OpsJ.guard_n rfl rfl rfl rfl rfl ?_
                refine OpsJ.guard_n rfl rfl rfl rfl rfl ?_
                refine OpsJ.guard_n rfl rfl rfl rfl rfl ?_
                refine OpsJ.guard_n rfl rfl rfl rfl rfl ?_
                refine OpsJ.put rfl (OpJ.pure (OpP.pick_f rfl rfl rfl) ?_)
                refine OpsJ.put rfl (OpJ.pure (OpP.move rfl) ?_)
                refine OpsJ.guard_n rfl rfl rfl rfl rfl ?_
                refine OpsJ.guard_n rfl rfl rfl rfl rfl ?_
                refine OpsJ.guard_n rfl rfl rfl rfl rfl ?_
                refine OpsJ.guard_n rfl rfl rfl rfl rfl ?_
                refine OpsJ.guard_n rfl rfl rfl rfl rfl ?_
                refine OpsJ.guard_n rfl rfl rfl rfl rfl ?_
                refine OpsJ.guard_n rfl rfl rfl rfl rfl ?_
                refine OpsJ.put rfl (OpJ.pure (OpP.pick_f rfl rfl rfl) ?_)
                refine OpsJ.put rfl (OpJ.pure (OpP.move rfl) ?_)
                refine OpsJ.guard_n rfl rfl rfl rfl rfl ?_
                refine OpsJ.guard_n rfl rfl rfl rfl rfl ?_
                refine OpsJ.guard_n rfl rfl rfl rfl rfl ?_
                refine OpsJ.put rfl (OpJ.pure (OpP.pick_f rfl rfl rfl) ?_)
                refine OpsJ.put rfl (OpJ.pure (OpP.move rfl) ?_)
                refine OpsJ.guard_n rfl rfl rfl rfl rfl ?_
                refine OpsJ.put rfl (OpJ.pure (OpP.pick_f rfl rfl rfl) ?_)
                refine OpsJ.put rfl (OpJ.pure (OpP.assign rfl) ?_)
                refine OpsJ.nil ?_
                refine CodeJ.ret' ?_
                obtain rfl := Option.some.inj h77
                exact Ret.mk0 ⟨rfl, rfl⟩ (ResJ.one Try.results10 rfl) (IM.le_refl _) (SubL.nil _)
          · rw [if_neg hc71] at h70
            refine OpsJ.guard_n rfl rfl rfl rfl (decide_eq_false hc71) ?_
            refine OpsJ.guard_n rfl rfl rfl rfl (decide_eq_false hc71) ?_
            refine OpsJ.guard_n rfl rfl rfl rfl (decide_eq_false hc71) ?_
            refine OpsJ.guard_n rfl rfl rfl rfl (decide_eq_false hc71) ?_
            refine OpsJ.guard_n rfl rfl rfl rfl (decide_eq_false hc71) ?_
            refine OpsJ.guard_n rfl rfl rfl rfl (decide_eq_false hc71) ?_
            refine OpsJ.guard_n rfl rfl rfl rfl (decide_eq_false hc71) ?_
            refine OpsJ.guard_n rfl rfl rfl rfl (decide_eq_false hc71) ?_
            refine OpsJ.gund rfl rfl rfl rfl ?_
            refine OpsJ.gund rfl rfl rfl rfl ?_
            refine OpsJ.guard_n rfl rfl rfl rfl (decide_eq_false hc71) ?_
            refine OpsJ.guard_n rfl rfl rfl rfl (decide_eq_false hc71) ?_
            refine OpsJ.put rfl (OpJ.pure (OpP.pick_f rfl (decide_eq_false hc71) rfl) ?_)
            refine OpsJ.put rfl (OpJ.pure (OpP.move rfl) ?_)
            refine OpsJ.guard_n rfl rfl rfl rfl rfl ?_
            refine OpsJ.guard_n rfl rfl rfl rfl rfl ?_
            refine OpsJ.guard_n rfl rfl rfl rfl rfl ?_
            refine OpsJ.guard_n rfl rfl rfl rfl rfl ?_
            refine OpsJ.guard_n rfl rfl rfl rfl rfl ?_
            refine OpsJ.guard_n rfl rfl rfl rfl rfl ?_
            refine OpsJ.guard_n rfl rfl rfl rfl rfl ?_
            refine OpsJ.put rfl (OpJ.pure (OpP.pick_f rfl rfl rfl) ?_)
            refine OpsJ.put rfl (OpJ.pure (OpP.move rfl) ?_)
            refine OpsJ.guard_n rfl rfl rfl rfl rfl ?_
            refine OpsJ.guard_n rfl rfl rfl rfl rfl ?_
            refine OpsJ.guard_n rfl rfl rfl rfl rfl ?_
            refine OpsJ.guard_n rfl rfl rfl rfl rfl ?_
            refine OpsJ.guard_n rfl rfl rfl rfl rfl ?_
            refine OpsJ.guard_n rfl rfl rfl rfl rfl ?_
            refine OpsJ.guard_n rfl rfl rfl rfl rfl ?_
            refine OpsJ.put rfl (OpJ.pure (OpP.pick_f rfl rfl rfl) ?_)
            refine OpsJ.put rfl (OpJ.pure (OpP.move rfl) ?_)
            refine OpsJ.guard_n rfl rfl rfl rfl rfl ?_
            refine OpsJ.guard_n rfl rfl rfl rfl rfl ?_
            refine OpsJ.guard_n rfl rfl rfl rfl rfl ?_
            refine OpsJ.guard_n rfl rfl rfl rfl rfl ?_
            refine OpsJ.guard_n rfl rfl rfl rfl rfl ?_
            refine OpsJ.put rfl (OpJ.pure (OpP.pick_f rfl rfl rfl) ?_)
            refine OpsJ.put rfl (OpJ.pure (OpP.move rfl) ?_)
            refine OpsJ.guard_n rfl rfl rfl rfl rfl ?_
            refine OpsJ.guard_n rfl rfl rfl rfl rfl ?_
            refine OpsJ.guard_n rfl rfl rfl rfl rfl ?_
            refine OpsJ.guard_n rfl rfl rfl rfl rfl ?_
            refine OpsJ.guard_n rfl rfl rfl rfl rfl ?_
            refine OpsJ.guard_n rfl rfl rfl rfl rfl ?_
            refine OpsJ.guard_n rfl rfl rfl rfl rfl ?_
            refine OpsJ.put rfl (OpJ.pure (OpP.pick_f rfl rfl rfl) ?_)
            refine OpsJ.put rfl (OpJ.pure (OpP.move rfl) ?_)
            refine OpsJ.guard_n rfl rfl rfl rfl rfl ?_
            refine OpsJ.guard_n rfl rfl rfl rfl rfl ?_
            refine OpsJ.guard_n rfl rfl rfl rfl rfl ?_
            refine OpsJ.put rfl (OpJ.pure (OpP.pick_f rfl rfl rfl) ?_)
            refine OpsJ.put rfl (OpJ.pure (OpP.move rfl) ?_)
            refine OpsJ.guard_n rfl rfl rfl rfl rfl ?_
            refine OpsJ.put rfl (OpJ.pure (OpP.pick_f rfl rfl rfl) ?_)
            refine OpsJ.put rfl (OpJ.pure (OpP.assign rfl) ?_)
            refine OpsJ.nil ?_
            refine CodeJ.ret' ?_
            obtain rfl := Option.some.inj h70
            exact Ret.mk0 ⟨rfl, rfl⟩ (ResJ.one Try.results10 rfl) (IM.le_refl _) (SubL.nil _)
        · rw [if_neg hc64] at h63
          refine OpsJ.guard_n rfl rfl rfl rfl (Bool.eq_false_iff.2 hc64) ?_
          refine OpsJ.guard_n rfl rfl rfl rfl (Bool.eq_false_iff.2 hc64) ?_
          refine OpsJ.guard_n rfl rfl rfl rfl (Bool.eq_false_iff.2 hc64) ?_
          refine OpsJ.guard_n rfl rfl rfl rfl (Bool.eq_false_iff.2 hc64) ?_
          refine OpsJ.guard_n rfl rfl rfl rfl (Bool.eq_false_iff.2 hc64) ?_
          refine OpsJ.put rfl (OpJ.pure (OpP.pick_f rfl (Bool.eq_false_iff.2 hc64) rfl) ?_)
          refine OpsJ.put rfl (OpJ.pure (OpP.move rfl) ?_)
          refine OpsJ.guard_n rfl rfl rfl rfl rfl ?_
          refine OpsJ.guard_n rfl rfl rfl rfl rfl ?_
          refine OpsJ.guard_n rfl rfl rfl rfl rfl ?_
          refine OpsJ.guard_n rfl rfl rfl rfl rfl ?_
          refine OpsJ.guard_n rfl rfl rfl rfl rfl ?_
          refine OpsJ.guard_n rfl rfl rfl rfl rfl ?_
          refine OpsJ.guard_n rfl rfl rfl rfl rfl ?_
          refine OpsJ.guard_n rfl rfl rfl rfl rfl ?_
          refine OpsJ.gund rfl rfl rfl rfl ?_
          refine OpsJ.gund rfl rfl rfl rfl ?_
          refine OpsJ.guard_n rfl rfl rfl rfl rfl ?_
          refine OpsJ.guard_n rfl rfl rfl rfl rfl ?_
          refine OpsJ.put rfl (OpJ.pure (OpP.pick_f rfl rfl rfl) ?_)
          refine OpsJ.put rfl (OpJ.pure (OpP.move rfl) ?_)
          refine OpsJ.guard_n rfl rfl rfl rfl rfl ?_
          refine OpsJ.guard_n rfl rfl rfl rfl rfl ?_
          refine OpsJ.guard_n rfl rfl rfl rfl rfl ?_
          refine OpsJ.guard_n rfl rfl rfl rfl rfl ?_
          refine OpsJ.guard_n rfl rfl rfl rfl rfl ?_
          refine OpsJ.guard_n rfl rfl rfl rfl rfl ?_
          refine OpsJ.guard_n rfl rfl rfl rfl rfl ?_
          refine OpsJ.put rfl (OpJ.pure (OpP.pick_f rfl rfl rfl) ?_)
          refine OpsJ.put rfl (OpJ.pure (OpP.move rfl) ?_)
          refine OpsJ.guard_n rfl rfl rfl rfl rfl ?_
          refine OpsJ.guard_n rfl rfl rfl rfl rfl ?_
          refine OpsJ.guard_n rfl rfl rfl rfl rfl ?_
          refine OpsJ.guard_n rfl rfl rfl rfl rfl ?_
          refine OpsJ.guard_n rfl rfl rfl rfl rfl ?_
          refine OpsJ.guard_n rfl rfl rfl rfl rfl ?_
          refine OpsJ.guard_n rfl rfl rfl rfl rfl ?_
          refine OpsJ.put rfl (OpJ.pure (OpP.pick_f rfl rfl rfl) ?_)
          refine OpsJ.put rfl (OpJ.pure (OpP.move rfl) ?_)
          refine OpsJ.guard_n rfl rfl rfl rfl rfl ?_
          refine OpsJ.guard_n rfl rfl rfl rfl rfl ?_
          refine OpsJ.guard_n rfl rfl rfl rfl rfl ?_
          refine OpsJ.guard_n rfl rfl rfl rfl rfl ?_
          refine OpsJ.guard_n rfl rfl rfl rfl rfl ?_
          refine OpsJ.put rfl (OpJ.pure (OpP.pick_f rfl rfl rfl) ?_)
          refine OpsJ.put rfl (OpJ.pure (OpP.move rfl) ?_)
          refine OpsJ.guard_n rfl rfl rfl rfl rfl ?_
          refine OpsJ.guard_n rfl rfl rfl rfl rfl ?_
          refine OpsJ.guard_n rfl rfl rfl rfl rfl ?_
          refine OpsJ.guard_n rfl rfl rfl rfl rfl ?_
          refine OpsJ.guard_n rfl rfl rfl rfl rfl ?_
          refine OpsJ.guard_n rfl rfl rfl rfl rfl ?_
          refine OpsJ.guard_n rfl rfl rfl rfl rfl ?_
          refine OpsJ.put rfl (OpJ.pure (OpP.pick_f rfl rfl rfl) ?_)
          refine OpsJ.put rfl (OpJ.pure (OpP.move rfl) ?_)
          refine OpsJ.guard_n rfl rfl rfl rfl rfl ?_
          refine OpsJ.guard_n rfl rfl rfl rfl rfl ?_
          refine OpsJ.guard_n rfl rfl rfl rfl rfl ?_
          refine OpsJ.put rfl (OpJ.pure (OpP.pick_f rfl rfl rfl) ?_)
          refine OpsJ.put rfl (OpJ.pure (OpP.move rfl) ?_)
          refine OpsJ.guard_n rfl rfl rfl rfl rfl ?_
          refine OpsJ.put rfl (OpJ.pure (OpP.pick_f rfl rfl rfl) ?_)
          refine OpsJ.put rfl (OpJ.pure (OpP.assign rfl) ?_)
          refine OpsJ.nil ?_
          refine CodeJ.ret' ?_
          obtain rfl := Option.some.inj h63
          exact Ret.mk0 ⟨rfl, rfl⟩ (ResJ.one Try.results10 rfl) (IM.le_refl _) (SubL.nil _)
theorem winnowerlaw14_PartBack_w (R : IM) (A0_ : Option Addr) (n0_ c0_ : Nat) (p0_t : List (Bool × ByteArray)) (hA0_ : SlR R A0_ p0_t) (hn0_ : p0_t.length = n0_) (hc0_ : n0_ ≤ c0_) (A1_ : Option Addr) (n1_ c1_ : Nat) (p1_l : List (Int × ByteArray)) (hA1_ : SlR R A1_ p1_l) (hn1_ : p1_l.length = n1_) (hc1_ : n1_ ≤ c1_) (y : Bool) (h : winnowerlaw14_PartBack p0_t p1_l = some y) :
    CallJ Try.prog 11 #[.slice A0_ n0_ c0_, .slice A1_ n1_ c1_] ⟨R, []⟩ (fun v D hs' => v = .bool y ∧ hs' = []) := by
  subst hn0_
  subst hn1_
  unfold winnowerlaw14_PartBack at h
  refine CallJ.of2 Try.func11 rfl Try.ntmps11 rfl (fun W0 => ?_)
  refine CodeJ.seq' ?_
  refine CodeJ.region ?_
  refine OpsJ.put rfl (OpJ.pure (OpP.assign rfl) ?_)
  refine OpsJ.nil ?_
  refine CodeJ.seq' ?_
  refine CodeJ.seq' ?_
  refine CodeJ.region ?_
  refine OpsJ.put rfl (OpJ.pure (OpP.move rfl) ?_)
  obtain ⟨y4, hy5, h6⟩ := bind_ok h
  clear h
  refine OpsJ.put rfl (OpJ.call0 rfl (fun R1 hle2 hin3 => winnowerlaw14_wide_w R1 A0_ p0_t.length c0_ p0_t (SlR.mono hA0_ (IM.le_trans (IM.le_refl _) hle2)) rfl hc0_  _ hy5) ?_)
  rintro _ _ _ ⟨rfl, rfl⟩
  refine OpsJ.put rfl (OpJ.pure (OpP.move rfl) ?_)
  by_cases hc7 : y4 = true
  · rw [if_pos hc7] at h6
    refine OpsJ.guard_n rfl rfl rfl rfl hc7 ?_
    refine OpsJ.guard_n rfl rfl rfl rfl hc7 ?_
    refine OpsJ.put rfl (OpJ.pure (OpP.pick_t rfl hc7 rfl) ?_)
    refine OpsJ.nil ?_
    refine CodeJ.cond_t rfl rfl ?_
    refine CodeJ.seq' ?_
    refine CodeJ.region ?_
    refine OpsJ.put rfl (OpJ.pure (OpP.assign rfl) ?_)
    refine OpsJ.nil ?_
    refine CodeJ.ret' ?_
    obtain rfl := Option.some.inj h6
    exact Ret.mk0 ⟨rfl, rfl⟩ (ResJ.one Try.results11 rfl) (IM.le_refl _) (SubL.nil _)
  · rw [if_neg hc7] at h6
    refine OpsJ.guard_y rfl rfl rfl rfl (Bool.eq_false_iff.2 hc7) ?_
    refine OpsJ.put rfl (OpJ.pure (OpP.move rfl) ?_)
    refine OpsJ.guard_y rfl rfl rfl rfl (Bool.eq_false_iff.2 hc7) ?_
    obtain ⟨y13, hy14, h15⟩ := bind_ok h6
    clear h6
    refine OpsJ.put rfl (OpJ.call0 rfl (fun R10 hle11 hin12 => winnowerlaw14_long_w R10 A1_ p1_l.length c1_ p1_l (SlR.mono hA1_ (IM.le_trans (IM.le_refl _) hle11)) rfl hc1_  _ hy14) ?_)
    rintro _ _ _ ⟨rfl, rfl⟩
    refine OpsJ.put rfl (OpJ.pure (OpP.pick_f rfl (Bool.eq_false_iff.2 hc7) rfl) ?_)
    refine OpsJ.nil ?_
    by_cases hc16 : y13 = true
    · rw [if_pos hc16] at h15
      refine CodeJ.cond_t rfl hc16 ?_
      refine CodeJ.seq' ?_
      refine CodeJ.region ?_
      refine OpsJ.put rfl (OpJ.pure (OpP.assign rfl) ?_)
      refine OpsJ.nil ?_
      refine CodeJ.ret' ?_
      obtain rfl := Option.some.inj h15
      exact Ret.mk0 ⟨rfl, rfl⟩ (ResJ.one Try.results11 rfl) (IM.le_refl _) (SubL.nil _)
    · rw [if_neg hc16] at h15
      refine CodeJ.cond_f rfl (Bool.eq_false_iff.2 hc16) ?_
      refine CodeJ.skip ?_
      refine CodeJ.seq' ?_
      refine CodeJ.region ?_
      refine OpsJ.put rfl (OpJ.pure (OpP.move rfl) ?_)
      obtain ⟨y22, hy23, h24⟩ := bind_ok h15
      clear h15
      refine OpsJ.put rfl (OpJ.callP Split.nil rfl (fun R19 hle20 hin21 => part_Of_w R19 A1_ p1_l.length c1_ p1_l (SlR.mono hA1_ (IM.le_trans (IM.le_refl _) hle20)) rfl hc1_  _ hy23) ?_)
      rintro _ _ _ ⟨A25, c26, cs27, rfl, hr28, rfl⟩
      refine OpsJ.put rfl (OpJ.pure (OpP.assign rfl) ?_)
      refine OpsJ.nil ?_
      refine CodeJ.seq' ?_
      refine CodeJ.region ?_
      refine OpsJ.put rfl (OpJ.pure (OpP.move rfl) ?_)
      refine OpsJ.put rfl (OpJ.pure (OpP.move rfl) ?_)
      refine OpsJ.put rfl (OpJ.pure (OpP.move rfl) ?_)
      refine OpsJ.rowle (List.Perm.refl _) (fun hcap30 _ => ?_)
      obtain ⟨y34, hy35, h36⟩ := bind_ok h24
      clear h24
      refine OpsJ.put rfl (OpJ.callP Split.nil rfl (fun R31 hle32 hin33 => part_Vars_w R31 A25 y22.length c26 y22 (SlR.of_row (inRow hin33 (List.Mem.head _)) hr28 (IM.le_nil _)) rfl hcap30 A1_ p1_l.length c1_ p1_l (SlR.mono hA1_ (IM.le_trans (IM.le_refl _) hle32)) rfl hc1_  _ hy35) ?_)
      rintro _ _ _ ⟨A37, c38, cs39, rfl, hr40, rfl⟩
      refine OpsJ.rowle (List.Perm.swap _ _ _) (fun hcap42 _ => ?_)
      refine OpsJ.rowle (List.Perm.refl _) (fun hcap43 _ => ?_)
      obtain ⟨y47, hy48, h49⟩ := bind_ok h36
      clear h36
      refine OpsJ.put rfl (OpJ.call0 rfl (fun R44 hle45 hin46 => part_Render_w R44 A25 y22.length c26 y22 (SlR.of_row (inRow hin46 (List.Mem.tail _ (List.Mem.head _))) hr28 (IM.le_nil _)) rfl hcap42 A37 y34.length c38 y34 (SlR.of_row (inRow hin46 (List.Mem.head _)) hr40 (IM.le_nil _)) rfl hcap43  _ hy48) ?_)
      rintro _ _ _ ⟨rfl, rfl⟩
      refine OpsJ.put rfl (OpJ.pure (OpP.move rfl) ?_)
      refine OpsJ.put rfl (OpJ.pure (OpP.extract rfl rfl) ?_)
      refine OpsJ.put rfl (OpJ.pure (OpP.extract rfl rfl) ?_)
      refine OpsJ.put rfl (OpJ.pure (OpP.assign rfl) ?_)
      refine OpsJ.put rfl (OpJ.pure (OpP.assign rfl) ?_)
      refine OpsJ.nil ?_
      refine CodeJ.seq' ?_
      refine CodeJ.seq' ?_
      refine CodeJ.region ?_
      refine OpsJ.put rfl (OpJ.pure (OpP.move rfl) ?_)
      refine OpsJ.put rfl (OpJ.pure (OpP.move rfl) ?_)
      refine OpsJ.rowle (List.Perm.swap _ _ _) (fun hcap50 _ => ?_)
      obtain ⟨y54, hy55, h56⟩ := bind_ok h49
      clear h49
      refine OpsJ.put rfl (OpJ.call0 rfl (fun R51 hle52 hin53 => part_Fits_w R51 A25 y22.length c26 y22 (SlR.of_row (inRow hin53 (List.Mem.tail _ (List.Mem.head _))) hr28 (IM.le_nil _)) rfl hcap50 A1_ p1_l.length c1_ p1_l (SlR.mono hA1_ (IM.le_trans (IM.le_refl _) hle52)) rfl hc1_  _ hy55) ?_)
      rintro _ _ _ ⟨rfl, rfl⟩
      refine OpsJ.put rfl (OpJ.pure (OpP.not rfl) ?_)
      refine OpsJ.put rfl (OpJ.pure (OpP.move rfl) ?_)
      by_cases hc57 : y54 = true
      · rw [if_pos hc57] at h56
        refine OpsJ.guard_y rfl rfl rfl rfl (congrArg Bool.not hc57) ?_
        refine OpsJ.put rfl (OpJ.pure (OpP.move rfl) ?_)
        refine OpsJ.guard_y rfl rfl rfl rfl (congrArg Bool.not hc57) ?_
        refine OpsJ.put rfl (OpJ.pure (OpP.move rfl) ?_)
        refine OpsJ.guard_y rfl rfl rfl rfl (congrArg Bool.not hc57) ?_
        obtain ⟨y61, hy62, h63⟩ := bind_ok h56
        clear h56
        refine OpsJ.put rfl (OpJ.call0 rfl (fun R58 hle59 hin60 => winnowerref13_Join_w R58 A1_ p1_l.length c1_ p1_l (SlR.mono hA1_ (IM.le_trans (IM.le_refl _) hle59)) rfl hc1_  _ hy62) ?_)
        rintro _ _ _ ⟨rfl, rfl⟩
        refine OpsJ.guard_y rfl rfl rfl rfl (congrArg Bool.not hc57) ?_
        refine OpsJ.put rfl (OpJ.pure (OpP.neqS rfl rfl) ?_)
        refine OpsJ.put rfl (OpJ.pure (OpP.pick_f rfl (congrArg Bool.not hc57) rfl) ?_)
        refine OpsJ.put rfl (OpJ.pure (OpP.move rfl) ?_)
        by_cases hc64 : y47.1 ≠ y61
        · rw [if_pos hc64] at h63
          refine OpsJ.guard_n rfl rfl rfl rfl (decide_eq_true hc64) ?_
          refine OpsJ.guard_n rfl rfl rfl rfl (decide_eq_true hc64) ?_
          refine OpsJ.put rfl (OpJ.pure (OpP.pick_t rfl (decide_eq_true hc64) rfl) ?_)
          refine OpsJ.nil ?_
          refine CodeJ.cond_t rfl rfl ?_
          refine CodeJ.seq' ?_
          refine CodeJ.region ?_
          refine OpsJ.put rfl (OpJ.pure (OpP.assign rfl) ?_)
          refine OpsJ.nil ?_
          refine CodeJ.ret' ?_
          obtain rfl := Option.some.inj h63
          exact Ret.mk0 ⟨rfl, rfl⟩ (ResJ.one Try.results11 rfl) (IM.le_refl _) (SubL.nil _)
        · rw [if_neg hc64] at h63
          refine OpsJ.guard_y rfl rfl rfl rfl (decide_eq_false hc64) ?_
          refine OpsJ.put rfl (OpJ.pure (OpP.move rfl) ?_)
          refine OpsJ.guard_y rfl rfl rfl rfl (decide_eq_false hc64) ?_
          refine OpsJ.put rfl (OpJ.pure (OpP.neq rfl rfl) ?_)
          refine OpsJ.put rfl (OpJ.pure (OpP.pick_f rfl (decide_eq_false hc64) rfl) ?_)
          refine OpsJ.nil ?_
          by_cases hc67 : y47.2 ≠ 0
          · rw [if_pos hc67] at h63
            refine CodeJ.cond_t rfl (decide_eq_true hc67) ?_
            refine CodeJ.seq' ?_
            refine CodeJ.region ?_
            refine OpsJ.put rfl (OpJ.pure (OpP.assign rfl) ?_)
            refine OpsJ.nil ?_
            refine CodeJ.ret' ?_
            obtain rfl := Option.some.inj h63
            exact Ret.mk0 ⟨rfl, rfl⟩ (ResJ.one Try.results11 rfl) (IM.le_refl _) (SubL.nil _)
          · rw [if_neg hc67] at h63
            refine CodeJ.cond_f rfl (decide_eq_false hc67) ?_
            refine CodeJ.skip ?_
            refine CodeJ.seq' ?_
            refine CodeJ.seq' ?_
            refine CodeJ.region ?_
            refine OpsJ.put rfl (OpJ.pure (OpP.move rfl) ?_)
            refine OpsJ.put rfl (OpJ.pure (OpP.move rfl) ?_)
            obtain ⟨y73, hy74, h75⟩ := bind_ok h63
            clear h63
            refine OpsJ.put rfl (OpJ.call0 rfl (fun R70 hle71 hin72 => winnowerref14_Alike_w R70 A0_ p0_t.length c0_ p0_t (SlR.mono hA0_ (IM.le_trans (IM.le_refl _) hle71)) rfl hc0_ A1_ p1_l.length c1_ p1_l (SlR.mono hA1_ (IM.le_trans (IM.le_refl _) hle71)) rfl hc1_  _ hy74) ?_)
            rintro _ _ _ ⟨rfl, rfl⟩
            refine OpsJ.put rfl (OpJ.pure (OpP.move rfl) ?_)
            refine OpsJ.put rfl (OpJ.pure (OpP.len rfl) ?_)
            refine OpsJ.put rfl (OpJ.pure (OpP.neq rfl rfl) ?_)
            refine OpsJ.put rfl (OpJ.pure (OpP.move rfl) ?_)
            by_cases hc76 : y73 ≠ ((p0_t.length : Nat) : Int)
            · rw [if_pos hc76] at h75
              refine OpsJ.guard_n rfl rfl rfl rfl (decide_eq_true hc76) ?_
              refine OpsJ.guard_n rfl rfl rfl rfl (decide_eq_true hc76) ?_
              refine OpsJ.guard_n rfl rfl rfl rfl (decide_eq_true hc76) ?_
              refine OpsJ.guard_n rfl rfl rfl rfl (decide_eq_true hc76) ?_
              refine OpsJ.guard_n rfl rfl rfl rfl (decide_eq_true hc76) ?_
              refine OpsJ.put rfl (OpJ.pure (OpP.pick_t rfl (decide_eq_true hc76) rfl) ?_)
              refine OpsJ.nil ?_
              refine CodeJ.cond_t rfl rfl ?_
              refine CodeJ.seq' ?_
              refine CodeJ.region ?_
              obtain ⟨y80, hy81, h82⟩ := bind_ok h75
              clear h75
              refine OpsJ.put rfl (OpJ.call0 rfl (fun R77 hle78 hin79 => winnowerlaw14_known_w R77   _ hy81) ?_)
              rintro _ _ _ ⟨rfl, rfl⟩
              refine OpsJ.put rfl (OpJ.pure (OpP.assign rfl) ?_)
              refine OpsJ.nil ?_
              refine CodeJ.ret' ?_
              obtain rfl := Option.some.inj h82
              exact Ret.mk0 ⟨rfl, rfl⟩ (ResJ.one Try.results11 rfl) (IM.le_refl _) (SubL.nil _)
            · rw [if_neg hc76] at h75
              refine OpsJ.guard_y rfl rfl rfl rfl (decide_eq_false hc76) ?_
              refine OpsJ.put rfl (OpJ.pure (OpP.move rfl) ?_)
              refine OpsJ.guard_y rfl rfl rfl rfl (decide_eq_false hc76) ?_
              refine OpsJ.put rfl (OpJ.pure (OpP.len rfl) ?_)
              refine OpsJ.guard_y rfl rfl rfl rfl (decide_eq_false hc76) ?_
              refine OpsJ.put rfl (OpJ.pure (OpP.move rfl) ?_)
              refine OpsJ.guard_y rfl rfl rfl rfl (decide_eq_false hc76) ?_
              refine OpsJ.put rfl (OpJ.pure (OpP.len rfl) ?_)
              refine OpsJ.guard_y rfl rfl rfl rfl (decide_eq_false hc76) ?_
              refine OpsJ.put rfl (OpJ.pure (OpP.neq rfl rfl) ?_)
              refine OpsJ.put rfl (OpJ.pure (OpP.pick_f rfl (decide_eq_false hc76) rfl) ?_)
              refine OpsJ.nil ?_
              by_cases hc85 : ((p0_t.length : Nat) : Int) ≠ ((p1_l.length : Nat) : Int)
              · rw [if_pos hc85] at h75
                refine CodeJ.cond_t rfl (decide_eq_true hc85) ?_
                refine CodeJ.seq' ?_
                refine CodeJ.region ?_
                obtain ⟨y89, hy90, h91⟩ := bind_ok h75
                clear h75
                refine OpsJ.put rfl (OpJ.call0 rfl (fun R86 hle87 hin88 => winnowerlaw14_known_w R86   _ hy90) ?_)
                rintro _ _ _ ⟨rfl, rfl⟩
                refine OpsJ.put rfl (OpJ.pure (OpP.assign rfl) ?_)
                refine OpsJ.nil ?_
                refine CodeJ.ret' ?_
                obtain rfl := Option.some.inj h91
                exact Ret.mk0 ⟨rfl, rfl⟩ (ResJ.one Try.results11 rfl) (IM.le_refl _) (SubL.nil _)
              · rw [if_neg hc85] at h75
                refine CodeJ.cond_f rfl (decide_eq_false hc85) ?_
                refine CodeJ.skip ?_
                refine CodeJ.seq' ?_
                refine CodeJ.region ?_
                refine OpsJ.put rfl (OpJ.pure (OpP.move rfl) ?_)
                refine OpsJ.put rfl (OpJ.pure (OpP.move rfl) ?_)
                refine OpsJ.put rfl (OpJ.pure (OpP.move rfl) ?_)
                obtain ⟨y97, hy98, h99⟩ := bind_ok h75
                clear h75
                refine OpsJ.put rfl (OpJ.callP Split.nil rfl (fun R94 hle95 hin96 => part_Vars_w R94 A0_ p0_t.length c0_ p0_t (SlR.mono hA0_ (IM.le_trans (IM.le_refl _) hle95)) rfl hc0_ A1_ p1_l.length c1_ p1_l (SlR.mono hA1_ (IM.le_trans (IM.le_refl _) hle95)) rfl hc1_  _ hy98) ?_)
                rintro _ _ _ ⟨A100, c101, cs102, rfl, hr103, rfl⟩
                refine OpsJ.rowle (List.Perm.refl _) (fun hcap105 _ => ?_)
                obtain ⟨y109, hy110, h111⟩ := bind_ok h99
                clear h99
                refine OpsJ.put rfl (OpJ.call0 rfl (fun R106 hle107 hin108 => part_Render_w R106 A0_ p0_t.length c0_ p0_t (SlR.mono hA0_ (IM.le_trans (IM.le_refl _) hle107)) rfl hc0_ A100 y97.length c101 y97 (SlR.of_row (inRow hin108 (List.Mem.head _)) hr103 (IM.le_nil _)) rfl hcap105  _ hy110) ?_)
                rintro _ _ _ ⟨rfl, rfl⟩
                refine OpsJ.put rfl (OpJ.pure (OpP.move rfl) ?_)
                refine OpsJ.put rfl (OpJ.pure (OpP.extract rfl rfl) ?_)
                refine OpsJ.put rfl (OpJ.pure (OpP.extract rfl rfl) ?_)
                refine OpsJ.put rfl (OpJ.pure (OpP.assign rfl) ?_)
                refine OpsJ.put rfl (OpJ.pure (OpP.assign rfl) ?_)
                refine OpsJ.nil ?_
                refine CodeJ.seq' ?_
                refine CodeJ.region ?_
                refine OpsJ.put rfl (OpJ.pure (OpP.move rfl) ?_)
                refine OpsJ.put rfl (OpJ.pure (OpP.move rfl) ?_)
                obtain ⟨y115, hy116, h117⟩ := bind_ok h111
                clear h111
                refine OpsJ.put rfl (OpJ.call0 rfl (fun R112 hle113 hin114 => winnowerref13_Join_w R112 A1_ p1_l.length c1_ p1_l (SlR.mono hA1_ (IM.le_trans (IM.le_refl _) hle113)) rfl hc1_  _ hy116) ?_)
                rintro _ _ _ ⟨rfl, rfl⟩
                refine OpsJ.put rfl (OpJ.pure (OpP.eql_string rfl rfl) ?_)
                refine OpsJ.put rfl (OpJ.pure (OpP.move rfl) ?_)
                by_cases hc118 : y109.1 = y115
                · rw [if_pos hc118] at h117
                  refine OpsJ.guard_y rfl rfl rfl rfl (decide_eq_true hc118) ?_
                  refine OpsJ.put rfl (OpJ.pure (OpP.move rfl) ?_)
                  refine OpsJ.guard_y rfl rfl rfl rfl (decide_eq_true hc118) ?_
                  refine OpsJ.put rfl (OpJ.pure (OpP.eql rfl rfl) ?_)
                  refine OpsJ.put rfl (OpJ.pure (OpP.pick_t rfl (decide_eq_true hc118) rfl) ?_)
                  refine OpsJ.put rfl (OpJ.pure (OpP.move rfl) ?_)
                  by_cases hc119 : y109.2 = 0
                  · rw [if_pos hc119] at h117
                    refine OpsJ.guard_y rfl rfl rfl rfl (decide_eq_true hc119) ?_
                    obtain ⟨y123, hy124, h125⟩ := bind_ok h117
                    clear h117
                    refine OpsJ.put rfl (OpJ.call0 rfl (fun R120 hle121 hin122 => winnowerlaw14_known_w R120   _ hy124) ?_)
                    rintro _ _ _ ⟨rfl, rfl⟩
                    refine OpsJ.put rfl (OpJ.pure (OpP.pick_t rfl (decide_eq_true hc119) rfl) ?_)
                    refine OpsJ.put rfl (OpJ.pure (OpP.assign rfl) ?_)
                    refine OpsJ.nil ?_
                    refine CodeJ.ret' ?_
                    obtain rfl := Option.some.inj h125
                    exact Ret.mk0 ⟨rfl, rfl⟩ (ResJ.one Try.results11 rfl) (IM.le_refl _) (SubL.nil _)
                  · rw [if_neg hc119] at h117
                    refine OpsJ.guard_n rfl rfl rfl rfl (decide_eq_false hc119) ?_
                    refine OpsJ.put rfl (OpJ.pure (OpP.pick_f rfl (decide_eq_false hc119) rfl) ?_)
                    refine OpsJ.put rfl (OpJ.pure (OpP.assign rfl) ?_)
                    refine OpsJ.nil ?_
                    refine CodeJ.ret' ?_
                    obtain rfl := Option.some.inj h117
                    exact Ret.mk0 ⟨rfl, rfl⟩ (ResJ.one Try.results11 rfl) (IM.le_refl _) (SubL.nil _)
                · rw [if_neg hc118] at h117
                  refine OpsJ.guard_n rfl rfl rfl rfl (decide_eq_false hc118) ?_
                  refine OpsJ.guard_n rfl rfl rfl rfl (decide_eq_false hc118) ?_
                  refine OpsJ.put rfl (OpJ.pure (OpP.pick_f rfl (decide_eq_false hc118) rfl) ?_)
                  refine OpsJ.put rfl (OpJ.pure (OpP.move rfl) ?_)
                  refine OpsJ.guard_n rfl rfl rfl rfl rfl ?_
                  refine OpsJ.put rfl (OpJ.pure (OpP.pick_f rfl rfl rfl) ?_)
                  refine OpsJ.put rfl (OpJ.pure (OpP.assign rfl) ?_)
                  refine OpsJ.nil ?_
                  refine CodeJ.ret' ?_
                  obtain rfl := Option.some.inj h117
                  exact Ret.mk0 ⟨rfl, rfl⟩ (ResJ.one Try.results11 rfl) (IM.le_refl _) (SubL.nil _)
      · rw [if_neg hc57] at h56
        refine OpsJ.guard_n rfl rfl rfl rfl (congrArg Bool.not (Bool.eq_false_iff.2 hc57)) ?_
        refine OpsJ.guard_n rfl rfl rfl rfl (congrArg Bool.not (Bool.eq_false_iff.2 hc57)) ?_
        refine OpsJ.guard_n rfl rfl rfl rfl (congrArg Bool.not (Bool.eq_false_iff.2 hc57)) ?_
        refine OpsJ.guard_n rfl rfl rfl rfl (congrArg Bool.not (Bool.eq_false_iff.2 hc57)) ?_
        refine OpsJ.put rfl (OpJ.pure (OpP.pick_t rfl (congrArg Bool.not (Bool.eq_false_iff.2 hc57)) rfl) ?_)
        refine OpsJ.put rfl (OpJ.pure (OpP.move rfl) ?_)
        refine OpsJ.guard_n rfl rfl rfl rfl rfl ?_
        refine OpsJ.guard_n rfl rfl rfl rfl rfl ?_
        refine OpsJ.put rfl (OpJ.pure (OpP.pick_t rfl rfl rfl) ?_)
        refine OpsJ.nil ?_
        refine CodeJ.cond_t rfl rfl ?_
        refine CodeJ.seq' ?_
        refine CodeJ.region ?_
        refine OpsJ.put rfl (OpJ.pure (OpP.assign rfl) ?_)
        refine OpsJ.nil ?_
        refine CodeJ.ret' ?_
        obtain rfl := Option.some.inj h56
        exact Ret.mk0 ⟨rfl, rfl⟩ (ResJ.one Try.results11 rfl) (IM.le_refl _) (SubL.nil _)
end Go.Proofs.Ytcbnamlioeiaeaa.FW
