/- printed by ex.py: walks -/
import Derived.Test.YtdicpnnmhjgnbaaX5
import Derived.Test.YtdicpnnmhjgnbaaT2
import Derived.Test.YtdicpnnmhjgnbaaPkQ
import Derived.Test.YtdicpnnmhjgnbaaPkK0
import Derived.Test.YtdicpnnmhjgnbaaOcK1
namespace Go.Proofs.Ytdicpnnmhjgnbaa.FW
open Go Go.RowKit Go.Proofs
set_option linter.unusedVariables false
set_option linter.unusedSimpArgs false
set_option maxRecDepth 100000
set_option maxHeartbeats 4000000
attribute [local irreducible] OpsJ CodeJ OpJ OpQ OpP QuietJ CallJ HoldJ StepAt Src RC SlR repL
theorem winnowerlaw16_PackBack_w (R : IM) (A0_ : Option Addr) (n0_ c0_ : Nat) (p0_l : List Int) (hA0_ : SlR R A0_ p0_l) (hn0_ : p0_l.length = n0_) (hc0_ : n0_ ≤ c0_) (y : Bool) (h : winnowerlaw16_PackBack p0_l = some y) :
    CallJ Try.prog 15 #[.slice A0_ n0_ c0_] ⟨R, []⟩ (fun v D hs' => v = .bool y ∧ hs' = []) := by
  subst hn0_
  unfold winnowerlaw16_PackBack at h
  refine CallJ.of1 Try.func15 rfl Try.ntmps15 rfl (fun W0 => ?_)
  refine CodeJ.seq' ?_
  refine CodeJ.region ?_
  refine OpsJ.put rfl (OpJ.pure (OpP.assign rfl) ?_)
  refine OpsJ.nil ?_
  refine CodeJ.seq' ?_
  refine CodeJ.seq' ?_
  refine CodeJ.region ?_
  refine OpsJ.put rfl (OpJ.pure (OpP.move rfl) ?_)
  refine OpsJ.put rfl (OpJ.pure (OpP.len rfl) ?_)
  refine OpsJ.put rfl (OpJ.pure (OpP.gtr rfl rfl) ?_)
  refine OpsJ.nil ?_
  by_cases hc1 : ((p0_l.length : Nat) : Int) > 400
  · rw [if_pos hc1] at h
    refine CodeJ.cond_t rfl (decide_eq_true hc1) ?_
    refine CodeJ.seq' ?_
    refine CodeJ.region ?_
    refine OpsJ.put rfl (OpJ.pure (OpP.assign rfl) ?_)
    refine OpsJ.nil ?_
    refine CodeJ.ret' ?_
    obtain rfl := Option.some.inj h
    exact Ret.mk0 ⟨rfl, rfl⟩ (ResJ.one Try.results15 rfl) (IM.le_refl _) (SubL.nil _)
  · rw [if_neg hc1] at h
    refine CodeJ.cond_f rfl (decide_eq_false hc1) ?_
    refine CodeJ.skip ?_
    refine CodeJ.seq' ?_
    refine CodeJ.seq' ?_
    refine CodeJ.region ?_
    refine OpsJ.put rfl (OpJ.pure (OpP.assign rfl) ?_)
    refine OpsJ.nil ?_
    obtain ⟨t68, hl69, h70⟩ := bind_ok h
    clear h
    refine CodeJ.mid (fun e s => .inr () = t68 ∧ e = [(0, .slice A0_ p0_l.length c0_)] ∧ s = ⟨R, []⟩) ?_ ?_
    · refine CodeJ.block ?_
      refine CodeJ.loopM hl69 (fun i_45 e s => e = [(0, .slice A0_ p0_l.length c0_), (3, .int .i64 i_45)] ∧ s = ⟨R, []⟩) ⟨rfl, rfl⟩ (SubE.cons rfl (SubE.cons rfl (SubE.nil _))) (SubL.nil _) ?_
      rintro i_45 _ _ _ ⟨rfl, rfl⟩ h66 hne67
      (try dsimp only at h66); unfold winnowerlaw16_PackBack_l0 at h66
      refine CodeJ.seq' ?_
      refine CodeJ.seq' ?_
      refine CodeJ.region ?_
      refine OpsJ.put rfl (OpJ.pure (OpP.move rfl) ?_)
      refine OpsJ.put rfl (OpJ.pure (OpP.move rfl) ?_)
      refine OpsJ.put rfl (OpJ.pure (OpP.len rfl) ?_)
      refine OpsJ.put rfl (OpJ.pure (OpP.lss rfl rfl) ?_)
      refine OpsJ.nil ?_
      by_cases hc71 : i_45 < ((p0_l.length : Nat) : Int)
      · rw [if_pos hc71] at h66
        refine CodeJ.cond_t rfl (decide_eq_true hc71) ?_
        refine CodeJ.skip ?_
        refine CodeJ.seq' ?_
        refine CodeJ.block ?_
        refine CodeJ.seq' ?_
        refine CodeJ.region ?_
        refine OpsJ.put rfl (OpJ.pure (OpP.move rfl) ?_)
        refine OpsJ.put rfl (OpJ.pure (OpP.move rfl) ?_)
        obtain ⟨x72, hx73, h74⟩ := bind_ok h66
        clear h66
        have hE75 : RC _ (some ((adr A0_).add (Int.toNat i_45 * Dat.size Int))) [.int .i64 x72] := SlR.getF (α := Int) hA0_ hx73
        refine OpsJ.put rfl (OpJ.pure (OpP.ixR hA0_ rfl hx73 (by exact rfl) (by exact rfl) rfl rfl) ?_)
        refine OpsJ.put rfl (OpJ.pure (OpP.ldR0 (by exact rfl) hE75 (IM.le_refl _) rfl rfl) ?_)
        refine OpsJ.put rfl (OpJ.pure (OpP.lss rfl rfl) ?_)
        refine OpsJ.put rfl (OpJ.pure (OpP.move rfl) ?_)
        by_cases hc76 : x72 < 0
        · rw [if_pos hc76] at h74
          refine OpsJ.guard_n rfl rfl rfl rfl (decide_eq_true hc76) ?_
          refine OpsJ.guard_n rfl rfl rfl rfl (decide_eq_true hc76) ?_
          refine OpsJ.guard_n rfl rfl rfl rfl (decide_eq_true hc76) ?_
          refine OpsJ.guard_n rfl rfl rfl rfl (decide_eq_true hc76) ?_
          refine OpsJ.guard_n rfl rfl rfl rfl (decide_eq_true hc76) ?_
          refine OpsJ.put rfl (OpJ.pure (OpP.pick_t rfl (decide_eq_true hc76) rfl) ?_)
          refine OpsJ.nil ?_
          refine CodeJ.cond_t rfl rfl ?_
          refine CodeJ.seq' ?_
          refine CodeJ.region ?_
          obtain ⟨y80, hy81, h82⟩ := bind_ok h74
          clear h74
          refine OpsJ.put rfl (OpJ.call0 rfl (fun R77 hle78 hin79 => winnowerlaw16_known_w R77   _ hy81) ?_)
          rintro _ _ _ ⟨rfl, rfl⟩
          refine OpsJ.put rfl (OpJ.pure (OpP.assign rfl) ?_)
          refine OpsJ.nil ?_
          obtain rfl := Option.some.inj h82
          have ht83 := hne67 _ rfl
          subst ht83
          simp only [Sum.elim_inl] at h70
          refine CodeJ.ret' ?_
          obtain rfl := Option.some.inj h70
          exact Ret.mk0 ⟨rfl, rfl⟩ (ResJ.one Try.results15 rfl) (IM.le_refl _) (SubL.nil _)
        · rw [if_neg hc76] at h74
          refine OpsJ.guard_y rfl rfl rfl rfl (decide_eq_false hc76) ?_
          refine OpsJ.put rfl (OpJ.pure (OpP.move rfl) ?_)
          refine OpsJ.guard_y rfl rfl rfl rfl (decide_eq_false hc76) ?_
          refine OpsJ.put rfl (OpJ.pure (OpP.move rfl) ?_)
          refine OpsJ.guard_y rfl rfl rfl rfl (decide_eq_false hc76) ?_
          have hE86 : RC _ (some ((adr A0_).add (Int.toNat i_45 * Dat.size Int))) [.int .i64 x72] := SlR.getF (α := Int) hA0_ hx73
          refine OpsJ.put rfl (OpJ.pure (OpP.ixR hA0_ rfl hx73 (by exact rfl) (by exact rfl) rfl rfl) ?_)
          refine OpsJ.guard_y rfl rfl rfl rfl (decide_eq_false hc76) ?_
          refine OpsJ.put rfl (OpJ.pure (OpP.ldR0 (by exact rfl) hE86 (IM.le_refl _) rfl rfl) ?_)
          refine OpsJ.guard_y rfl rfl rfl rfl (decide_eq_false hc76) ?_
          refine OpsJ.put rfl (OpJ.pure (OpP.gtr rfl rfl) ?_)
          refine OpsJ.put rfl (OpJ.pure (OpP.pick_f rfl (decide_eq_false hc76) rfl) ?_)
          refine OpsJ.nil ?_
          by_cases hc87 : x72 > 1099511627776
          · rw [if_pos hc87] at h74
            refine CodeJ.cond_t rfl (decide_eq_true hc87) ?_
            refine CodeJ.seq' ?_
            refine CodeJ.region ?_
            obtain ⟨y91, hy92, h93⟩ := bind_ok h74
            clear h74
            refine OpsJ.put rfl (OpJ.call0 rfl (fun R88 hle89 hin90 => winnowerlaw16_known_w R88   _ hy92) ?_)
            rintro _ _ _ ⟨rfl, rfl⟩
            refine OpsJ.put rfl (OpJ.pure (OpP.assign rfl) ?_)
            refine OpsJ.nil ?_
            obtain rfl := Option.some.inj h93
            have ht94 := hne67 _ rfl
            subst ht94
            simp only [Sum.elim_inl] at h70
            refine CodeJ.ret' ?_
            obtain rfl := Option.some.inj h70
            exact Ret.mk0 ⟨rfl, rfl⟩ (ResJ.one Try.results15 rfl) (IM.le_refl _) (SubL.nil _)
          · rw [if_neg hc87] at h74
            refine CodeJ.cond_f rfl (decide_eq_false hc87) ?_
            refine CodeJ.skip ?_
            refine CodeJ.region ?_
            refine OpsJ.put rfl (OpJ.pure (OpP.move rfl) ?_)
            refine OpsJ.put rfl (OpJ.pure (OpP.add64 rfl rfl) ?_)
            refine OpsJ.put rfl (OpJ.pure (OpP.assign rfl) ?_)
            refine OpsJ.nil ?_
            obtain rfl := Option.some.inj h74
            exact ⟨_, _, _, _, rfl, ⟨rfl, rfl⟩, IM.le_refl _, (SubE.cons rfl (SubE.cons rfl (SubE.nil _))), (SubL.nil _)⟩
      · rw [if_neg hc71] at h66
        refine CodeJ.cond_f rfl (decide_eq_false hc71) ?_
        refine CodeJ.exit rfl ?_
        obtain rfl := Option.some.inj h66
        have ht97 := hne67 _ rfl
        exact ⟨_, _, _, ⟨ht97, rfl, rfl⟩, IM.le_refl _, (SubE.cons rfl (SubE.nil _)), (SubL.nil _)⟩
    · rintro _ _ ⟨rfl, rfl, rfl⟩
      simp only [Sum.elim_inr] at h70
      refine CodeJ.seq' ?_
      refine CodeJ.region ?_
      refine OpsJ.put rfl (OpJ.pure (OpP.move rfl) ?_)
      obtain ⟨y101, hy102, h103⟩ := bind_ok h70
      clear h70
      refine OpsJ.put rfl (OpJ.callP Split.nil rfl (fun R98 hle99 hin100 => pack_Plain_w R98 A0_ p0_l.length c0_ p0_l (SlR.mono hA0_ (IM.le_trans (IM.le_refl _) hle99)) rfl hc0_  _ hy102) ?_)
      rintro _ _ _ ⟨A104, c105, cs106, rfl, hr107, rfl⟩
      refine OpsJ.put rfl (OpJ.pure (OpP.move rfl) ?_)
      refine OpsJ.put rfl (OpJ.pure (OpP.extract rfl rfl) ?_)
      refine OpsJ.put rfl (OpJ.pure (OpP.extract rfl rfl) ?_)
      refine OpsJ.put rfl (OpJ.pure (OpP.assign rfl) ?_)
      refine OpsJ.put rfl (OpJ.pure (OpP.assign rfl) ?_)
      refine OpsJ.nil ?_
      refine CodeJ.seq' ?_
      refine CodeJ.region ?_
      refine OpsJ.put rfl (OpJ.pure (OpP.move rfl) ?_)
      obtain ⟨y112, hy113, h114⟩ := bind_ok h103
      clear h103
      refine OpsJ.put rfl (OpJ.callP Split.nil rfl (fun R109 hle110 hin111 => pack_Delta_w R109 A0_ p0_l.length c0_ p0_l (SlR.mono hA0_ (IM.le_trans (IM.le_refl _) hle110)) rfl hc0_  _ hy113) ?_)
      rintro _ _ _ ⟨A115, c116, cs117, rfl, hr118, rfl⟩
      refine OpsJ.put rfl (OpJ.pure (OpP.move rfl) ?_)
      refine OpsJ.put rfl (OpJ.pure (OpP.extract rfl rfl) ?_)
      refine OpsJ.put rfl (OpJ.pure (OpP.extract rfl rfl) ?_)
      refine OpsJ.put rfl (OpJ.pure (OpP.assign rfl) ?_)
      refine OpsJ.put rfl (OpJ.pure (OpP.assign rfl) ?_)
      refine OpsJ.nil ?_
      refine CodeJ.seq' ?_
      refine CodeJ.region ?_
      refine OpsJ.put rfl (OpJ.pure (OpP.move rfl) ?_)
      obtain ⟨y123, hy124, h125⟩ := bind_ok h114
      clear h114
      refine OpsJ.put rfl (OpJ.callP Split.nil rfl (fun R120 hle121 hin122 => pack_Runs_w R120 A0_ p0_l.length c0_ p0_l (SlR.mono hA0_ (IM.le_trans (IM.le_refl _) hle121)) rfl hc0_  _ hy124) ?_)
      rintro _ _ _ ⟨A126, c127, cs128, rfl, hr129, rfl⟩
      refine OpsJ.put rfl (OpJ.pure (OpP.move rfl) ?_)
      refine OpsJ.put rfl (OpJ.pure (OpP.extract rfl rfl) ?_)
      refine OpsJ.put rfl (OpJ.pure (OpP.extract rfl rfl) ?_)
      refine OpsJ.put rfl (OpJ.pure (OpP.assign rfl) ?_)
      refine OpsJ.put rfl (OpJ.pure (OpP.assign rfl) ?_)
      refine OpsJ.nil ?_
      refine CodeJ.seq' ?_
      refine CodeJ.region ?_
      refine OpsJ.put rfl (OpJ.pure (OpP.move rfl) ?_)
      obtain ⟨y134, hy135, h136⟩ := bind_ok h125
      clear h125
      refine OpsJ.put rfl (OpJ.callP Split.nil rfl (fun R131 hle132 hin133 => pack_Best_w R131 A0_ p0_l.length c0_ p0_l (SlR.mono hA0_ (IM.le_trans (IM.le_refl _) hle132)) rfl hc0_  _ hy135) ?_)
      rintro _ _ _ ⟨A137, c138, cs139, rfl, hr140, rfl⟩
      refine OpsJ.put rfl (OpJ.pure (OpP.move rfl) ?_)
      refine OpsJ.put rfl (OpJ.pure (OpP.extract rfl rfl) ?_)
      refine OpsJ.put rfl (OpJ.pure (OpP.extract rfl rfl) ?_)
      refine OpsJ.put rfl (OpJ.pure (OpP.assign rfl) ?_)
      refine OpsJ.put rfl (OpJ.pure (OpP.assign rfl) ?_)
      refine OpsJ.nil ?_
      refine CodeJ.seq' ?_
      refine CodeJ.region ?_
      refine OpsJ.put rfl (OpJ.pure (OpP.move rfl) ?_)
      refine OpsJ.put rfl (OpJ.pure (OpP.move rfl) ?_)
      refine OpsJ.put rfl (OpJ.pure (OpP.move rfl) ?_)
      refine OpsJ.put rfl (OpJ.pure (OpP.move rfl) ?_)
      refine OpsJ.rowle (permm3 _ _ _ _ _) (fun hcap146 hlen147 => ?_)
      refine OpsJ.freeze (permm3 _ _ _ _ _) (fun D142 hd143 hin144 => ?_)
      have hA145 : SlR (R.or D142) A104 y101.1 := SlR.of_row (RC.mono hin144 (IM.le_or_right hd143)) hr107 (IM.le_nil _)
      refine OpsJ.rowle (permm2 _ _ _ _) (fun hcap152 hlen153 => ?_)
      refine OpsJ.freeze (permm2 _ _ _ _) (fun D148 hd149 hin150 => ?_)
      have hA151 : SlR ((R.or D142).or D148) A115 y112.1 := SlR.of_row (RC.mono hin150 (IM.le_or_right hd149)) hr118 (IM.le_nil _)
      refine OpsJ.rowle (List.Perm.swap _ _ _) (fun hcap158 hlen159 => ?_)
      refine OpsJ.freeze (List.Perm.swap _ _ _) (fun D154 hd155 hin156 => ?_)
      have hA157 : SlR (((R.or D142).or D148).or D154) A126 y123.1 := SlR.of_row (RC.mono hin156 (IM.le_or_right hd155)) hr129 (IM.le_nil _)
      refine OpsJ.rowle (List.Perm.refl _) (fun hcap164 hlen165 => ?_)
      refine OpsJ.freeze (List.Perm.refl _) (fun D160 hd161 hin162 => ?_)
      have hA163 : SlR ((((R.or D142).or D148).or D154).or D160) A137 y134.1 := SlR.of_row (RC.mono hin162 (IM.le_or_right hd161)) hr140 (IM.le_nil _)
      have hr167 : repL ((((R.or D142).or D148).or D154).or D160) [.slice A104 y101.1.length c105, .slice A115 y112.1.length c116, .slice A126 y123.1.length c127, .slice A137 y134.1.length c138] ([y101.1, y112.1, y123.1, y134.1] : List (List UInt8)) := (repL_cons (c1 := [.slice A104 y101.1.length c105]) (show Dat.rep _ _ y101.1 from ⟨A104, c105, rfl, hcap146, SlR.mono hA145 (IM.le_trans (IM.le_trans (IM.le_trans (IM.le_refl _) (IM.le_or _ _)) (IM.le_or _ _)) (IM.le_or _ _))⟩) (repL_cons (c1 := [.slice A115 y112.1.length c116]) (show Dat.rep _ _ y112.1 from ⟨A115, c116, rfl, hcap152, SlR.mono hA151 (IM.le_trans (IM.le_trans (IM.le_refl _) (IM.le_or _ _)) (IM.le_or _ _))⟩) (repL_cons (c1 := [.slice A126 y123.1.length c127]) (show Dat.rep _ _ y123.1 from ⟨A126, c127, rfl, hcap158, SlR.mono hA157 (IM.le_trans (IM.le_refl _) (IM.le_or _ _))⟩) (repL_cons (c1 := [.slice A137 y134.1.length c138]) (show Dat.rep _ _ y134.1 from ⟨A137, c138, rfl, hcap164, SlR.mono hA163 (IM.le_refl _)⟩) (repL_nil _)))))
      refine OpsJ.put rfl (OpJ.buildSliceC (cs := [.slice A104 y101.1.length c105, .slice A115 y112.1.length c116, .slice A126 y123.1.length c127, .slice A137 y134.1.length c138]) rfl rfl (by exact rfl) (by exact rfl) (by exact rfl) (by exact rfl) (fun g166 => ?_))
      refine OpsJ.put rfl (OpJ.pure (OpP.assign rfl) ?_)
      refine OpsJ.nil ?_
      refine CodeJ.seq' ?_
      refine CodeJ.seq' ?_
      refine CodeJ.region ?_
      refine OpsJ.put rfl (OpJ.pure (OpP.assign rfl) ?_)
      refine OpsJ.nil ?_
      obtain ⟨t278, hl279, h280⟩ := bind_ok h136
      clear h136
      refine CodeJ.mid (fun e s => .inr () = t278 ∧ e = [(11, .int .i64 y134.2)] ∧ s = ⟨((((R.or D142).or D148).or D154).or D160), []⟩) ?_ ?_
      · refine CodeJ.block ?_
        refine CodeJ.loopM hl279 (fun i_240 e s => e = [(0, .slice A0_ p0_l.length c0_), (10, .slice A137 y134.1.length c138), (11, .int .i64 y134.2), (12, .slice (some ⟨g166, 0, none⟩) 4 4), (13, .int .i64 i_240)] ∧ s = ⟨((((R.or D142).or D148).or D154).or D160), [.row 23 1 (some ⟨g166, 0, none⟩) 4 4 ([.slice A104 y101.1.length c105, .slice A115 y112.1.length c116, .slice A126 y123.1.length c127, .slice A137 y134.1.length c138] : List Value)]⟩) ⟨rfl, rfl⟩ (SubE.cons rfl (SubE.cons rfl (SubE.cons rfl (SubE.cons rfl (SubE.cons rfl (SubE.nil _)))))) (SubL.p0 (SubL.nil _)) ?_
        rintro i_240 _ _ _ ⟨rfl, rfl⟩ h276 hne277
        (try dsimp only at h276); unfold winnowerlaw16_PackBack_l1 at h276
        refine CodeJ.seq' ?_
        refine CodeJ.seq' ?_
        refine CodeJ.region ?_
        refine OpsJ.put rfl (OpJ.pure (OpP.move rfl) ?_)
        refine OpsJ.put rfl (OpJ.pure (OpP.lss rfl rfl) ?_)
        refine OpsJ.nil ?_
        by_cases hc281 : i_240 < 4
        · rw [if_pos hc281] at h276
          refine CodeJ.cond_t rfl (decide_eq_true hc281) ?_
          refine CodeJ.skip ?_
          refine CodeJ.seq' ?_
          refine CodeJ.block ?_
          refine CodeJ.seq' ?_
          refine CodeJ.region ?_
          refine OpsJ.put rfl (OpJ.pure (OpP.move rfl) ?_)
          refine OpsJ.put rfl (OpJ.pure (OpP.move rfl) ?_)
          obtain ⟨x282, hx283, h284⟩ := bind_ok h276
          clear h276
          obtain ⟨_, ⟨A286, c287, rfl, hc288, hA289⟩, hE285⟩ := row_getN hr167 hx283
          refine OpsJ.put rfl (OpJ.pure (OpP.ixW (List.Mem.head _) hr167 rfl hx283 (by exact rfl) (by exact rfl) rfl rfl) ?_)
          refine OpsJ.put rfl (OpJ.pure (OpP.ldW0 (by exact rfl) (List.Mem.head _) hE285 rfl rfl) ?_)
          obtain ⟨y293, hy294, h295⟩ := bind_ok h284
          clear h284
          refine OpsJ.put rfl (OpJ.callP Split.nil rfl (fun R290 hle291 hin292 => pack_Decode_w R290 A286 x282.length c287 x282 (SlR.mono hA289 (IM.le_trans (IM.le_refl _) hle291)) rfl hc288  _ hy294) ?_)
          rintro _ _ _ ⟨A296, c297, cs298, rfl, hr299, rfl⟩
          refine OpsJ.put rfl (OpJ.pure (OpP.move rfl) ?_)
          refine OpsJ.put rfl (OpJ.pure (OpP.extract rfl rfl) ?_)
          refine OpsJ.put rfl (OpJ.pure (OpP.extract rfl rfl) ?_)
          refine OpsJ.put rfl (OpJ.pure (OpP.assign rfl) ?_)
          refine OpsJ.put rfl (OpJ.pure (OpP.assign rfl) ?_)
          refine OpsJ.nil ?_
          refine CodeJ.seq' ?_
          refine CodeJ.region ?_
          refine OpsJ.put rfl (OpJ.pure (OpP.move rfl) ?_)
          refine OpsJ.put rfl (OpJ.pure (OpP.neq rfl rfl) ?_)
          refine OpsJ.put rfl (OpJ.pure (OpP.move rfl) ?_)
          by_cases hc301 : y293.2 ≠ 0
          · rw [if_pos hc301] at h295
            refine OpsJ.guard_n rfl rfl rfl rfl (decide_eq_true hc301) ?_
            refine OpsJ.guard_n rfl rfl rfl rfl (decide_eq_true hc301) ?_
            refine OpsJ.guard_n rfl rfl rfl rfl (decide_eq_true hc301) ?_
            refine OpsJ.guard_n rfl rfl rfl rfl (decide_eq_true hc301) ?_
            refine OpsJ.put rfl (OpJ.pure (OpP.pick_t rfl (decide_eq_true hc301) rfl) ?_)
            refine OpsJ.put rfl (OpJ.pure (OpP.move rfl) ?_)
            refine OpsJ.guard_n rfl rfl rfl rfl rfl ?_
            refine OpsJ.guard_n rfl rfl rfl rfl rfl ?_
            refine OpsJ.guard_n rfl rfl rfl rfl rfl ?_
            refine OpsJ.guard_n rfl rfl rfl rfl rfl ?_
            refine OpsJ.guard_n rfl rfl rfl rfl rfl ?_
            refine OpsJ.guard_n rfl rfl rfl rfl rfl ?_
            refine OpsJ.guard_n rfl rfl rfl rfl rfl ?_
            refine OpsJ.guard_n rfl rfl rfl rfl rfl ?_
            refine OpsJ.put rfl (OpJ.pure (OpP.pick_t rfl rfl rfl) ?_)
            refine OpsJ.nil ?_
            refine CodeJ.cond_t rfl rfl ?_
            refine CodeJ.seq' ?_
            refine CodeJ.region ?_
            refine OpsJ.put rfl (OpJ.pure (OpP.assign rfl) ?_)
            refine OpsJ.nil ?_
            obtain rfl := Option.some.inj h295
            have ht302 := hne277 _ rfl
            subst ht302
            simp only [Sum.elim_inl] at h280
            refine CodeJ.ret' ?_
            obtain rfl := Option.some.inj h280
            exact Ret.mk0 ⟨rfl, rfl⟩ (ResJ.one Try.results15 rfl) (IM.le_trans (IM.le_trans (IM.le_trans (IM.le_trans (IM.le_refl _) (IM.le_or _ _)) (IM.le_or _ _)) (IM.le_or _ _)) (IM.le_or _ _)) (SubL.nil _)
          · rw [if_neg hc301] at h295
            refine OpsJ.guard_y rfl rfl rfl rfl (decide_eq_false hc301) ?_
            refine OpsJ.put rfl (OpJ.pure (OpP.move rfl) ?_)
            refine OpsJ.guard_y rfl rfl rfl rfl (decide_eq_false hc301) ?_
            refine OpsJ.put rfl (OpJ.pure (OpP.move rfl) ?_)
            refine OpsJ.guard_y rfl rfl rfl rfl (decide_eq_false hc301) ?_
            refine OpsJ.rowle (List.Perm.refl _) (fun hcap305 _ => ?_)
            obtain ⟨y309, hy310, h311⟩ := bind_ok h295
            clear h295
            refine OpsJ.put rfl (OpJ.call0 rfl (fun R306 hle307 hin308 => winnowerlaw16_numbers_w R306 A0_ p0_l.length c0_ p0_l (SlR.mono hA0_ (IM.le_trans (IM.le_trans (IM.le_trans (IM.le_trans (IM.le_trans (IM.le_refl _) (IM.le_or _ _)) (IM.le_or _ _)) (IM.le_or _ _)) (IM.le_or _ _)) hle307)) rfl hc0_ A296 y293.1.length c297 y293.1 (SlR.of_row (inRow hin308 (List.Mem.head _)) hr299 (IM.le_nil _)) rfl hcap305  _ hy310) ?_)
            rintro _ _ _ ⟨rfl, rfl⟩
            refine OpsJ.guard_y rfl rfl rfl rfl (decide_eq_false hc301) ?_
            refine OpsJ.put rfl (OpJ.pure (OpP.not rfl) ?_)
            refine OpsJ.put rfl (OpJ.pure (OpP.pick_f rfl (decide_eq_false hc301) rfl) ?_)
            refine OpsJ.put rfl (OpJ.pure (OpP.move rfl) ?_)
            by_cases hc312 : y309 = true
            · rw [if_pos hc312] at h311
              refine OpsJ.guard_y rfl rfl rfl rfl (congrArg Bool.not hc312) ?_
              refine OpsJ.put rfl (OpJ.pure (OpP.move rfl) ?_)
              refine OpsJ.guard_y rfl rfl rfl rfl (congrArg Bool.not hc312) ?_
              refine OpsJ.put rfl (OpJ.pure (OpP.len rfl) ?_)
              refine OpsJ.guard_y rfl rfl rfl rfl (congrArg Bool.not hc312) ?_
              refine OpsJ.put rfl (OpJ.pure (OpP.move rfl) ?_)
              refine OpsJ.guard_y rfl rfl rfl rfl (congrArg Bool.not hc312) ?_
              refine OpsJ.put rfl (OpJ.pure (OpP.move rfl) ?_)
              refine OpsJ.guard_y rfl rfl rfl rfl (congrArg Bool.not hc312) ?_
              obtain ⟨_, ⟨A314, c315, rfl, hc316, hA317⟩, hE313⟩ := row_getN hr167 hx283
              refine OpsJ.put rfl (OpJ.pure (OpP.ixW (List.Mem.tail _ (List.Mem.head _)) hr167 rfl hx283 (by exact rfl) (by exact rfl) rfl rfl) ?_)
              refine OpsJ.guard_y rfl rfl rfl rfl (congrArg Bool.not hc312) ?_
              refine OpsJ.put rfl (OpJ.pure (OpP.ldW0 (by exact rfl) (List.Mem.tail _ (List.Mem.head _)) hE313 rfl rfl) ?_)
              refine OpsJ.guard_y rfl rfl rfl rfl (congrArg Bool.not hc312) ?_
              refine OpsJ.put rfl (OpJ.pure (OpP.len rfl) ?_)
              refine OpsJ.guard_y rfl rfl rfl rfl (congrArg Bool.not hc312) ?_
              refine OpsJ.put rfl (OpJ.pure (OpP.gtr rfl rfl) ?_)
              refine OpsJ.put rfl (OpJ.pure (OpP.pick_f rfl (congrArg Bool.not hc312) rfl) ?_)
              refine OpsJ.nil ?_
              by_cases hc318 : ((y134.1.length : Nat) : Int) > ((x282.length : Nat) : Int)
              · rw [if_pos hc318] at h311
                refine CodeJ.cond_t rfl (decide_eq_true hc318) ?_
                refine CodeJ.seq' ?_
                refine CodeJ.region ?_
                refine OpsJ.put rfl (OpJ.pure (OpP.assign rfl) ?_)
                refine OpsJ.nil ?_
                obtain rfl := Option.some.inj h311
                have ht319 := hne277 _ rfl
                subst ht319
                simp only [Sum.elim_inl] at h280
                refine CodeJ.ret' ?_
                obtain rfl := Option.some.inj h280
                exact Ret.mk0 ⟨rfl, rfl⟩ (ResJ.one Try.results15 rfl) (IM.le_trans (IM.le_trans (IM.le_trans (IM.le_trans (IM.le_refl _) (IM.le_or _ _)) (IM.le_or _ _)) (IM.le_or _ _)) (IM.le_or _ _)) (SubL.nil _)
              · rw [if_neg hc318] at h311
                refine CodeJ.cond_f rfl (decide_eq_false hc318) ?_
                refine CodeJ.skip ?_
                refine CodeJ.region ?_
                refine OpsJ.put rfl (OpJ.pure (OpP.move rfl) ?_)
                refine OpsJ.put rfl (OpJ.pure (OpP.add64 rfl rfl) ?_)
                refine OpsJ.put rfl (OpJ.pure (OpP.assign rfl) ?_)
                refine OpsJ.nil ?_
                obtain rfl := Option.some.inj h311
                exact ⟨_, _, _, _, rfl, ⟨rfl, rfl⟩, IM.le_refl _, (SubE.cons rfl (SubE.cons rfl (SubE.cons rfl (SubE.cons rfl (SubE.cons rfl (SubE.nil _)))))), (SubL.p1 (SubL.nil _))⟩
            · rw [if_neg hc312] at h311
              refine OpsJ.guard_n rfl rfl rfl rfl (congrArg Bool.not (Bool.eq_false_iff.2 hc312)) ?_
              refine OpsJ.guard_n rfl rfl rfl rfl (congrArg Bool.not (Bool.eq_false_iff.2 hc312)) ?_
              refine OpsJ.guard_n rfl rfl rfl rfl (congrArg Bool.not (Bool.eq_false_iff.2 hc312)) ?_
              refine OpsJ.guard_n rfl rfl rfl rfl (congrArg Bool.not (Bool.eq_false_iff.2 hc312)) ?_
              refine OpsJ.guard_n rfl rfl rfl rfl (congrArg Bool.not (Bool.eq_false_iff.2 hc312)) ?_
              refine OpsJ.guard_n rfl rfl rfl rfl (congrArg Bool.not (Bool.eq_false_iff.2 hc312)) ?_
              refine OpsJ.guard_n rfl rfl rfl rfl (congrArg Bool.not (Bool.eq_false_iff.2 hc312)) ?_
              refine OpsJ.guard_n rfl rfl rfl rfl (congrArg Bool.not (Bool.eq_false_iff.2 hc312)) ?_
              refine OpsJ.put rfl (OpJ.pure (OpP.pick_t rfl (congrArg Bool.not (Bool.eq_false_iff.2 hc312)) rfl) ?_)
              refine OpsJ.nil ?_
              refine CodeJ.cond_t rfl rfl ?_
              refine CodeJ.seq' ?_
              refine CodeJ.region ?_
              refine OpsJ.put rfl (OpJ.pure (OpP.assign rfl) ?_)
              refine OpsJ.nil ?_
              obtain rfl := Option.some.inj h311
              have ht322 := hne277 _ rfl
              subst ht322
              simp only [Sum.elim_inl] at h280
              refine CodeJ.ret' ?_
              obtain rfl := Option.some.inj h280
              exact Ret.mk0 ⟨rfl, rfl⟩ (ResJ.one Try.results15 rfl) (IM.le_trans (IM.le_trans (IM.le_trans (IM.le_trans (IM.le_refl _) (IM.le_or _ _)) (IM.le_or _ _)) (IM.le_or _ _)) (IM.le_or _ _)) (SubL.nil _)
        · rw [if_neg hc281] at h276
          refine CodeJ.cond_f rfl (decide_eq_false hc281) ?_
          refine CodeJ.exit rfl ?_
          obtain rfl := Option.some.inj h276
          have ht325 := hne277 _ rfl
          exact ⟨_, _, _, ⟨ht325, rfl, rfl⟩, IM.le_refl _, (SubE.cons rfl (SubE.nil _)), (SubL.nil _)⟩
      · rintro _ _ ⟨rfl, rfl, rfl⟩
        simp only [Sum.elim_inr] at h280
        refine CodeJ.seq' ?_
        refine CodeJ.region ?_
        refine OpsJ.put rfl (OpJ.pure (OpP.move rfl) ?_)
        refine OpsJ.put rfl (OpJ.pure (OpP.eql rfl rfl) ?_)
        refine OpsJ.put rfl (OpJ.pure (OpP.move rfl) ?_)
        by_cases hc326 : y134.2 = 0
        · rw [if_pos hc326] at h280
          refine OpsJ.guard_y rfl rfl rfl rfl (decide_eq_true hc326) ?_
          obtain ⟨y330, hy331, h332⟩ := bind_ok h280
          clear h280
          refine OpsJ.put rfl (OpJ.call0 rfl (fun R327 hle328 hin329 => winnowerlaw16_known_w R327   _ hy331) ?_)
          rintro _ _ _ ⟨rfl, rfl⟩
          refine OpsJ.put rfl (OpJ.pure (OpP.pick_t rfl (decide_eq_true hc326) rfl) ?_)
          refine OpsJ.put rfl (OpJ.pure (OpP.assign rfl) ?_)
          refine OpsJ.nil ?_
          refine CodeJ.ret' ?_
          obtain rfl := Option.some.inj h332
          exact Ret.mk0 ⟨rfl, rfl⟩ (ResJ.one Try.results15 rfl) (IM.le_trans (IM.le_trans (IM.le_trans (IM.le_trans (IM.le_refl _) (IM.le_or _ _)) (IM.le_or _ _)) (IM.le_or _ _)) (IM.le_or _ _)) (SubL.nil _)
        · rw [if_neg hc326] at h280
          refine OpsJ.guard_n rfl rfl rfl rfl (decide_eq_false hc326) ?_
          refine OpsJ.put rfl (OpJ.pure (OpP.pick_f rfl (decide_eq_false hc326) rfl) ?_)
          refine OpsJ.put rfl (OpJ.pure (OpP.assign rfl) ?_)
          refine OpsJ.nil ?_
          refine CodeJ.ret' ?_
          obtain rfl := Option.some.inj h280
          exact Ret.mk0 ⟨rfl, rfl⟩ (ResJ.one Try.results15 rfl) (IM.le_trans (IM.le_trans (IM.le_trans (IM.le_trans (IM.le_refl _) (IM.le_or _ _)) (IM.le_or _ _)) (IM.le_or _ _)) (IM.le_or _ _)) (SubL.nil _)
end Go.Proofs.Ytdicpnnmhjgnbaa.FW
