/- printed by ex.py: walks -/
import Derived.Test.YtdicpnnmhjgnbaaX6
import Derived.Test.YtdicpnnmhjgnbaaT2
import Derived.Test.YtdicpnnmhjgnbaaOcQ
import Derived.Test.YtdicpnnmhjgnbaaOcK0
namespace Go.Proofs.Ytdicpnnmhjgnbaa.FW
open Go Go.RowKit Go.Proofs
set_option linter.unusedVariables false
set_option linter.unusedSimpArgs false
set_option maxRecDepth 100000
set_option maxHeartbeats 4000000
attribute [local irreducible] OpsJ CodeJ OpJ OpQ OpP QuietJ CallJ HoldJ StepAt Src RC SlR repL
theorem winnowerlaw1_OctetCuts_w (R : IM) (A0_ : Option Addr) (n0_ c0_ : Nat) (p0_l : List (List UInt8)) (hA0_ : SlR R A0_ p0_l) (hn0_ : p0_l.length = n0_) (hc0_ : n0_ ≤ c0_) (p1_at : Int) (y : Bool) (h : winnowerlaw1_OctetCuts p0_l p1_at = some y) :
    CallJ Try.prog 9 #[.slice A0_ n0_ c0_, .int .i64 p1_at] ⟨R, []⟩ (fun v D hs' => v = .bool y ∧ hs' = []) := by
  subst hn0_
  unfold winnowerlaw1_OctetCuts at h
  refine CallJ.of2 Try.func9 rfl Try.ntmps9 rfl (fun W0 => ?_)
  refine CodeJ.seq' ?_
  refine CodeJ.region ?_
  refine OpsJ.put rfl (OpJ.pure (OpP.assign rfl) ?_)
  refine OpsJ.nil ?_
  refine CodeJ.seq' ?_
  refine CodeJ.seq' ?_
  refine CodeJ.region ?_
  refine OpsJ.put rfl (OpJ.pure (OpP.move rfl) ?_)
  obtain ⟨y4, hy5, h6⟩ := bind_ok h
  clear h
  refine OpsJ.put rfl (OpJ.call0 rfl (fun R1 hle2 hin3 => winnowerlaw1_heavyRows_w R1 A0_ p0_l.length c0_ p0_l (SlR.mono hA0_ (IM.le_trans (IM.le_refl _) hle2)) rfl hc0_  _ hy5) ?_)
  rintro _ _ _ ⟨rfl, rfl⟩
  refine OpsJ.put rfl (OpJ.pure (OpP.move rfl) ?_)
  by_cases hc7 : y4 = true
  · rw [if_pos hc7] at h6
    refine OpsJ.guard_n rfl rfl rfl rfl hc7 ?_
    refine OpsJ.guard_n rfl rfl rfl rfl hc7 ?_
    refine OpsJ.guard_n rfl rfl rfl rfl hc7 ?_
    refine OpsJ.put rfl (OpJ.pure (OpP.pick_t rfl hc7 rfl) ?_)
    refine OpsJ.nil ?_
    refine CodeJ.cond_t rfl rfl ?_
    refine CodeJ.seq' ?_
    refine CodeJ.region ?_
    refine OpsJ.put rfl (OpJ.pure (OpP.assign rfl) ?_)
    refine OpsJ.nil ?_
    refine CodeJ.ret' ?_
    obtain rfl := Option.some.inj h6
    exact Ret.mk0 ⟨rfl, rfl⟩ (ResJ.one Try.results9 rfl) (IM.le_refl _) (SubL.nil _)
  · rw [if_neg hc7] at h6
    refine OpsJ.guard_y rfl rfl rfl rfl (Bool.eq_false_iff.2 hc7) ?_
    refine OpsJ.put rfl (OpJ.pure (OpP.move rfl) ?_)
    refine OpsJ.guard_y rfl rfl rfl rfl (Bool.eq_false_iff.2 hc7) ?_
    refine OpsJ.put rfl (OpJ.pure (OpP.len rfl) ?_)
    refine OpsJ.guard_y rfl rfl rfl rfl (Bool.eq_false_iff.2 hc7) ?_
    refine OpsJ.put rfl (OpJ.pure (OpP.eql rfl rfl) ?_)
    refine OpsJ.put rfl (OpJ.pure (OpP.pick_f rfl (Bool.eq_false_iff.2 hc7) rfl) ?_)
    refine OpsJ.nil ?_
    by_cases hc10 : ((p0_l.length : Nat) : Int) = 0
    · rw [if_pos hc10] at h6
      refine CodeJ.cond_t rfl (decide_eq_true hc10) ?_
      refine CodeJ.seq' ?_
      refine CodeJ.region ?_
      refine OpsJ.put rfl (OpJ.pure (OpP.assign rfl) ?_)
      refine OpsJ.nil ?_
      refine CodeJ.ret' ?_
      obtain rfl := Option.some.inj h6
      exact Ret.mk0 ⟨rfl, rfl⟩ (ResJ.one Try.results9 rfl) (IM.le_refl _) (SubL.nil _)
    · rw [if_neg hc10] at h6
      refine CodeJ.cond_f rfl (decide_eq_false hc10) ?_
      refine CodeJ.skip ?_
      refine CodeJ.seq' ?_
      refine CodeJ.region ?_
      refine OpsJ.put rfl (OpJ.pure (OpP.assign rfl) ?_)
      refine OpsJ.nil ?_
      refine CodeJ.seq' ?_
      refine CodeJ.region ?_
      refine OpsJ.put rfl (OpJ.pure (OpP.assign rfl) ?_)
      refine OpsJ.nil ?_
      refine CodeJ.seq' ?_
      refine CodeJ.seq' ?_
      refine CodeJ.region ?_
      refine OpsJ.put rfl (OpJ.pure (OpP.assign rfl) ?_)
      refine OpsJ.nil ?_
      refine CodeJ.nilrow 5 1 ?_
      refine CodeJ.nilrow 3 1 ?_
      obtain ⟨t168, hl169, h170⟩ := bind_ok h6
      clear h6
      refine CodeJ.mid (fun e s => ∃ (A155 : Option Addr) (c156 : Nat) (cs157 : List Value) (A161 : Option Addr) (c162 : Nat) (cs163 : List Value) (all_154 : List UInt8) (ends_160 : List Int), (all_154, ends_160) = t168 ∧ repL IM.nil cs157 all_154 ∧ repL IM.nil cs163 ends_160 ∧ e = [(0, .slice A0_ p0_l.length c0_), (1, .int .i64 p1_at), (5, .slice A155 all_154.length c156), (6, .slice A161 ends_160.length c162)] ∧ s = ⟨R, [.row 5 1 A155 all_154.length c156 cs157, .row 3 1 A161 ends_160.length c162 cs163]⟩) ?_ ?_
      · refine CodeJ.block ?_
        refine CodeJ.loopM hl169 (fun (all_104, ends_110, i_116) e s => ∃ (A105 : Option Addr) (c106 : Nat) (cs107 : List Value) (A111 : Option Addr) (c112 : Nat) (cs113 : List Value), repL IM.nil cs107 all_104 ∧ repL IM.nil cs113 ends_110 ∧ e = [(0, .slice A0_ p0_l.length c0_), (1, .int .i64 p1_at), (5, .slice A105 all_104.length c106), (6, .slice A111 ends_110.length c112), (7, .int .i64 i_116)] ∧ s = ⟨R, [.row 5 1 A105 all_104.length c106 cs107, .row 3 1 A111 ends_110.length c112 cs113]⟩) ⟨none, 0, ([] : List Value), none, 0, ([] : List Value), (repL_nil IM.nil), (repL_nil IM.nil), rfl, rfl⟩ (SubE.cons rfl (SubE.cons rfl (SubE.cons rfl (SubE.cons rfl (SubE.cons rfl (SubE.nil _)))))) (SubL.p1 (SubL.p0 (SubL.nil _))) ?_
        rintro ⟨all_104, ends_110, i_116⟩ _ _ _ ⟨A105, c106, cs107, A111, c112, cs113, hr108, hr114, rfl, rfl⟩ h166 hne167
        (try dsimp only at h166); unfold winnowerlaw1_OctetCuts_l0 at h166
        refine CodeJ.seq' ?_
        refine CodeJ.seq' ?_
        refine CodeJ.region ?_
        refine OpsJ.put rfl (OpJ.pure (OpP.move rfl) ?_)
        refine OpsJ.put rfl (OpJ.pure (OpP.move rfl) ?_)
        refine OpsJ.put rfl (OpJ.pure (OpP.len rfl) ?_)
        refine OpsJ.put rfl (OpJ.pure (OpP.lss rfl rfl) ?_)
        refine OpsJ.nil ?_
        by_cases hc171 : i_116 < ((p0_l.length : Nat) : Int)
        · rw [if_pos hc171] at h166
          refine CodeJ.cond_t rfl (decide_eq_true hc171) ?_
          refine CodeJ.skip ?_
          refine CodeJ.seq' ?_
          refine CodeJ.block ?_
          refine CodeJ.seq' ?_
          refine CodeJ.region ?_
          refine OpsJ.put rfl (OpJ.pure (OpP.move rfl) ?_)
          refine OpsJ.put rfl (OpJ.pure (OpP.move rfl) ?_)
          refine OpsJ.put rfl (OpJ.pure (OpP.move rfl) ?_)
          obtain ⟨x172, hx173, h174⟩ := bind_ok h166
          clear h166
          obtain ⟨_, ⟨A176, c177, rfl, hc178, hA179⟩, hE175⟩ := SlR.getN hA0_ hx173
          refine OpsJ.put rfl (OpJ.pure (OpP.ixR hA0_ rfl hx173 (by exact rfl) (by exact rfl) rfl rfl) ?_)
          refine OpsJ.put rfl (OpJ.pure (OpP.ldR0 (by exact rfl) hE175 (IM.le_refl _) rfl rfl) ?_)
          obtain ⟨y183, hy184, h185⟩ := bind_ok h174
          clear h174
          refine OpsJ.put rfl (OpJ.callP Split.nil rfl (fun R180 hle181 hin182 => winnowerref1_Bytes_w R180 A176 x172.length c177 x172 (SlR.mono hA179 (IM.le_trans (IM.le_refl _) hle181)) rfl hc178  _ hy184) ?_)
          rintro _ _ _ ⟨A186, c187, cs188, rfl, hr189, rfl⟩
          obtain ⟨q191, hq192, h193⟩ := bind_ok h185
          clear h185
          have hr196 : repL IM.nil (cs107 ++ cs188) q191 := app_rep hq192 hr108 hr189
          refine OpsJ.put rfl (OpJ.appW hq192 rfl rfl (Src.ofRow (List.Mem.head _)) hr189 (by exact rfl) (List.Perm.swap _ _ _) (by exact rfl) (by exact rfl) (by exact rfl) rfl rfl (fun A194 c195 => ?_))
          refine OpsJ.put rfl (OpJ.pure (OpP.assign rfl) ?_)
          refine OpsJ.nil ?_
          refine CodeJ.region ?_
          refine OpsJ.put rfl (OpJ.pure (OpP.move rfl) ?_)
          refine OpsJ.put rfl (OpJ.pure (OpP.move rfl) ?_)
          refine OpsJ.put rfl (OpJ.pure (OpP.len rfl) ?_)
          have hr199 : repL IM.nil [.int .i64 ((q191.length : Nat) : Int)] ([((q191.length : Nat) : Int)] : List Int) := (repL_cons (c1 := [.int .i64 ((q191.length : Nat) : Int)]) (show Dat.rep _ _ ((q191.length : Nat) : Int) from rfl) (repL_nil _))
          refine OpsJ.put rfl (OpJ.buildSliceC (cs := [.int .i64 ((q191.length : Nat) : Int)]) rfl rfl (by exact rfl) (by exact rfl) (by exact rfl) (by exact rfl) (fun g198 => ?_))
          obtain ⟨q201, hq202, h203⟩ := bind_ok h193
          clear h193
          have hr206 : repL IM.nil (cs113 ++ ([.int .i64 ((q191.length : Nat) : Int)] : List Value)) q201 := app_rep hq202 hr114 hr199
          refine OpsJ.put rfl (OpJ.appW hq202 rfl rfl (Src.ofRow (List.Mem.head _)) hr199 (by exact rfl) (permm3 _ _ _ _ _) (by exact rfl) (by exact rfl) (by exact rfl) rfl rfl (fun A204 c205 => ?_))
          refine OpsJ.put rfl (OpJ.pure (OpP.assign rfl) ?_)
          refine OpsJ.nil ?_
          refine CodeJ.region ?_
          refine OpsJ.put rfl (OpJ.pure (OpP.move rfl) ?_)
          refine OpsJ.put rfl (OpJ.pure (OpP.add64 rfl rfl) ?_)
          refine OpsJ.put rfl (OpJ.pure (OpP.assign rfl) ?_)
          refine OpsJ.nil ?_
          obtain rfl := Option.some.inj h203
          exact ⟨_, _, _, _, rfl, ⟨A194, c195, (cs107 ++ cs188), A204, c205, (cs113 ++ ([.int .i64 ((q191.length : Nat) : Int)] : List Value)), hr196, hr206, rfl, rfl⟩, IM.le_refl _, (SubE.cons rfl (SubE.cons rfl (SubE.cons rfl (SubE.cons rfl (SubE.cons rfl (SubE.nil _)))))), (SubL.p2 (SubL.p0 (SubL.nil _)))⟩
        · rw [if_neg hc171] at h166
          refine CodeJ.cond_f rfl (decide_eq_false hc171) ?_
          refine CodeJ.exit rfl ?_
          obtain rfl := Option.some.inj h166
          have ht208 := hne167 _ rfl
          exact ⟨_, _, _, ⟨A105, c106, cs107, A111, c112, cs113, all_104, ends_110, ht208, hr108, hr114, rfl, rfl⟩, IM.le_refl _, (SubE.cons rfl (SubE.cons rfl (SubE.cons rfl (SubE.cons rfl (SubE.nil _))))), (SubL.p0 (SubL.p0 (SubL.nil _)))⟩
      · rintro _ _ ⟨A155, c156, cs157, A161, c162, cs163, all_154, ends_160, rfl, hr158, hr164, rfl, rfl⟩
        (try dsimp only at h170)
        refine CodeJ.seq' ?_
        refine CodeJ.region ?_
        refine OpsJ.put rfl (OpJ.pure (OpP.move rfl) ?_)
        refine OpsJ.put rfl (OpJ.pure (OpP.iand rfl rfl) ?_)
        refine OpsJ.put rfl (OpJ.pure (OpP.move rfl) ?_)
        refine OpsJ.put rfl (OpJ.pure (OpP.len rfl) ?_)
        obtain ⟨q209, hq210, h211⟩ := bind_ok h170
        clear h170
        refine OpsJ.put rfl (OpJ.pure (OpP.rem64 hq210 rfl rfl) ?_)
        refine OpsJ.put rfl (OpJ.pure (OpP.assign rfl) ?_)
        refine OpsJ.nil ?_
        refine CodeJ.seq' ?_
        refine CodeJ.region ?_
        refine OpsJ.put rfl (OpJ.pure (OpP.move rfl) ?_)
        refine OpsJ.put rfl (OpJ.pure (OpP.move rfl) ?_)
        refine OpsJ.rowle (List.Perm.refl _) (fun hcap216 hlen217 => ?_)
        refine OpsJ.freeze (List.Perm.refl _) (fun D212 hd213 hin214 => ?_)
        have hA215 : SlR (R.or D212) A155 all_154 := SlR.of_row (RC.mono hin214 (IM.le_or_right hd213)) hr158 (IM.le_nil _)
        obtain ⟨q218, hq219, h221⟩ := bind_ok h211
        clear h211
        have hA220 : SlR (R.or D212) A155 q218 := cutA0 hA215 hq219
        refine OpsJ.put rfl (OpJ.pure (OpP.cutHi hq219 rfl hcap216 rfl rfl) ?_)
        obtain ⟨y225, hy226, h227⟩ := bind_ok h221
        clear h221
        refine OpsJ.put rfl (OpJ.callD Split.nil rfl (fun R222 hle223 hin224 => octet_NewReader_w R222 (R.or D212) (IM.le_trans (IM.le_refl _) hle223) A155 q218.length c156 q218 (SlR.mono hA220 (IM.le_trans (IM.le_refl _) hle223)) rfl (sub_cap hq219 hcap216)  _ hy226) ?_)
        rintro _ D228 _ ⟨g230, A231, c232, rfl, hc233, hA234, rfl⟩ hd229
        refine OpsJ.put rfl (OpJ.pure (OpP.assign rfl) ?_)
        refine OpsJ.nil ?_
        refine CodeJ.seq' ?_
        refine CodeJ.seq' ?_
        refine CodeJ.region ?_
        refine OpsJ.put rfl (OpJ.pure (OpP.move rfl) ?_)
        refine OpsJ.put rfl (OpJ.pure (OpP.eql_nil rfl rfl) ?_)
        refine OpsJ.nil ?_
        refine CodeJ.cond_f rfl rfl ?_
        refine CodeJ.skip ?_
        refine CodeJ.seq' ?_
        refine CodeJ.seq' ?_
        refine CodeJ.region ?_
        refine OpsJ.put rfl (OpJ.pure (OpP.assign rfl) ?_)
        refine OpsJ.nil ?_
        obtain ⟨t471, hl472, h473⟩ := bind_ok h227
        clear h227
        refine CodeJ.mid (fun e s => ∃ (A464 : Option Addr) (c465 : Nat) (f463 : List UInt8) (f468 : Bool), .inr (f463, f468) = t471 ∧ f463.length ≤ c465 ∧ SlR ((R.or D212).or D228) A464 f463 ∧ e = [(9, .pointer (some ⟨g230, 0, none⟩))] ∧ s = ⟨((R.or D212).or D228), [.blk g230 [.slice A464 f463.length c465, .bool f468] 75]⟩) ?_ ?_
        · refine CodeJ.block ?_
          refine CodeJ.loopM hl472 (fun (i_385, f386, f391) e s => ∃ (A387 : Option Addr) (c388 : Nat), f386.length ≤ c388 ∧ SlR ((R.or D212).or D228) A387 f386 ∧ e = [(0, .slice A0_ p0_l.length c0_), (6, .slice A161 ends_160.length c162), (8, .int .i64 q209), (9, .pointer (some ⟨g230, 0, none⟩)), (10, .int .i64 i_385)] ∧ s = ⟨((R.or D212).or D228), [.row 3 1 A161 ends_160.length c162 cs163, .blk g230 [.slice A387 f386.length c388, .bool f391] 75]⟩) ⟨A231, c232, hc233, (SlR.mono hA234 (IM.le_refl _)), rfl, rfl⟩ (SubE.cons rfl (SubE.cons rfl (SubE.cons rfl (SubE.cons rfl (SubE.cons rfl (SubE.nil _)))))) (SubL.p1 (SubL.p0 (SubL.nil _))) ?_
          rintro ⟨i_385, f386, f391⟩ _ _ _ ⟨A387, c388, hc390, hA389, rfl, rfl⟩ h469 hne470
          (try dsimp only at h469); unfold winnowerlaw1_OctetCuts_l1 at h469
          refine CodeJ.seq' ?_
          refine CodeJ.seq' ?_
          refine CodeJ.region ?_
          refine OpsJ.put rfl (OpJ.pure (OpP.move rfl) ?_)
          refine OpsJ.put rfl (OpJ.pure (OpP.move rfl) ?_)
          refine OpsJ.put rfl (OpJ.pure (OpP.len rfl) ?_)
          refine OpsJ.put rfl (OpJ.pure (OpP.lss rfl rfl) ?_)
          refine OpsJ.nil ?_
          by_cases hc474 : i_385 < ((p0_l.length : Nat) : Int)
          · rw [if_pos hc474] at h469
            refine CodeJ.cond_t rfl (decide_eq_true hc474) ?_
            refine CodeJ.skip ?_
            refine CodeJ.seq' ?_
            refine CodeJ.block ?_
            refine CodeJ.seq' ?_
            refine CodeJ.region ?_
            refine OpsJ.put rfl (OpJ.pure (OpP.move rfl) ?_)
            obtain ⟨y478, hy479, h480⟩ := bind_ok h469
            clear h469
            refine OpsJ.put rfl (OpJ.callP (Split.p1 Split.nil) rfl (fun R475 hle476 hin477 => octet_Reader_Bytes_w R475 ((R.or D212).or D228) (IM.le_trans (IM.le_refl _) hle476) g230 (f386, f391) A387 c388 hc390 (SlR.mono hA389 (IM.le_refl _))  _ hy479) ?_)
            rintro _ _ _ ⟨A481, c482, A485, c486, cs487, rfl, hc483, hA484, hr488, rfl⟩
            refine OpsJ.put rfl (OpJ.pure (OpP.assign rfl) ?_)
            refine OpsJ.nil ?_
            refine CodeJ.seq' ?_
            refine CodeJ.region ?_
            refine OpsJ.put rfl (OpJ.pure (OpP.move rfl) ?_)
            refine OpsJ.put rfl (OpJ.pure (OpP.move rfl) ?_)
            obtain ⟨x490, hx491, h492⟩ := bind_ok h480
            clear h480
            have hE493 : ∀ j v, ([.int .i64 x490] : List Value)[j]? = some v → (cs163)[Int.toNat i_385 * Dat.size Int + j]? = some v := row_getF (α := Int) hr164 hx491
            refine OpsJ.put rfl (OpJ.pure (OpP.ixW (List.Mem.tail _ (List.Mem.tail _ (List.Mem.head _))) hr164 rfl hx491 (by exact rfl) (by exact rfl) rfl rfl) ?_)
            refine OpsJ.put rfl (OpJ.pure (OpP.ldW0 (by exact rfl) (List.Mem.tail _ (List.Mem.tail _ (List.Mem.head _))) hE493 rfl rfl) ?_)
            refine OpsJ.put rfl (OpJ.pure (OpP.move rfl) ?_)
            refine OpsJ.put rfl (OpJ.pure (OpP.leq rfl rfl) ?_)
            refine OpsJ.nil ?_
            by_cases hc494 : x490 ≤ q209
            · rw [if_pos hc494] at h492
              refine CodeJ.cond_t rfl (decide_eq_true hc494) ?_
              refine CodeJ.seq' ?_
              refine CodeJ.region ?_
              refine OpsJ.put rfl (OpJ.pure (OpP.move rfl) ?_)
              refine OpsJ.put rfl (OpJ.pure (OpP.move rfl) ?_)
              refine OpsJ.put rfl (OpJ.pure (OpP.move rfl) ?_)
              obtain ⟨x495, hx496, h497⟩ := bind_ok h492
              clear h492
              obtain ⟨_, ⟨A499, c500, rfl, hc501, hA502⟩, hE498⟩ := SlR.getN hA0_ hx496
              refine OpsJ.put rfl (OpJ.pure (OpP.ixR hA0_ rfl hx496 (by exact rfl) (by exact rfl) rfl rfl) ?_)
              refine OpsJ.put rfl (OpJ.pure (OpP.ldR0 (by exact rfl) hE498 (IM.le_trans (IM.le_trans (IM.le_refl _) (IM.le_or _ _)) (IM.le_or _ _)) rfl rfl) ?_)
              refine OpsJ.rowle (List.Perm.swap _ _ _) (fun hcap503 _ => ?_)
              obtain ⟨y507, hy508, h509⟩ := bind_ok h497
              clear h497
              refine OpsJ.put rfl (OpJ.call0 rfl (fun R504 hle505 hin506 => winnowerlaw1_same_w R504 A485 y478.2.length c486 y478.2 (SlR.of_row (inRow hin506 (List.Mem.tail _ (List.Mem.head _))) hr488 (IM.le_nil _)) rfl hcap503 A499 x495.length c500 x495 (SlR.mono hA502 (IM.le_trans (IM.le_trans (IM.le_trans (IM.le_refl _) (IM.le_or _ _)) (IM.le_or _ _)) hle505)) rfl hc501  _ hy508) ?_)
              rintro _ _ _ ⟨rfl, rfl⟩
              refine OpsJ.put rfl (OpJ.pure (OpP.not rfl) ?_)
              refine OpsJ.put rfl (OpJ.pure (OpP.move rfl) ?_)
              by_cases hc510 : y507 = true
              · rw [if_pos hc510] at h509
                refine OpsJ.guard_y rfl rfl rfl rfl (congrArg Bool.not hc510) ?_
                refine OpsJ.put rfl (OpJ.pure (OpP.move rfl) ?_)
                refine OpsJ.guard_y rfl rfl rfl rfl (congrArg Bool.not hc510) ?_
                obtain ⟨y514, hy515, h516⟩ := bind_ok h509
                clear h509
                refine OpsJ.put rfl (OpJ.callP (Split.p0 Split.nil) rfl (fun R511 hle512 hin513 => octet_Reader_Good_w R511 ((R.or D212).or D228) (IM.le_trans (IM.le_refl _) hle512) g230 (y478.1.1, y478.1.2) A481 c482 hc483 (SlR.mono hA484 (IM.le_refl _))  _ hy515) ?_)
                rintro _ _ _ ⟨A517, c518, rfl, hc519, hA520, rfl⟩
                refine OpsJ.guard_y rfl rfl rfl rfl (congrArg Bool.not hc510) ?_
                refine OpsJ.put rfl (OpJ.pure (OpP.not rfl) ?_)
                refine OpsJ.put rfl (OpJ.pure (OpP.pick_f rfl (congrArg Bool.not hc510) rfl) ?_)
                refine OpsJ.nil ?_
                by_cases hc521 : y514.2 = true
                · rw [if_pos hc521] at h516
                  refine CodeJ.cond_f rfl (congrArg Bool.not hc521) ?_
                  refine CodeJ.skip ?_
                  refine CodeJ.region ?_
                  refine OpsJ.put rfl (OpJ.pure (OpP.move rfl) ?_)
                  refine OpsJ.put rfl (OpJ.pure (OpP.add64 rfl rfl) ?_)
                  refine OpsJ.put rfl (OpJ.pure (OpP.assign rfl) ?_)
                  refine OpsJ.nil ?_
                  obtain rfl := Option.some.inj h516
                  exact ⟨_, _, _, _, rfl, ⟨A517, c518, hc519, (SlR.mono hA520 (IM.le_refl _)), rfl, rfl⟩, IM.le_refl _, (SubE.cons rfl (SubE.cons rfl (SubE.cons rfl (SubE.cons rfl (SubE.cons rfl (SubE.nil _)))))), (SubL.p2 (SubL.p0 (SubL.nil _)))⟩
                · rw [if_neg hc521] at h516
                  refine CodeJ.cond_t rfl (congrArg Bool.not (Bool.eq_false_iff.2 hc521)) ?_
                  refine CodeJ.seq' ?_
                  refine CodeJ.region ?_
                  refine OpsJ.put rfl (OpJ.pure (OpP.assign rfl) ?_)
                  refine OpsJ.nil ?_
                  obtain rfl := Option.some.inj h516
                  have ht522 := hne470 _ rfl
                  subst ht522
                  simp only [Sum.elim_inl] at h473
                  refine CodeJ.ret' ?_
                  obtain rfl := Option.some.inj h473
                  exact Ret.mk0 ⟨rfl, rfl⟩ (ResJ.one Try.results9 rfl) (IM.le_trans (IM.le_trans (IM.le_refl _) (IM.le_or _ _)) (IM.le_or _ _)) (SubL.nil _)
              · rw [if_neg hc510] at h509
                refine OpsJ.guard_n rfl rfl rfl rfl (congrArg Bool.not (Bool.eq_false_iff.2 hc510)) ?_
                refine OpsJ.guard_n rfl rfl rfl rfl (congrArg Bool.not (Bool.eq_false_iff.2 hc510)) ?_
                refine OpsJ.guard_n rfl rfl rfl rfl (congrArg Bool.not (Bool.eq_false_iff.2 hc510)) ?_
                refine OpsJ.put rfl (OpJ.pure (OpP.pick_t rfl (congrArg Bool.not (Bool.eq_false_iff.2 hc510)) rfl) ?_)
                refine OpsJ.nil ?_
                refine CodeJ.cond_t rfl rfl ?_
                refine CodeJ.seq' ?_
                refine CodeJ.region ?_
                refine OpsJ.put rfl (OpJ.pure (OpP.assign rfl) ?_)
                refine OpsJ.nil ?_
                obtain rfl := Option.some.inj h509
                have ht525 := hne470 _ rfl
                subst ht525
                simp only [Sum.elim_inl] at h473
                refine CodeJ.ret' ?_
                obtain rfl := Option.some.inj h473
                exact Ret.mk0 ⟨rfl, rfl⟩ (ResJ.one Try.results9 rfl) (IM.le_trans (IM.le_trans (IM.le_refl _) (IM.le_or _ _)) (IM.le_or _ _)) (SubL.nil _)
            · rw [if_neg hc494] at h492
              refine CodeJ.cond_f rfl (decide_eq_false hc494) ?_
              refine CodeJ.seq' ?_
              refine CodeJ.region ?_
              refine OpsJ.put rfl (OpJ.pure (OpP.move rfl) ?_)
              refine OpsJ.put rfl (OpJ.pure (OpP.len rfl) ?_)
              refine OpsJ.put rfl (OpJ.pure (OpP.neq rfl rfl) ?_)
              refine OpsJ.put rfl (OpJ.pure (OpP.move rfl) ?_)
              by_cases hc528 : ((y478.2.length : Nat) : Int) ≠ 0
              · rw [if_pos hc528] at h492
                refine OpsJ.guard_n rfl rfl rfl rfl (decide_eq_true hc528) ?_
                refine OpsJ.guard_n rfl rfl rfl rfl (decide_eq_true hc528) ?_
                refine OpsJ.put rfl (OpJ.pure (OpP.pick_t rfl (decide_eq_true hc528) rfl) ?_)
                refine OpsJ.put rfl (OpJ.pure (OpP.move rfl) ?_)
                refine OpsJ.guard_n rfl rfl rfl rfl rfl ?_
                refine OpsJ.guard_n rfl rfl rfl rfl rfl ?_
                refine OpsJ.guard_n rfl rfl rfl rfl rfl ?_
                refine OpsJ.put rfl (OpJ.pure (OpP.pick_t rfl rfl rfl) ?_)
                refine OpsJ.nil ?_
                refine CodeJ.cond_t rfl rfl ?_
                refine CodeJ.seq' ?_
                refine CodeJ.region ?_
                refine OpsJ.put rfl (OpJ.pure (OpP.assign rfl) ?_)
                refine OpsJ.nil ?_
                obtain rfl := Option.some.inj h492
                have ht529 := hne470 _ rfl
                subst ht529
                simp only [Sum.elim_inl] at h473
                refine CodeJ.ret' ?_
                obtain rfl := Option.some.inj h473
                exact Ret.mk0 ⟨rfl, rfl⟩ (ResJ.one Try.results9 rfl) (IM.le_trans (IM.le_trans (IM.le_refl _) (IM.le_or _ _)) (IM.le_or _ _)) (SubL.nil _)
              · rw [if_neg hc528] at h492
                refine OpsJ.guard_y rfl rfl rfl rfl (decide_eq_false hc528) ?_
                refine OpsJ.put rfl (OpJ.pure (OpP.move rfl) ?_)
                refine OpsJ.guard_y rfl rfl rfl rfl (decide_eq_false hc528) ?_
                obtain ⟨y535, hy536, h537⟩ := bind_ok h492
                clear h492
                refine OpsJ.put rfl (OpJ.callP (Split.p0 Split.nil) rfl (fun R532 hle533 hin534 => octet_Reader_Good_w R532 ((R.or D212).or D228) (IM.le_trans (IM.le_refl _) hle533) g230 (y478.1.1, y478.1.2) A481 c482 hc483 (SlR.mono hA484 (IM.le_refl _))  _ hy536) ?_)
                rintro _ _ _ ⟨A538, c539, rfl, hc540, hA541, rfl⟩
                refine OpsJ.put rfl (OpJ.pure (OpP.pick_f rfl (decide_eq_false hc528) rfl) ?_)
                refine OpsJ.put rfl (OpJ.pure (OpP.move rfl) ?_)
                by_cases hc542 : y535.2 = true
                · rw [if_pos hc542] at h537
                  refine OpsJ.guard_n rfl rfl rfl rfl hc542 ?_
                  refine OpsJ.guard_n rfl rfl rfl rfl hc542 ?_
                  refine OpsJ.guard_n rfl rfl rfl rfl hc542 ?_
                  refine OpsJ.put rfl (OpJ.pure (OpP.pick_t rfl hc542 rfl) ?_)
                  refine OpsJ.nil ?_
                  refine CodeJ.cond_t rfl rfl ?_
                  refine CodeJ.seq' ?_
                  refine CodeJ.region ?_
                  refine OpsJ.put rfl (OpJ.pure (OpP.assign rfl) ?_)
                  refine OpsJ.nil ?_
                  obtain rfl := Option.some.inj h537
                  have ht543 := hne470 _ rfl
                  subst ht543
                  simp only [Sum.elim_inl] at h473
                  refine CodeJ.ret' ?_
                  obtain rfl := Option.some.inj h473
                  exact Ret.mk0 ⟨rfl, rfl⟩ (ResJ.one Try.results9 rfl) (IM.le_trans (IM.le_trans (IM.le_refl _) (IM.le_or _ _)) (IM.le_or _ _)) (SubL.nil _)
                · rw [if_neg hc542] at h537
                  refine OpsJ.guard_y rfl rfl rfl rfl (Bool.eq_false_iff.2 hc542) ?_
                  refine OpsJ.put rfl (OpJ.pure (OpP.move rfl) ?_)
                  refine OpsJ.guard_y rfl rfl rfl rfl (Bool.eq_false_iff.2 hc542) ?_
                  obtain ⟨y549, hy550, h551⟩ := bind_ok h537
                  clear h537
                  refine OpsJ.put rfl (OpJ.callP (Split.p0 Split.nil) rfl (fun R546 hle547 hin548 => octet_Reader_Left_w R546 ((R.or D212).or D228) (IM.le_trans (IM.le_refl _) hle547) g230 (y535.1.1, y535.1.2) A538 c539 hc540 (SlR.mono hA541 (IM.le_refl _))  _ hy550) ?_)
                  rintro _ _ _ ⟨A552, c553, rfl, hc554, hA555, rfl⟩
                  refine OpsJ.guard_y rfl rfl rfl rfl (Bool.eq_false_iff.2 hc542) ?_
                  refine OpsJ.put rfl (OpJ.pure (OpP.neq rfl rfl) ?_)
                  refine OpsJ.put rfl (OpJ.pure (OpP.pick_f rfl (Bool.eq_false_iff.2 hc542) rfl) ?_)
                  refine OpsJ.nil ?_
                  by_cases hc556 : y549.2 ≠ 0
                  · rw [if_pos hc556] at h551
                    refine CodeJ.cond_t rfl (decide_eq_true hc556) ?_
                    refine CodeJ.seq' ?_
                    refine CodeJ.region ?_
                    refine OpsJ.put rfl (OpJ.pure (OpP.assign rfl) ?_)
                    refine OpsJ.nil ?_
                    obtain rfl := Option.some.inj h551
                    have ht557 := hne470 _ rfl
                    subst ht557
                    simp only [Sum.elim_inl] at h473
                    refine CodeJ.ret' ?_
                    obtain rfl := Option.some.inj h473
                    exact Ret.mk0 ⟨rfl, rfl⟩ (ResJ.one Try.results9 rfl) (IM.le_trans (IM.le_trans (IM.le_refl _) (IM.le_or _ _)) (IM.le_or _ _)) (SubL.nil _)
                  · rw [if_neg hc556] at h551
                    refine CodeJ.cond_f rfl (decide_eq_false hc556) ?_
                    refine CodeJ.skip ?_
                    refine CodeJ.region ?_
                    refine OpsJ.put rfl (OpJ.pure (OpP.move rfl) ?_)
                    refine OpsJ.put rfl (OpJ.pure (OpP.add64 rfl rfl) ?_)
                    refine OpsJ.put rfl (OpJ.pure (OpP.assign rfl) ?_)
                    refine OpsJ.nil ?_
                    obtain rfl := Option.some.inj h551
                    exact ⟨_, _, _, _, rfl, ⟨A552, c553, hc554, (SlR.mono hA555 (IM.le_refl _)), rfl, rfl⟩, IM.le_refl _, (SubE.cons rfl (SubE.cons rfl (SubE.cons rfl (SubE.cons rfl (SubE.cons rfl (SubE.nil _)))))), (SubL.p2 (SubL.p0 (SubL.nil _)))⟩
          · rw [if_neg hc474] at h469
            refine CodeJ.cond_f rfl (decide_eq_false hc474) ?_
            refine CodeJ.exit rfl ?_
            obtain rfl := Option.some.inj h469
            have ht560 := hne470 _ rfl
            exact ⟨_, _, _, ⟨A387, c388, f386, f391, ht560, hc390, (SlR.mono hA389 (IM.le_refl _)), rfl, rfl⟩, IM.le_refl _, (SubE.cons rfl (SubE.nil _)), (SubL.p1 (SubL.nil _))⟩
        · rintro _ _ ⟨A464, c465, f463, f468, rfl, hc467, hA466, rfl, rfl⟩
          simp only [Sum.elim_inr] at h473
          refine CodeJ.seq' ?_
          refine CodeJ.region ?_
          refine OpsJ.put rfl (OpJ.pure (OpP.move rfl) ?_)
          obtain ⟨y564, hy565, h566⟩ := bind_ok h473
          clear h473
          refine OpsJ.put rfl (OpJ.callP (Split.p0 Split.nil) rfl (fun R561 hle562 hin563 => octet_Reader_Whole_w R561 ((R.or D212).or D228) (IM.le_trans (IM.le_refl _) hle562) g230 (f463, f468) A464 c465 hc467 (SlR.mono hA466 (IM.le_refl _))  _ hy565) ?_)
          rintro _ _ _ ⟨A567, c568, rfl, hc569, hA570, rfl⟩
          refine OpsJ.put rfl (OpJ.pure (OpP.not rfl) ?_)
          refine OpsJ.put rfl (OpJ.pure (OpP.move rfl) ?_)
          by_cases hc571 : y564.2 = true
          · rw [if_pos hc571] at h566
            refine OpsJ.guard_n rfl rfl rfl rfl (congrArg Bool.not hc571) ?_
            refine OpsJ.guard_n rfl rfl rfl rfl (congrArg Bool.not hc571) ?_
            refine OpsJ.guard_n rfl rfl rfl rfl (congrArg Bool.not hc571) ?_
            refine OpsJ.put rfl (OpJ.pure (OpP.pick_f rfl (congrArg Bool.not hc571) rfl) ?_)
            refine OpsJ.put rfl (OpJ.pure (OpP.move rfl) ?_)
            refine OpsJ.guard_n rfl rfl rfl rfl rfl ?_
            refine OpsJ.put rfl (OpJ.pure (OpP.pick_f rfl rfl rfl) ?_)
            refine OpsJ.put rfl (OpJ.pure (OpP.assign rfl) ?_)
            refine OpsJ.nil ?_
            refine CodeJ.ret' ?_
            obtain rfl := Option.some.inj h566
            exact Ret.mk0 ⟨rfl, rfl⟩ (ResJ.one Try.results9 rfl) (IM.le_trans (IM.le_trans (IM.le_refl _) (IM.le_or _ _)) (IM.le_or _ _)) (SubL.nil _)
          · rw [if_neg hc571] at h566
            refine OpsJ.guard_y rfl rfl rfl rfl (congrArg Bool.not (Bool.eq_false_iff.2 hc571)) ?_
            refine OpsJ.put rfl (OpJ.pure (OpP.move rfl) ?_)
            refine OpsJ.guard_y rfl rfl rfl rfl (congrArg Bool.not (Bool.eq_false_iff.2 hc571)) ?_
            obtain ⟨y577, hy578, h579⟩ := bind_ok h566
            clear h566
            refine OpsJ.put rfl (OpJ.callP (Split.p0 Split.nil) rfl (fun R574 hle575 hin576 => octet_Reader_Num_w R574 ((R.or D212).or D228) (IM.le_trans (IM.le_refl _) hle575) g230 (y564.1.1, y564.1.2) A567 c568 hc569 (SlR.mono hA570 (IM.le_refl _))  _ hy578) ?_)
            rintro _ _ _ ⟨A580, c581, rfl, hc582, hA583, rfl⟩
            refine OpsJ.guard_y rfl rfl rfl rfl (congrArg Bool.not (Bool.eq_false_iff.2 hc571)) ?_
            refine OpsJ.put rfl (OpJ.pure (OpP.eql rfl rfl) ?_)
            refine OpsJ.put rfl (OpJ.pure (OpP.pick_t rfl (congrArg Bool.not (Bool.eq_false_iff.2 hc571)) rfl) ?_)
            refine OpsJ.put rfl (OpJ.pure (OpP.move rfl) ?_)
            by_cases hc584 : y577.2 = 0
            · rw [if_pos hc584] at h579
              refine OpsJ.guard_y rfl rfl rfl rfl (decide_eq_true hc584) ?_
              obtain ⟨y588, hy589, h590⟩ := bind_ok h579
              clear h579
              refine OpsJ.put rfl (OpJ.call0 rfl (fun R585 hle586 hin587 => winnowerlaw1_known_w R585   _ hy589) ?_)
              rintro _ _ _ ⟨rfl, rfl⟩
              refine OpsJ.put rfl (OpJ.pure (OpP.pick_t rfl (decide_eq_true hc584) rfl) ?_)
              refine OpsJ.put rfl (OpJ.pure (OpP.assign rfl) ?_)
              refine OpsJ.nil ?_
              refine CodeJ.ret' ?_
              obtain rfl := Option.some.inj h590
              exact Ret.mk0 ⟨rfl, rfl⟩ (ResJ.one Try.results9 rfl) (IM.le_trans (IM.le_trans (IM.le_refl _) (IM.le_or _ _)) (IM.le_or _ _)) (SubL.nil _)
            · rw [if_neg hc584] at h579
              refine OpsJ.guard_n rfl rfl rfl rfl (decide_eq_false hc584) ?_
              refine OpsJ.put rfl (OpJ.pure (OpP.pick_f rfl (decide_eq_false hc584) rfl) ?_)
              refine OpsJ.put rfl (OpJ.pure (OpP.assign rfl) ?_)
              refine OpsJ.nil ?_
              refine CodeJ.ret' ?_
              obtain rfl := Option.some.inj h579
              exact Ret.mk0 ⟨rfl, rfl⟩ (ResJ.one Try.results9 rfl) (IM.le_trans (IM.le_trans (IM.le_refl _) (IM.le_or _ _)) (IM.le_or _ _)) (SubL.nil _)
end Go.Proofs.Ytdicpnnmhjgnbaa.FW
