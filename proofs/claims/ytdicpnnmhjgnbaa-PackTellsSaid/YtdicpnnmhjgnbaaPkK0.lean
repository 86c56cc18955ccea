/- printed by ex.py: walks -/
import Derived.Test.YtdicpnnmhjgnbaaX6
import Derived.Test.YtdicpnnmhjgnbaaT2
import Derived.Test.YtdicpnnmhjgnbaaPkQ
import Derived.Test.YtdicpnnmhjgnbaaOcK1
namespace Go.Proofs.Ytdicpnnmhjgnbaa.FW
open Go Go.RowKit Go.Proofs
set_option linter.unusedVariables false
set_option linter.unusedSimpArgs false
set_option maxRecDepth 100000
set_option maxHeartbeats 4000000
attribute [local irreducible] OpsJ CodeJ OpJ OpQ OpP QuietJ CallJ HoldJ StepAt Src RC SlR repL
theorem winnowerlaw16_numbers_w (R : IM) (A0_ : Option Addr) (n0_ c0_ : Nat) (p0_a : List Int) (hA0_ : SlR R A0_ p0_a) (hn0_ : p0_a.length = n0_) (hc0_ : n0_ ≤ c0_) (A1_ : Option Addr) (n1_ c1_ : Nat) (p1_b : List Int) (hA1_ : SlR R A1_ p1_b) (hn1_ : p1_b.length = n1_) (hc1_ : n1_ ≤ c1_) (y : Bool) (h : winnowerlaw16_numbers p0_a p1_b = some y) :
    CallJ Try.prog 56 #[.slice A0_ n0_ c0_, .slice A1_ n1_ c1_] ⟨R, []⟩ (fun v D hs' => v = .bool y ∧ hs' = []) := by
  subst hn0_
  subst hn1_
  unfold winnowerlaw16_numbers at h
  refine CallJ.of2 Try.func56 rfl Try.ntmps56 rfl (fun W0 => ?_)
  refine CodeJ.seq' ?_
  refine CodeJ.region ?_
  refine OpsJ.put rfl (OpJ.pure (OpP.assign rfl) ?_)
  refine OpsJ.nil ?_
  refine CodeJ.seq' ?_
  refine CodeJ.seq' ?_
  refine CodeJ.region ?_
  refine OpsJ.put rfl (OpJ.pure (OpP.move rfl) ?_)
  refine OpsJ.put rfl (OpJ.pure (OpP.len rfl) ?_)
  refine OpsJ.put rfl (OpJ.pure (OpP.move rfl) ?_)
  refine OpsJ.put rfl (OpJ.pure (OpP.len rfl) ?_)
  refine OpsJ.put rfl (OpJ.pure (OpP.neq rfl rfl) ?_)
  refine OpsJ.nil ?_
  by_cases hc1 : ((p0_a.length : Nat) : Int) ≠ ((p1_b.length : Nat) : Int)
  · rw [if_pos hc1] at h
    refine CodeJ.cond_t rfl (decide_eq_true hc1) ?_
    refine CodeJ.seq' ?_
    refine CodeJ.region ?_
    refine OpsJ.put rfl (OpJ.pure (OpP.assign rfl) ?_)
    refine OpsJ.nil ?_
    refine CodeJ.ret' ?_
    obtain rfl := Option.some.inj h
    exact Ret.mk0 ⟨rfl, rfl⟩ (ResJ.one Try.results56 rfl) (IM.le_refl _) (SubL.nil _)
  · rw [if_neg hc1] at h
    refine CodeJ.cond_f rfl (decide_eq_false hc1) ?_
    refine CodeJ.skip ?_
    refine CodeJ.seq' ?_
    refine CodeJ.seq' ?_
    refine CodeJ.region ?_
    refine OpsJ.put rfl (OpJ.pure (OpP.assign rfl) ?_)
    refine OpsJ.nil ?_
    obtain ⟨t38, hl39, h40⟩ := bind_ok h
    clear h
    refine CodeJ.mid (fun e s => .inr () = t38 ∧ e = [] ∧ s = ⟨R, []⟩) ?_ ?_
    · refine CodeJ.block ?_
      refine CodeJ.loopM hl39 (fun i_25 e s => e = [(0, .slice A0_ p0_a.length c0_), (1, .slice A1_ p1_b.length c1_), (5, .int .i64 i_25)] ∧ s = ⟨R, []⟩) ⟨rfl, rfl⟩ (SubE.cons rfl (SubE.cons rfl (SubE.cons rfl (SubE.nil _)))) (SubL.nil _) ?_
      rintro i_25 _ _ _ ⟨rfl, rfl⟩ h36 hne37
      (try dsimp only at h36); unfold winnowerlaw16_numbers_l0 at h36
      refine CodeJ.seq' ?_
      refine CodeJ.seq' ?_
      refine CodeJ.region ?_
      refine OpsJ.put rfl (OpJ.pure (OpP.move rfl) ?_)
      refine OpsJ.put rfl (OpJ.pure (OpP.move rfl) ?_)
      refine OpsJ.put rfl (OpJ.pure (OpP.len rfl) ?_)
      refine OpsJ.put rfl (OpJ.pure (OpP.lss rfl rfl) ?_)
      refine OpsJ.nil ?_
      by_cases hc41 : i_25 < ((p0_a.length : Nat) : Int)
      · rw [if_pos hc41] at h36
        refine CodeJ.cond_t rfl (decide_eq_true hc41) ?_
        refine CodeJ.skip ?_
        refine CodeJ.seq' ?_
        refine CodeJ.block ?_
        refine CodeJ.seq' ?_
        refine CodeJ.drawn (by kernel_rfl) (by kernel_rfl) ?_
        refine QuietJ.put rfl (OpQ.pure (OpP.move rfl) ?_)
        refine QuietJ.put rfl (OpQ.pure (OpP.move rfl) ?_)
        obtain ⟨x42, hx43, h44⟩ := bind_ok h36
        clear h36
        have hE45 : RC _ (some ((adr A0_).add (Int.toNat i_25 * Dat.size Int))) [.int .i64 x42] := SlR.getF (α := Int) hA0_ hx43
        refine QuietJ.put rfl (OpQ.pure (OpP.ixR hA0_ rfl hx43 (by exact rfl) (by exact rfl) rfl rfl) ?_)
        refine QuietJ.put rfl (OpQ.pure (OpP.ldR0 (by exact rfl) hE45 (IM.le_refl _) rfl rfl) ?_)
        refine QuietJ.put rfl (OpQ.pure (OpP.move rfl) ?_)
        refine QuietJ.put rfl (OpQ.pure (OpP.move rfl) ?_)
        obtain ⟨x46, hx47, h48⟩ := bind_ok h44
        clear h44
        have hE49 : RC _ (some ((adr A1_).add (Int.toNat i_25 * Dat.size Int))) [.int .i64 x46] := SlR.getF (α := Int) hA1_ hx47
        refine QuietJ.put rfl (OpQ.pure (OpP.ixR hA1_ rfl hx47 (by exact rfl) (by exact rfl) rfl rfl) ?_)
        refine QuietJ.put rfl (OpQ.pure (OpP.ldR0 (by exact rfl) hE49 (IM.le_refl _) rfl rfl) ?_)
        refine QuietJ.put rfl (OpQ.pure (OpP.neq rfl rfl) ?_)
        refine QuietJ.nil ?_
        by_cases hc50 : x42 ≠ x46
        · rw [if_pos hc50] at h48
          refine CodeJ.cond_t rfl (decide_eq_true hc50) ?_
          refine CodeJ.seq' ?_
          refine CodeJ.region ?_
          refine OpsJ.put rfl (OpJ.pure (OpP.assign rfl) ?_)
          refine OpsJ.nil ?_
          obtain rfl := Option.some.inj h48
          have ht51 := hne37 _ rfl
          subst ht51
          simp only [Sum.elim_inl] at h40
          refine CodeJ.ret' ?_
          obtain rfl := Option.some.inj h40
          exact Ret.mk0 ⟨rfl, rfl⟩ (ResJ.one Try.results56 rfl) (IM.le_refl _) (SubL.nil _)
        · rw [if_neg hc50] at h48
          refine CodeJ.cond_f rfl (decide_eq_false hc50) ?_
          refine CodeJ.skip ?_
          refine CodeJ.region ?_
          refine OpsJ.put rfl (OpJ.pure (OpP.move rfl) ?_)
          refine OpsJ.put rfl (OpJ.pure (OpP.add64 rfl rfl) ?_)
          refine OpsJ.put rfl (OpJ.pure (OpP.assign rfl) ?_)
          refine OpsJ.nil ?_
          obtain rfl := Option.some.inj h48
          exact ⟨_, _, _, _, rfl, ⟨rfl, rfl⟩, IM.le_refl _, (SubE.cons rfl (SubE.cons rfl (SubE.cons rfl (SubE.nil _)))), (SubL.nil _)⟩
      · rw [if_neg hc41] at h36
        refine CodeJ.cond_f rfl (decide_eq_false hc41) ?_
        refine CodeJ.exit rfl ?_
        obtain rfl := Option.some.inj h36
        have ht54 := hne37 _ rfl
        exact ⟨_, _, _, ⟨ht54, rfl, rfl⟩, IM.le_refl _, (SubE.nil _), (SubL.nil _)⟩
    · rintro _ _ ⟨rfl, rfl, rfl⟩
      simp only [Sum.elim_inr] at h40
      refine CodeJ.seq' ?_
      refine CodeJ.region ?_
      refine OpsJ.put rfl (OpJ.pure (OpP.assign rfl) ?_)
      refine OpsJ.nil ?_
      refine CodeJ.ret' ?_
      obtain rfl := Option.some.inj h40
      exact Ret.mk0 ⟨rfl, rfl⟩ (ResJ.one Try.results56 rfl) (IM.le_refl _) (SubL.nil _)
theorem winnowerref16_may_w (R : IM) (A0_ : Option Addr) (n0_ c0_ : Nat) (p0_l : List Int) (hA0_ : SlR R A0_ p0_l) (hn0_ : p0_l.length = n0_) (hc0_ : n0_ ≤ c0_) (y : Bool) (h : winnowerref16_may p0_l = some y) :
    CallJ Try.prog 61 #[.slice A0_ n0_ c0_] ⟨R, []⟩ (fun v D hs' => v = .bool y ∧ hs' = []) := by
  subst hn0_
  unfold winnowerref16_may at h
  refine CallJ.of1 Try.func61 rfl Try.ntmps61 rfl (fun W0 => ?_)
  refine CodeJ.seq' ?_
  refine CodeJ.region ?_
  refine OpsJ.put rfl (OpJ.pure (OpP.assign rfl) ?_)
  refine OpsJ.nil ?_
  refine CodeJ.seq' ?_
  refine CodeJ.seq' ?_
  refine CodeJ.region ?_
  refine OpsJ.put rfl (OpJ.pure (OpP.assign rfl) ?_)
  refine OpsJ.nil ?_
  obtain ⟨t29, hl30, h31⟩ := bind_ok h
  clear h
  refine CodeJ.mid (fun e s => .inr () = t29 ∧ e = [(0, .slice A0_ p0_l.length c0_)] ∧ s = ⟨R, []⟩) ?_ ?_
  · refine CodeJ.block ?_
    refine CodeJ.loopM hl30 (fun i_18 e s => e = [(0, .slice A0_ p0_l.length c0_), (3, .int .i64 i_18)] ∧ s = ⟨R, []⟩) ⟨rfl, rfl⟩ (SubE.cons rfl (SubE.cons rfl (SubE.nil _))) (SubL.nil _) ?_
    rintro i_18 _ _ _ ⟨rfl, rfl⟩ h27 hne28
    (try dsimp only at h27); unfold winnowerref16_may_l0 at h27
    refine CodeJ.seq' ?_
    refine CodeJ.seq' ?_
    refine CodeJ.region ?_
    refine OpsJ.put rfl (OpJ.pure (OpP.move rfl) ?_)
    refine OpsJ.put rfl (OpJ.pure (OpP.move rfl) ?_)
    refine OpsJ.put rfl (OpJ.pure (OpP.len rfl) ?_)
    refine OpsJ.put rfl (OpJ.pure (OpP.lss rfl rfl) ?_)
    refine OpsJ.nil ?_
    by_cases hc32 : i_18 < ((p0_l.length : Nat) : Int)
    · rw [if_pos hc32] at h27
      refine CodeJ.cond_t rfl (decide_eq_true hc32) ?_
      refine CodeJ.skip ?_
      refine CodeJ.seq' ?_
      refine CodeJ.block ?_
      refine CodeJ.seq' ?_
      refine CodeJ.region ?_
      refine OpsJ.put rfl (OpJ.pure (OpP.move rfl) ?_)
      refine OpsJ.put rfl (OpJ.pure (OpP.move rfl) ?_)
      obtain ⟨x33, hx34, h35⟩ := bind_ok h27
      clear h27
      have hE36 : RC _ (some ((adr A0_).add (Int.toNat i_18 * Dat.size Int))) [.int .i64 x33] := SlR.getF (α := Int) hA0_ hx34
      refine OpsJ.put rfl (OpJ.pure (OpP.ixR hA0_ rfl hx34 (by exact rfl) (by exact rfl) rfl rfl) ?_)
      refine OpsJ.put rfl (OpJ.pure (OpP.ldR0 (by exact rfl) hE36 (IM.le_refl _) rfl rfl) ?_)
      refine OpsJ.put rfl (OpJ.pure (OpP.lss rfl rfl) ?_)
      refine OpsJ.put rfl (OpJ.pure (OpP.move rfl) ?_)
      by_cases hc37 : x33 < 0
      · rw [if_pos hc37] at h35
        refine OpsJ.guard_n rfl rfl rfl rfl (decide_eq_true hc37) ?_
        refine OpsJ.guard_n rfl rfl rfl rfl (decide_eq_true hc37) ?_
        refine OpsJ.guard_n rfl rfl rfl rfl (decide_eq_true hc37) ?_
        refine OpsJ.guard_n rfl rfl rfl rfl (decide_eq_true hc37) ?_
        refine OpsJ.guard_n rfl rfl rfl rfl (decide_eq_true hc37) ?_
        refine OpsJ.put rfl (OpJ.pure (OpP.pick_t rfl (decide_eq_true hc37) rfl) ?_)
        refine OpsJ.nil ?_
        refine CodeJ.cond_t rfl rfl ?_
        refine CodeJ.seq' ?_
        refine CodeJ.region ?_
        refine OpsJ.put rfl (OpJ.pure (OpP.assign rfl) ?_)
        refine OpsJ.nil ?_
        obtain rfl := Option.some.inj h35
        have ht38 := hne28 _ rfl
        subst ht38
        simp only [Sum.elim_inl] at h31
        refine CodeJ.ret' ?_
        obtain rfl := Option.some.inj h31
        exact Ret.mk0 ⟨rfl, rfl⟩ (ResJ.one Try.results61 rfl) (IM.le_refl _) (SubL.nil _)
      · rw [if_neg hc37] at h35
        refine OpsJ.guard_y rfl rfl rfl rfl (decide_eq_false hc37) ?_
        refine OpsJ.put rfl (OpJ.pure (OpP.move rfl) ?_)
        refine OpsJ.guard_y rfl rfl rfl rfl (decide_eq_false hc37) ?_
        refine OpsJ.put rfl (OpJ.pure (OpP.move rfl) ?_)
        refine OpsJ.guard_y rfl rfl rfl rfl (decide_eq_false hc37) ?_
        have hE41 : RC _ (some ((adr A0_).add (Int.toNat i_18 * Dat.size Int))) [.int .i64 x33] := SlR.getF (α := Int) hA0_ hx34
        refine OpsJ.put rfl (OpJ.pure (OpP.ixR hA0_ rfl hx34 (by exact rfl) (by exact rfl) rfl rfl) ?_)
        refine OpsJ.guard_y rfl rfl rfl rfl (decide_eq_false hc37) ?_
        refine OpsJ.put rfl (OpJ.pure (OpP.ldR0 (by exact rfl) hE41 (IM.le_refl _) rfl rfl) ?_)
        refine OpsJ.guard_y rfl rfl rfl rfl (decide_eq_false hc37) ?_
        refine OpsJ.put rfl (OpJ.pure (OpP.gtr rfl rfl) ?_)
        refine OpsJ.put rfl (OpJ.pure (OpP.pick_f rfl (decide_eq_false hc37) rfl) ?_)
        refine OpsJ.nil ?_
        by_cases hc42 : x33 > 1099511627776
        · rw [if_pos hc42] at h35
          refine CodeJ.cond_t rfl (decide_eq_true hc42) ?_
          refine CodeJ.seq' ?_
          refine CodeJ.region ?_
          refine OpsJ.put rfl (OpJ.pure (OpP.assign rfl) ?_)
          refine OpsJ.nil ?_
          obtain rfl := Option.some.inj h35
          have ht43 := hne28 _ rfl
          subst ht43
          simp only [Sum.elim_inl] at h31
          refine CodeJ.ret' ?_
          obtain rfl := Option.some.inj h31
          exact Ret.mk0 ⟨rfl, rfl⟩ (ResJ.one Try.results61 rfl) (IM.le_refl _) (SubL.nil _)
        · rw [if_neg hc42] at h35
          refine CodeJ.cond_f rfl (decide_eq_false hc42) ?_
          refine CodeJ.skip ?_
          refine CodeJ.region ?_
          refine OpsJ.put rfl (OpJ.pure (OpP.move rfl) ?_)
          refine OpsJ.put rfl (OpJ.pure (OpP.add64 rfl rfl) ?_)
          refine OpsJ.put rfl (OpJ.pure (OpP.assign rfl) ?_)
          refine OpsJ.nil ?_
          obtain rfl := Option.some.inj h35
          exact ⟨_, _, _, _, rfl, ⟨rfl, rfl⟩, IM.le_refl _, (SubE.cons rfl (SubE.cons rfl (SubE.nil _))), (SubL.nil _)⟩
    · rw [if_neg hc32] at h27
      refine CodeJ.cond_f rfl (decide_eq_false hc32) ?_
      refine CodeJ.exit rfl ?_
      obtain rfl := Option.some.inj h27
      have ht46 := hne28 _ rfl
      exact ⟨_, _, _, ⟨ht46, rfl, rfl⟩, IM.le_refl _, (SubE.cons rfl (SubE.nil _)), (SubL.nil _)⟩
  · rintro _ _ ⟨rfl, rfl, rfl⟩
    simp only [Sum.elim_inr] at h31
    refine CodeJ.seq' ?_
    refine CodeJ.region ?_
    refine OpsJ.put rfl (OpJ.pure (OpP.move rfl) ?_)
    refine OpsJ.put rfl (OpJ.pure (OpP.len rfl) ?_)
    refine OpsJ.put rfl (OpJ.pure (OpP.leq rfl rfl) ?_)
    refine OpsJ.put rfl (OpJ.pure (OpP.assign rfl) ?_)
    refine OpsJ.nil ?_
    refine CodeJ.ret' ?_
    obtain rfl := Option.some.inj h31
    exact Ret.mk0 ⟨rfl, rfl⟩ (ResJ.one Try.results61 rfl) (IM.le_refl _) (SubL.nil _)
theorem bytes_Equal_w (R : IM) (A0_ : Option Addr) (n0_ c0_ : Nat) (p0_a : List UInt8) (hA0_ : SlR R A0_ p0_a) (hn0_ : p0_a.length = n0_) (hc0_ : n0_ ≤ c0_) (A1_ : Option Addr) (n1_ c1_ : Nat) (p1_b : List UInt8) (hA1_ : SlR R A1_ p1_b) (hn1_ : p1_b.length = n1_) (hc1_ : n1_ ≤ c1_) (y : Bool) (h : bytes_Equal p0_a p1_b = some y) :
    CallJ Try.prog 63 #[.slice A0_ n0_ c0_, .slice A1_ n1_ c1_] ⟨R, []⟩ (fun v D hs' => v = .bool y ∧ hs' = []) := by
  subst hn0_
  subst hn1_
  unfold bytes_Equal at h
  refine CallJ.of2 Try.func63 rfl Try.ntmps63 rfl (fun W0 => ?_)
  refine CodeJ.seq' ?_
  refine CodeJ.region ?_
  refine OpsJ.put rfl (OpJ.pure (OpP.assign rfl) ?_)
  refine OpsJ.nil ?_
  refine CodeJ.seq' ?_
  refine CodeJ.region ?_
  refine OpsJ.put rfl (OpJ.pure (OpP.move rfl) ?_)
  refine OpsJ.put rfl (OpJ.pure (OpP.strR hA0_ (IM.le_refl _) rfl rfl) ?_)
  refine OpsJ.put rfl (OpJ.pure (OpP.move rfl) ?_)
  refine OpsJ.put rfl (OpJ.pure (OpP.strR hA1_ (IM.le_refl _) rfl rfl) ?_)
  refine OpsJ.put rfl (OpJ.pure (OpP.eql_string rfl rfl) ?_)
  refine OpsJ.put rfl (OpJ.pure (OpP.assign rfl) ?_)
  refine OpsJ.nil ?_
  refine CodeJ.ret' ?_
  obtain rfl := Option.some.inj h
  exact Ret.mk0 ⟨rfl, rfl⟩ (ResJ.one Try.results63 rfl) (IM.le_refl _) (SubL.nil _)
theorem winnowerref16_deltas_w (R : IM) (A0_ : Option Addr) (n0_ c0_ : Nat) (p0_l : List Int) (hA0_ : SlR R A0_ p0_l) (hn0_ : p0_l.length = n0_) (hc0_ : n0_ ≤ c0_) (y : (List Int)) (h : winnowerref16_deltas p0_l = some y) :
    CallJ Try.prog 64 #[.slice A0_ n0_ c0_] ⟨R, []⟩ (fun v D hs' => ∃ (B1 : Option Addr) (d2 : Nat) (ds3 : List Value), v = .slice B1 y.length d2 ∧ repL IM.nil ds3 y ∧ hs' = [.row 3 1 B1 y.length d2 ds3]) := by
  subst hn0_
  unfold winnowerref16_deltas at h
  refine CallJ.of1 Try.func64 rfl Try.ntmps64 rfl (fun W0 => ?_)
  refine CodeJ.seq' ?_
  refine CodeJ.region ?_
  refine OpsJ.put rfl (OpJ.pure (OpP.assign rfl) ?_)
  refine OpsJ.nil ?_
  refine CodeJ.seq' ?_
  refine CodeJ.region ?_
  refine OpsJ.put rfl (OpJ.pure (OpP.assign rfl) ?_)
  refine OpsJ.nil ?_
  refine CodeJ.seq' ?_
  refine CodeJ.region ?_
  refine OpsJ.put rfl (OpJ.pure (OpP.assign rfl) ?_)
  refine OpsJ.nil ?_
  refine CodeJ.seq' ?_
  refine CodeJ.seq' ?_
  refine CodeJ.region ?_
  refine OpsJ.put rfl (OpJ.pure (OpP.assign rfl) ?_)
  refine OpsJ.nil ?_
  refine CodeJ.nilrow 3 1 ?_
  obtain ⟨t142, hl143, h144⟩ := bind_ok h
  clear h
  refine CodeJ.mid (fun e s => ∃ (A135 : Option Addr) (c136 : Nat) (cs137 : List Value) (out_134 : List Int), .inr out_134 = t142 ∧ repL IM.nil cs137 out_134 ∧ e = [(3, .slice A135 out_134.length c136)] ∧ s = ⟨R, [.row 3 1 A135 out_134.length c136 cs137]⟩) ?_ ?_
  · refine CodeJ.block ?_
    refine CodeJ.loopM hl143 (fun (out_88, last_94, i_95) e s => ∃ (A89 : Option Addr) (c90 : Nat) (cs91 : List Value), repL IM.nil cs91 out_88 ∧ e = [(0, .slice A0_ p0_l.length c0_), (3, .slice A89 out_88.length c90), (4, .int .i64 last_94), (5, .int .i64 i_95)] ∧ s = ⟨R, [.row 3 1 A89 out_88.length c90 cs91]⟩) ⟨none, 0, ([] : List Value), (repL_nil IM.nil), rfl, rfl⟩ (SubE.cons rfl (SubE.cons rfl (SubE.cons rfl (SubE.cons rfl (SubE.nil _))))) (SubL.p0 (SubL.nil _)) ?_
    rintro ⟨out_88, last_94, i_95⟩ _ _ _ ⟨A89, c90, cs91, hr92, rfl, rfl⟩ h140 hne141
    (try dsimp only at h140); unfold winnowerref16_deltas_l0 at h140
    refine CodeJ.seq' ?_
    refine CodeJ.seq' ?_
    refine CodeJ.region ?_
    refine OpsJ.put rfl (OpJ.pure (OpP.move rfl) ?_)
    refine OpsJ.put rfl (OpJ.pure (OpP.move rfl) ?_)
    refine OpsJ.put rfl (OpJ.pure (OpP.len rfl) ?_)
    refine OpsJ.put rfl (OpJ.pure (OpP.lss rfl rfl) ?_)
    refine OpsJ.nil ?_
    by_cases hc145 : i_95 < ((p0_l.length : Nat) : Int)
    · rw [if_pos hc145] at h140
      refine CodeJ.cond_t rfl (decide_eq_true hc145) ?_
      refine CodeJ.skip ?_
      refine CodeJ.seq' ?_
      refine CodeJ.block ?_
      refine CodeJ.seq' ?_
      refine CodeJ.seq' ?_
      refine CodeJ.region ?_
      refine OpsJ.put rfl (OpJ.pure (OpP.move rfl) ?_)
      refine OpsJ.put rfl (OpJ.pure (OpP.move rfl) ?_)
      obtain ⟨x146, hx147, h148⟩ := bind_ok h140
      clear h140
      have hE149 : RC _ (some ((adr A0_).add (Int.toNat i_95 * Dat.size Int))) [.int .i64 x146] := SlR.getF (α := Int) hA0_ hx147
      refine OpsJ.put rfl (OpJ.pure (OpP.ixR hA0_ rfl hx147 (by exact rfl) (by exact rfl) rfl rfl) ?_)
      refine OpsJ.put rfl (OpJ.pure (OpP.ldR0 (by exact rfl) hE149 (IM.le_refl _) rfl rfl) ?_)
      refine OpsJ.put rfl (OpJ.pure (OpP.iand rfl rfl) ?_)
      refine OpsJ.put rfl (OpJ.pure (OpP.eql rfl rfl) ?_)
      refine OpsJ.nil ?_
      by_cases hc150 : (iand x146 1) = 0
      · rw [if_pos hc150] at h148
        refine CodeJ.cond_t rfl (decide_eq_true hc150) ?_
        refine CodeJ.region ?_
        refine OpsJ.put rfl (OpJ.pure (OpP.move rfl) ?_)
        refine OpsJ.put rfl (OpJ.pure (OpP.move rfl) ?_)
        refine OpsJ.put rfl (OpJ.pure (OpP.move rfl) ?_)
        have hE151 : RC _ (some ((adr A0_).add (Int.toNat i_95 * Dat.size Int))) [.int .i64 x146] := SlR.getF (α := Int) hA0_ hx147
        refine OpsJ.put rfl (OpJ.pure (OpP.ixR hA0_ rfl hx147 (by exact rfl) (by exact rfl) rfl rfl) ?_)
        refine OpsJ.put rfl (OpJ.pure (OpP.ldR0 (by exact rfl) hE151 (IM.le_refl _) rfl rfl) ?_)
        obtain ⟨q152, hq153, h154⟩ := bind_ok h148
        clear h148
        refine OpsJ.put rfl (OpJ.pure (OpP.quo64 hq153 rfl rfl) ?_)
        refine OpsJ.put rfl (OpJ.pure (OpP.add64 rfl rfl) ?_)
        refine OpsJ.put rfl (OpJ.pure (OpP.assign rfl) ?_)
        refine OpsJ.nil ?_
        refine CodeJ.seq' ?_
        refine CodeJ.seq' ?_
        refine CodeJ.region ?_
        refine OpsJ.put rfl (OpJ.pure (OpP.move rfl) ?_)
        refine OpsJ.put rfl (OpJ.pure (OpP.lss rfl rfl) ?_)
        refine OpsJ.put rfl (OpJ.pure (OpP.move rfl) ?_)
        by_cases hc155 : w64 (last_94 + q152) < 0
        · rw [if_pos hc155] at h154
          refine OpsJ.guard_n rfl rfl rfl rfl (decide_eq_true hc155) ?_
          refine OpsJ.guard_n rfl rfl rfl rfl (decide_eq_true hc155) ?_
          refine OpsJ.put rfl (OpJ.pure (OpP.pick_t rfl (decide_eq_true hc155) rfl) ?_)
          refine OpsJ.nil ?_
          refine CodeJ.cond_t rfl rfl ?_
          refine CodeJ.seq' ?_
          refine CodeJ.region ?_
          refine OpsJ.put rfl (OpJ.pure (OpP.assign rfl) ?_)
          refine OpsJ.nil ?_
          obtain rfl := Option.some.inj h154
          have ht156 := hne141 _ rfl
          subst ht156
          simp only [Sum.elim_inl] at h144
          refine CodeJ.nilrow 3 1 ?_
          refine CodeJ.ret' ?_
          obtain rfl := Option.some.inj h144
          exact Ret.mk0 ⟨none, 0, ([] : List Value), rfl, (repL_nil IM.nil), rfl⟩ (ResJ.one Try.results64 rfl) (IM.le_refl _) (SubL.p0 (SubL.nil _))
        · rw [if_neg hc155] at h154
          refine OpsJ.guard_y rfl rfl rfl rfl (decide_eq_false hc155) ?_
          refine OpsJ.put rfl (OpJ.pure (OpP.move rfl) ?_)
          refine OpsJ.guard_y rfl rfl rfl rfl (decide_eq_false hc155) ?_
          refine OpsJ.put rfl (OpJ.pure (OpP.gtr rfl rfl) ?_)
          refine OpsJ.put rfl (OpJ.pure (OpP.pick_f rfl (decide_eq_false hc155) rfl) ?_)
          refine OpsJ.nil ?_
          by_cases hc160 : w64 (last_94 + q152) > 1099511627776
          · rw [if_pos hc160] at h154
            refine CodeJ.cond_t rfl (decide_eq_true hc160) ?_
            refine CodeJ.seq' ?_
            refine CodeJ.region ?_
            refine OpsJ.put rfl (OpJ.pure (OpP.assign rfl) ?_)
            refine OpsJ.nil ?_
            obtain rfl := Option.some.inj h154
            have ht161 := hne141 _ rfl
            subst ht161
            simp only [Sum.elim_inl] at h144
            refine CodeJ.nilrow 3 1 ?_
            refine CodeJ.ret' ?_
            obtain rfl := Option.some.inj h144
            exact Ret.mk0 ⟨none, 0, ([] : List Value), rfl, (repL_nil IM.nil), rfl⟩ (ResJ.one Try.results64 rfl) (IM.le_refl _) (SubL.p0 (SubL.nil _))
          · rw [if_neg hc160] at h154
            refine CodeJ.cond_f rfl (decide_eq_false hc160) ?_
            refine CodeJ.skip ?_
            refine CodeJ.region ?_
            refine OpsJ.put rfl (OpJ.pure (OpP.move rfl) ?_)
            refine OpsJ.put rfl (OpJ.pure (OpP.move rfl) ?_)
            have hr166 : repL IM.nil [.int .i64 (w64 (last_94 + q152))] ([w64 (last_94 + q152)] : List Int) := (repL_cons (c1 := [.int .i64 (w64 (last_94 + q152))]) (show Dat.rep _ _ (w64 (last_94 + q152)) from rfl) (repL_nil _))
            refine OpsJ.put rfl (OpJ.buildSliceC (cs := [.int .i64 (w64 (last_94 + q152))]) rfl rfl (by exact rfl) (by exact rfl) (by exact rfl) (by exact rfl) (fun g165 => ?_))
            obtain ⟨q168, hq169, h170⟩ := bind_ok h154
            clear h154
            have hr173 : repL IM.nil (cs91 ++ ([.int .i64 (w64 (last_94 + q152))] : List Value)) q168 := app_rep hq169 hr92 hr166
            refine OpsJ.put rfl (OpJ.appW hq169 rfl rfl (Src.ofRow (List.Mem.head _)) hr166 (by exact rfl) (List.Perm.swap _ _ _) (by exact rfl) (by exact rfl) (by exact rfl) rfl rfl (fun A171 c172 => ?_))
            refine OpsJ.put rfl (OpJ.pure (OpP.assign rfl) ?_)
            refine OpsJ.nil ?_
            refine CodeJ.region ?_
            refine OpsJ.put rfl (OpJ.pure (OpP.move rfl) ?_)
            refine OpsJ.put rfl (OpJ.pure (OpP.add64 rfl rfl) ?_)
            refine OpsJ.put rfl (OpJ.pure (OpP.assign rfl) ?_)
            refine OpsJ.nil ?_
            obtain rfl := Option.some.inj h170
            exact ⟨_, _, _, _, rfl, ⟨A171, c172, (cs91 ++ ([.int .i64 (w64 (last_94 + q152))] : List Value)), hr173, rfl, rfl⟩, IM.le_refl _, (SubE.cons rfl (SubE.cons rfl (SubE.cons rfl (SubE.cons rfl (SubE.nil _))))), (SubL.p0 (SubL.nil _))⟩
      · rw [if_neg hc150] at h148
        refine CodeJ.cond_f rfl (decide_eq_false hc150) ?_
        refine CodeJ.region ?_
        refine OpsJ.put rfl (OpJ.pure (OpP.move rfl) ?_)
        refine OpsJ.put rfl (OpJ.pure (OpP.move rfl) ?_)
        refine OpsJ.put rfl (OpJ.pure (OpP.move rfl) ?_)
        have hE175 : RC _ (some ((adr A0_).add (Int.toNat i_95 * Dat.size Int))) [.int .i64 x146] := SlR.getF (α := Int) hA0_ hx147
        refine OpsJ.put rfl (OpJ.pure (OpP.ixR hA0_ rfl hx147 (by exact rfl) (by exact rfl) rfl rfl) ?_)
        refine OpsJ.put rfl (OpJ.pure (OpP.ldR0 (by exact rfl) hE175 (IM.le_refl _) rfl rfl) ?_)
        obtain ⟨q176, hq177, h178⟩ := bind_ok h148
        clear h148
        refine OpsJ.put rfl (OpJ.pure (OpP.quo64 hq177 rfl rfl) ?_)
        refine OpsJ.put rfl (OpJ.pure (OpP.sub64 rfl rfl) ?_)
        refine OpsJ.put rfl (OpJ.pure (OpP.sub64 rfl rfl) ?_)
        refine OpsJ.put rfl (OpJ.pure (OpP.assign rfl) ?_)
        refine OpsJ.nil ?_
        refine CodeJ.seq' ?_
        refine CodeJ.seq' ?_
        refine CodeJ.region ?_
        refine OpsJ.put rfl (OpJ.pure (OpP.move rfl) ?_)
        refine OpsJ.put rfl (OpJ.pure (OpP.lss rfl rfl) ?_)
        refine OpsJ.put rfl (OpJ.pure (OpP.move rfl) ?_)
        by_cases hc179 : w64 (w64 (last_94 - q176) - 1) < 0
        · rw [if_pos hc179] at h178
          refine OpsJ.guard_n rfl rfl rfl rfl (decide_eq_true hc179) ?_
          refine OpsJ.guard_n rfl rfl rfl rfl (decide_eq_true hc179) ?_
          refine OpsJ.put rfl (OpJ.pure (OpP.pick_t rfl (decide_eq_true hc179) rfl) ?_)
          refine OpsJ.nil ?_
          refine CodeJ.cond_t rfl rfl ?_
          refine CodeJ.seq' ?_
          refine CodeJ.region ?_
          refine OpsJ.put rfl (OpJ.pure (OpP.assign rfl) ?_)
          refine OpsJ.nil ?_
          obtain rfl := Option.some.inj h178
          have ht180 := hne141 _ rfl
          subst ht180
          simp only [Sum.elim_inl] at h144
          refine CodeJ.nilrow 3 1 ?_
          refine CodeJ.ret' ?_
          obtain rfl := Option.some.inj h144
          exact Ret.mk0 ⟨none, 0, ([] : List Value), rfl, (repL_nil IM.nil), rfl⟩ (ResJ.one Try.results64 rfl) (IM.le_refl _) (SubL.p0 (SubL.nil _))
        · rw [if_neg hc179] at h178
          refine OpsJ.guard_y rfl rfl rfl rfl (decide_eq_false hc179) ?_
          refine OpsJ.put rfl (OpJ.pure (OpP.move rfl) ?_)
          refine OpsJ.guard_y rfl rfl rfl rfl (decide_eq_false hc179) ?_
          refine OpsJ.put rfl (OpJ.pure (OpP.gtr rfl rfl) ?_)
          refine OpsJ.put rfl (OpJ.pure (OpP.pick_f rfl (decide_eq_false hc179) rfl) ?_)
          refine OpsJ.nil ?_
          by_cases hc184 : w64 (w64 (last_94 - q176) - 1) > 1099511627776
          · rw [if_pos hc184] at h178
            refine CodeJ.cond_t rfl (decide_eq_true hc184) ?_
            refine CodeJ.seq' ?_
            refine CodeJ.region ?_
            refine OpsJ.put rfl (OpJ.pure (OpP.assign rfl) ?_)
            refine OpsJ.nil ?_
            obtain rfl := Option.some.inj h178
            have ht185 := hne141 _ rfl
            subst ht185
            simp only [Sum.elim_inl] at h144
            refine CodeJ.nilrow 3 1 ?_
            refine CodeJ.ret' ?_
            obtain rfl := Option.some.inj h144
            exact Ret.mk0 ⟨none, 0, ([] : List Value), rfl, (repL_nil IM.nil), rfl⟩ (ResJ.one Try.results64 rfl) (IM.le_refl _) (SubL.p0 (SubL.nil _))
          · rw [if_neg hc184] at h178
            refine CodeJ.cond_f rfl (decide_eq_false hc184) ?_
            refine CodeJ.skip ?_
            refine CodeJ.region ?_
            refine OpsJ.put rfl (OpJ.pure (OpP.move rfl) ?_)
            refine OpsJ.put rfl (OpJ.pure (OpP.move rfl) ?_)
            have hr190 : repL IM.nil [.int .i64 (w64 (w64 (last_94 - q176) - 1))] ([w64 (w64 (last_94 - q176) - 1)] : List Int) := (repL_cons (c1 := [.int .i64 (w64 (w64 (last_94 - q176) - 1))]) (show Dat.rep _ _ (w64 (w64 (last_94 - q176) - 1)) from rfl) (repL_nil _))
            refine OpsJ.put rfl (OpJ.buildSliceC (cs := [.int .i64 (w64 (w64 (last_94 - q176) - 1))]) rfl rfl (by exact rfl) (by exact rfl) (by exact rfl) (by exact rfl) (fun g189 => ?_))
            obtain ⟨q192, hq193, h194⟩ := bind_ok h178
            clear h178
            have hr197 : repL IM.nil (cs91 ++ ([.int .i64 (w64 (w64 (last_94 - q176) - 1))] : List Value)) q192 := app_rep hq193 hr92 hr190
            refine OpsJ.put rfl (OpJ.appW hq193 rfl rfl (Src.ofRow (List.Mem.head _)) hr190 (by exact rfl) (List.Perm.swap _ _ _) (by exact rfl) (by exact rfl) (by exact rfl) rfl rfl (fun A195 c196 => ?_))
            refine OpsJ.put rfl (OpJ.pure (OpP.assign rfl) ?_)
            refine OpsJ.nil ?_
            refine CodeJ.region ?_
            refine OpsJ.put rfl (OpJ.pure (OpP.move rfl) ?_)
            refine OpsJ.put rfl (OpJ.pure (OpP.add64 rfl rfl) ?_)
            refine OpsJ.put rfl (OpJ.pure (OpP.assign rfl) ?_)
            refine OpsJ.nil ?_
            obtain rfl := Option.some.inj h194
            exact ⟨_, _, _, _, rfl, ⟨A195, c196, (cs91 ++ ([.int .i64 (w64 (w64 (last_94 - q176) - 1))] : List Value)), hr197, rfl, rfl⟩, IM.le_refl _, (SubE.cons rfl (SubE.cons rfl (SubE.cons rfl (SubE.cons rfl (SubE.nil _))))), (SubL.p0 (SubL.nil _))⟩
    · rw [if_neg hc145] at h140
      refine CodeJ.cond_f rfl (decide_eq_false hc145) ?_
      refine CodeJ.exit rfl ?_
      obtain rfl := Option.some.inj h140
      have ht199 := hne141 _ rfl
      exact ⟨_, _, _, ⟨A89, c90, cs91, out_88, ht199, hr92, rfl, rfl⟩, IM.le_refl _, (SubE.cons rfl (SubE.nil _)), (SubL.p0 (SubL.nil _))⟩
  · rintro _ _ ⟨A135, c136, cs137, out_134, rfl, hr138, rfl, rfl⟩
    simp only [Sum.elim_inr] at h144
    refine CodeJ.seq' ?_
    refine CodeJ.region ?_
    refine OpsJ.put rfl (OpJ.pure (OpP.move rfl) ?_)
    refine OpsJ.put rfl (OpJ.pure (OpP.assign rfl) ?_)
    refine OpsJ.nil ?_
    refine CodeJ.ret' ?_
    obtain rfl := Option.some.inj h144
    exact Ret.mk0 ⟨A135, c136, cs137, rfl, hr138, rfl⟩ (ResJ.one Try.results64 rfl) (IM.le_refl _) (SubL.p0 (SubL.nil _))
theorem winnowerref16_runs_w (R : IM) (A0_ : Option Addr) (n0_ c0_ : Nat) (p0_l : List Int) (hA0_ : SlR R A0_ p0_l) (hn0_ : p0_l.length = n0_) (hc0_ : n0_ ≤ c0_) (y : (List Int) × Bool) (h : winnowerref16_runs p0_l = some y) :
    CallJ Try.prog 65 #[.slice A0_ n0_ c0_] ⟨R, []⟩ (fun v D hs' => ∃ (B1 : Option Addr) (d2 : Nat) (ds3 : List Value), v = .tuple #[.slice B1 y.1.length d2, .bool y.2] ∧ repL IM.nil ds3 y.1 ∧ hs' = [.row 3 1 B1 y.1.length d2 ds3]) := by
  subst hn0_
  unfold winnowerref16_runs at h
  refine CallJ.of1 Try.func65 rfl Try.ntmps65 rfl (fun W0 => ?_)
  refine CodeJ.seq' ?_
  refine CodeJ.region ?_
  refine OpsJ.put rfl (OpJ.pure (OpP.assign rfl) ?_)
  refine OpsJ.put rfl (OpJ.pure (OpP.assign rfl) ?_)
  refine OpsJ.nil ?_
  refine CodeJ.seq' ?_
  refine CodeJ.region ?_
  refine OpsJ.put rfl (OpJ.pure (OpP.assign rfl) ?_)
  refine OpsJ.nil ?_
  refine CodeJ.seq' ?_
  refine CodeJ.seq' ?_
  refine CodeJ.region ?_
  refine OpsJ.put rfl (OpJ.pure (OpP.assign rfl) ?_)
  refine OpsJ.nil ?_
  refine CodeJ.nilrow 3 1 ?_
  obtain ⟨t320, hl321, h322⟩ := bind_ok h
  clear h
  refine CodeJ.mid (fun e s => ∃ (A313 : Option Addr) (c314 : Nat) (cs315 : List Value) (out_312 : List Int), .inr out_312 = t320 ∧ repL IM.nil cs315 out_312 ∧ e = [(4, .slice A313 out_312.length c314)] ∧ s = ⟨R, [.row 3 1 A313 out_312.length c314 cs315]⟩) ?_ ?_
  · refine CodeJ.block ?_
    refine CodeJ.loopM hl321 (fun (out_207, i_213) e s => ∃ (A208 : Option Addr) (c209 : Nat) (cs210 : List Value), repL IM.nil cs210 out_207 ∧ e = [(0, .slice A0_ p0_l.length c0_), (4, .slice A208 out_207.length c209), (5, .int .i64 i_213)] ∧ s = ⟨R, [.row 3 1 A208 out_207.length c209 cs210]⟩) ⟨none, 0, ([] : List Value), (repL_nil IM.nil), rfl, rfl⟩ (SubE.cons rfl (SubE.cons rfl (SubE.cons rfl (SubE.nil _)))) (SubL.p0 (SubL.nil _)) ?_
    rintro ⟨out_207, i_213⟩ _ _ _ ⟨A208, c209, cs210, hr211, rfl, rfl⟩ h318 hne319
    (try dsimp only at h318); unfold winnowerref16_runs_l1 at h318
    refine CodeJ.seq' ?_
    refine CodeJ.seq' ?_
    refine CodeJ.region ?_
    refine OpsJ.put rfl (OpJ.pure (OpP.move rfl) ?_)
    refine OpsJ.put rfl (OpJ.pure (OpP.add64 rfl rfl) ?_)
    refine OpsJ.put rfl (OpJ.pure (OpP.move rfl) ?_)
    refine OpsJ.put rfl (OpJ.pure (OpP.len rfl) ?_)
    refine OpsJ.put rfl (OpJ.pure (OpP.lss rfl rfl) ?_)
    refine OpsJ.nil ?_
    by_cases hc323 : w64 (i_213 + 1) < ((p0_l.length : Nat) : Int)
    · rw [if_pos hc323] at h318
      refine CodeJ.cond_t rfl (decide_eq_true hc323) ?_
      refine CodeJ.skip ?_
      refine CodeJ.seq' ?_
      refine CodeJ.block ?_
      refine CodeJ.seq' ?_
      refine CodeJ.seq' ?_
      refine CodeJ.region ?_
      refine OpsJ.put rfl (OpJ.pure (OpP.move rfl) ?_)
      refine OpsJ.put rfl (OpJ.pure (OpP.move rfl) ?_)
      obtain ⟨x324, hx325, h326⟩ := bind_ok h318
      clear h318
      have hE327 : RC _ (some ((adr A0_).add (Int.toNat i_213 * Dat.size Int))) [.int .i64 x324] := SlR.getF (α := Int) hA0_ hx325
      refine OpsJ.put rfl (OpJ.pure (OpP.ixR hA0_ rfl hx325 (by exact rfl) (by exact rfl) rfl rfl) ?_)
      refine OpsJ.put rfl (OpJ.pure (OpP.ldR0 (by exact rfl) hE327 (IM.le_refl _) rfl rfl) ?_)
      refine OpsJ.put rfl (OpJ.pure (OpP.gtr rfl rfl) ?_)
      refine OpsJ.put rfl (OpJ.pure (OpP.move rfl) ?_)
      by_cases hc328 : x324 > 32768
      · rw [if_pos hc328] at h326
        refine OpsJ.guard_n rfl rfl rfl rfl (decide_eq_true hc328) ?_
        refine OpsJ.guard_n rfl rfl rfl rfl (decide_eq_true hc328) ?_
        refine OpsJ.guard_n rfl rfl rfl rfl (decide_eq_true hc328) ?_
        refine OpsJ.guard_n rfl rfl rfl rfl (decide_eq_true hc328) ?_
        refine OpsJ.guard_n rfl rfl rfl rfl (decide_eq_true hc328) ?_
        refine OpsJ.guard_n rfl rfl rfl rfl (decide_eq_true hc328) ?_
        refine OpsJ.guard_n rfl rfl rfl rfl (decide_eq_true hc328) ?_
        refine OpsJ.guard_n rfl rfl rfl rfl (decide_eq_true hc328) ?_
        refine OpsJ.put rfl (OpJ.pure (OpP.pick_t rfl (decide_eq_true hc328) rfl) ?_)
        refine OpsJ.nil ?_
        refine CodeJ.cond_t rfl rfl ?_
        refine CodeJ.seq' ?_
        refine CodeJ.region ?_
        refine OpsJ.put rfl (OpJ.pure (OpP.assign rfl) ?_)
        refine OpsJ.put rfl (OpJ.pure (OpP.assign rfl) ?_)
        refine OpsJ.nil ?_
        obtain rfl := Option.some.inj h326
        have ht329 := hne319 _ rfl
        subst ht329
        simp only [Sum.elim_inl] at h322
        refine CodeJ.nilrow 3 1 ?_
        refine CodeJ.ret' ?_
        obtain rfl := Option.some.inj h322
        exact Ret.mk0 ⟨none, 0, ([] : List Value), rfl, (repL_nil IM.nil), rfl⟩ (ResJ.two Try.results65 rfl rfl) (IM.le_refl _) (SubL.p0 (SubL.nil _))
      · rw [if_neg hc328] at h326
        refine OpsJ.guard_y rfl rfl rfl rfl (decide_eq_false hc328) ?_
        refine OpsJ.put rfl (OpJ.pure (OpP.move rfl) ?_)
        refine OpsJ.guard_y rfl rfl rfl rfl (decide_eq_false hc328) ?_
        refine OpsJ.put rfl (OpJ.pure (OpP.len rfl) ?_)
        refine OpsJ.guard_y rfl rfl rfl rfl (decide_eq_false hc328) ?_
        refine OpsJ.put rfl (OpJ.pure (OpP.move rfl) ?_)
        refine OpsJ.guard_y rfl rfl rfl rfl (decide_eq_false hc328) ?_
        refine OpsJ.put rfl (OpJ.pure (OpP.move rfl) ?_)
        refine OpsJ.guard_y rfl rfl rfl rfl (decide_eq_false hc328) ?_
        have hE333 : RC _ (some ((adr A0_).add (Int.toNat i_213 * Dat.size Int))) [.int .i64 x324] := SlR.getF (α := Int) hA0_ hx325
        refine OpsJ.put rfl (OpJ.pure (OpP.ixR hA0_ rfl hx325 (by exact rfl) (by exact rfl) rfl rfl) ?_)
        refine OpsJ.guard_y rfl rfl rfl rfl (decide_eq_false hc328) ?_
        refine OpsJ.put rfl (OpJ.pure (OpP.ldR0 (by exact rfl) hE333 (IM.le_refl _) rfl rfl) ?_)
        refine OpsJ.guard_y rfl rfl rfl rfl (decide_eq_false hc328) ?_
        refine OpsJ.put rfl (OpJ.pure (OpP.add64 rfl rfl) ?_)
        refine OpsJ.guard_y rfl rfl rfl rfl (decide_eq_false hc328) ?_
        refine OpsJ.put rfl (OpJ.pure (OpP.gtr rfl rfl) ?_)
        refine OpsJ.put rfl (OpJ.pure (OpP.pick_f rfl (decide_eq_false hc328) rfl) ?_)
        refine OpsJ.nil ?_
        by_cases hc334 : w64 (((out_207.length : Nat) : Int) + x324) > 32768
        · rw [if_pos hc334] at h326
          refine CodeJ.cond_t rfl (decide_eq_true hc334) ?_
          refine CodeJ.seq' ?_
          refine CodeJ.region ?_
          refine OpsJ.put rfl (OpJ.pure (OpP.assign rfl) ?_)
          refine OpsJ.put rfl (OpJ.pure (OpP.assign rfl) ?_)
          refine OpsJ.nil ?_
          obtain rfl := Option.some.inj h326
          have ht335 := hne319 _ rfl
          subst ht335
          simp only [Sum.elim_inl] at h322
          refine CodeJ.nilrow 3 1 ?_
          refine CodeJ.ret' ?_
          obtain rfl := Option.some.inj h322
          exact Ret.mk0 ⟨none, 0, ([] : List Value), rfl, (repL_nil IM.nil), rfl⟩ (ResJ.two Try.results65 rfl rfl) (IM.le_refl _) (SubL.p0 (SubL.nil _))
        · rw [if_neg hc334] at h326
          refine CodeJ.cond_f rfl (decide_eq_false hc334) ?_
          refine CodeJ.skip ?_
          refine CodeJ.seq' ?_
          refine CodeJ.region ?_
          refine OpsJ.put rfl (OpJ.pure (OpP.assign rfl) ?_)
          refine OpsJ.nil ?_
          obtain ⟨t409, hl410, h411⟩ := bind_ok h326
          clear h326
          refine CodeJ.mid (fun e s => ∃ (A402 : Option Addr) (c403 : Nat) (cs404 : List Value) (out_401 : List Int), out_401 = t409 ∧ repL IM.nil cs404 out_401 ∧ e = [(0, .slice A0_ p0_l.length c0_), (4, .slice A402 out_401.length c403), (5, .int .i64 i_213)] ∧ s = ⟨R, [.row 3 1 A402 out_401.length c403 cs404]⟩) ?_ ?_
          · refine CodeJ.block ?_
            refine CodeJ.loopM hl410 (fun (out_378, k_384) e s => ∃ (A379 : Option Addr) (c380 : Nat) (cs381 : List Value), repL IM.nil cs381 out_378 ∧ e = [(0, .slice A0_ p0_l.length c0_), (4, .slice A379 out_378.length c380), (5, .int .i64 i_213), (6, .int .i64 k_384)] ∧ s = ⟨R, [.row 3 1 A379 out_378.length c380 cs381]⟩) ⟨A208, c209, cs210, hr211, rfl, rfl⟩ (SubE.cons rfl (SubE.cons rfl (SubE.cons rfl (SubE.cons rfl (SubE.nil _))))) (SubL.p0 (SubL.nil _)) ?_
            rintro ⟨out_378, k_384⟩ _ _ _ ⟨A379, c380, cs381, hr382, rfl, rfl⟩ h407 hne408
            (try dsimp only at h407); unfold winnowerref16_runs_l0 at h407
            refine CodeJ.seq' ?_
            refine CodeJ.seq' ?_
            refine CodeJ.region ?_
            refine OpsJ.put rfl (OpJ.pure (OpP.move rfl) ?_)
            refine OpsJ.put rfl (OpJ.pure (OpP.move rfl) ?_)
            refine OpsJ.put rfl (OpJ.pure (OpP.move rfl) ?_)
            have hE412 : RC _ (some ((adr A0_).add (Int.toNat i_213 * Dat.size Int))) [.int .i64 x324] := SlR.getF (α := Int) hA0_ hx325
            refine OpsJ.put rfl (OpJ.pure (OpP.ixR hA0_ rfl hx325 (by exact rfl) (by exact rfl) rfl rfl) ?_)
            refine OpsJ.put rfl (OpJ.pure (OpP.ldR0 (by exact rfl) hE412 (IM.le_refl _) rfl rfl) ?_)
            refine OpsJ.put rfl (OpJ.pure (OpP.lss rfl rfl) ?_)
            refine OpsJ.nil ?_
            by_cases hc413 : k_384 < x324
            · rw [if_pos hc413] at h407
              refine CodeJ.cond_t rfl (decide_eq_true hc413) ?_
              refine CodeJ.skip ?_
              refine CodeJ.seq' ?_
              refine CodeJ.block ?_
              refine CodeJ.region ?_
              refine OpsJ.put rfl (OpJ.pure (OpP.move rfl) ?_)
              refine OpsJ.put rfl (OpJ.pure (OpP.move rfl) ?_)
              refine OpsJ.put rfl (OpJ.pure (OpP.move rfl) ?_)
              refine OpsJ.put rfl (OpJ.pure (OpP.add64 rfl rfl) ?_)
              obtain ⟨x414, hx415, h416⟩ := bind_ok h407
              clear h407
              have hE417 : RC _ (some ((adr A0_).add (Int.toNat (w64 (i_213 + 1)) * Dat.size Int))) [.int .i64 x414] := SlR.getF (α := Int) hA0_ hx415
              refine OpsJ.put rfl (OpJ.pure (OpP.ixR hA0_ rfl hx415 (by exact rfl) (by exact rfl) rfl rfl) ?_)
              refine OpsJ.put rfl (OpJ.pure (OpP.ldR0 (by exact rfl) hE417 (IM.le_refl _) rfl rfl) ?_)
              have hr419 : repL IM.nil [.int .i64 x414] ([x414] : List Int) := (repL_cons (c1 := [.int .i64 x414]) (show Dat.rep _ _ x414 from rfl) (repL_nil _))
              refine OpsJ.put rfl (OpJ.buildSliceC (cs := [.int .i64 x414]) rfl rfl (by exact rfl) (by exact rfl) (by exact rfl) (by exact rfl) (fun g418 => ?_))
              obtain ⟨q421, hq422, h423⟩ := bind_ok h416
              clear h416
              have hr426 : repL IM.nil (cs381 ++ ([.int .i64 x414] : List Value)) q421 := app_rep hq422 hr382 hr419
              refine OpsJ.put rfl (OpJ.appW hq422 rfl rfl (Src.ofRow (List.Mem.head _)) hr419 (by exact rfl) (List.Perm.swap _ _ _) (by exact rfl) (by exact rfl) (by exact rfl) rfl rfl (fun A424 c425 => ?_))
              refine OpsJ.put rfl (OpJ.pure (OpP.assign rfl) ?_)
              refine OpsJ.nil ?_
              refine CodeJ.region ?_
              refine OpsJ.put rfl (OpJ.pure (OpP.move rfl) ?_)
              refine OpsJ.put rfl (OpJ.pure (OpP.add64 rfl rfl) ?_)
              refine OpsJ.put rfl (OpJ.pure (OpP.assign rfl) ?_)
              refine OpsJ.nil ?_
              obtain rfl := Option.some.inj h423
              exact ⟨_, _, _, _, rfl, ⟨A424, c425, (cs381 ++ ([.int .i64 x414] : List Value)), hr426, rfl, rfl⟩, IM.le_refl _, (SubE.cons rfl (SubE.cons rfl (SubE.cons rfl (SubE.cons rfl (SubE.nil _))))), (SubL.p0 (SubL.nil _))⟩
            · rw [if_neg hc413] at h407
              refine CodeJ.cond_f rfl (decide_eq_false hc413) ?_
              refine CodeJ.exit rfl ?_
              obtain rfl := Option.some.inj h407
              have ht428 := hne408 _ rfl
              exact ⟨_, _, _, ⟨A379, c380, cs381, out_378, ht428, hr382, rfl, rfl⟩, IM.le_refl _, (SubE.cons rfl (SubE.cons rfl (SubE.cons rfl (SubE.nil _)))), (SubL.p0 (SubL.nil _))⟩
          · rintro _ _ ⟨A402, c403, cs404, out_401, rfl, hr405, rfl, rfl⟩
            (try dsimp only at h411)
            refine CodeJ.region ?_
            refine OpsJ.put rfl (OpJ.pure (OpP.move rfl) ?_)
            refine OpsJ.put rfl (OpJ.pure (OpP.add64 rfl rfl) ?_)
            refine OpsJ.put rfl (OpJ.pure (OpP.assign rfl) ?_)
            refine OpsJ.nil ?_
            obtain rfl := Option.some.inj h411
            exact ⟨_, _, _, _, rfl, ⟨A402, c403, cs404, hr405, rfl, rfl⟩, IM.le_refl _, (SubE.cons rfl (SubE.cons rfl (SubE.cons rfl (SubE.nil _)))), (SubL.p0 (SubL.nil _))⟩
    · rw [if_neg hc323] at h318
      refine CodeJ.cond_f rfl (decide_eq_false hc323) ?_
      refine CodeJ.exit rfl ?_
      obtain rfl := Option.some.inj h318
      have ht429 := hne319 _ rfl
      exact ⟨_, _, _, ⟨A208, c209, cs210, out_207, ht429, hr211, rfl, rfl⟩, IM.le_refl _, (SubE.cons rfl (SubE.nil _)), (SubL.p0 (SubL.nil _))⟩
  · rintro _ _ ⟨A313, c314, cs315, out_312, rfl, hr316, rfl, rfl⟩
    simp only [Sum.elim_inr] at h322
    refine CodeJ.seq' ?_
    refine CodeJ.region ?_
    refine OpsJ.put rfl (OpJ.pure (OpP.move rfl) ?_)
    refine OpsJ.put rfl (OpJ.pure (OpP.assign rfl) ?_)
    refine OpsJ.put rfl (OpJ.pure (OpP.assign rfl) ?_)
    refine OpsJ.nil ?_
    refine CodeJ.ret' ?_
    obtain rfl := Option.some.inj h322
    exact Ret.mk0 ⟨A313, c314, cs315, rfl, hr316, rfl⟩ (ResJ.two Try.results65 rfl rfl) (IM.le_refl _) (SubL.p0 (SubL.nil _))
theorem pack_may_w (R : IM) (A0_ : Option Addr) (n0_ c0_ : Nat) (p0_l : List Int) (hA0_ : SlR R A0_ p0_l) (hn0_ : p0_l.length = n0_) (hc0_ : n0_ ≤ c0_) (y : Bool) (h : pack_may p0_l = some y) :
    CallJ Try.prog 67 #[.slice A0_ n0_ c0_] ⟨R, []⟩ (fun v D hs' => v = .bool y ∧ hs' = []) := by
  subst hn0_
  unfold pack_may at h
  refine CallJ.of1 Try.func67 rfl Try.ntmps67 rfl (fun W0 => ?_)
  refine CodeJ.seq' ?_
  refine CodeJ.region ?_
  refine OpsJ.put rfl (OpJ.pure (OpP.assign rfl) ?_)
  refine OpsJ.nil ?_
  refine CodeJ.seq' ?_
  refine CodeJ.seq' ?_
  refine CodeJ.region ?_
  refine OpsJ.put rfl (OpJ.pure (OpP.move rfl) ?_)
  refine OpsJ.put rfl (OpJ.pure (OpP.len rfl) ?_)
  refine OpsJ.put rfl (OpJ.pure (OpP.gtr rfl rfl) ?_)
  refine OpsJ.nil ?_
  by_cases hc1 : ((p0_l.length : Nat) : Int) > 32768
  · rw [if_pos hc1] at h
    refine CodeJ.cond_t rfl (decide_eq_true hc1) ?_
    refine CodeJ.seq' ?_
    refine CodeJ.region ?_
    refine OpsJ.put rfl (OpJ.pure (OpP.assign rfl) ?_)
    refine OpsJ.nil ?_
    refine CodeJ.ret' ?_
    obtain rfl := Option.some.inj h
    exact Ret.mk0 ⟨rfl, rfl⟩ (ResJ.one Try.results67 rfl) (IM.le_refl _) (SubL.nil _)
  · rw [if_neg hc1] at h
    refine CodeJ.cond_f rfl (decide_eq_false hc1) ?_
    refine CodeJ.skip ?_
    refine CodeJ.seq' ?_
    refine CodeJ.seq' ?_
    refine CodeJ.region ?_
    refine OpsJ.put rfl (OpJ.pure (OpP.move rfl) ?_)
    refine OpsJ.put rfl (OpJ.pure (OpP.len rfl) ?_)
    refine OpsJ.put rfl (OpJ.pure (OpP.move rfl) ?_)
    refine OpsJ.nil ?_
    obtain ⟨t29, hl30, h31⟩ := bind_ok h
    clear h
    refine CodeJ.mid (fun e s => .inr () = t29 ∧ e = [] ∧ s = ⟨R, []⟩) ?_ ?_
    · refine CodeJ.block ?_
      refine CodeJ.loopM hl30 (fun v19 e s => e = [(8, .slice A0_ p0_l.length c0_), (9, .int .i64 ((p0_l.length : Nat) : Int)), (10, .int .i64 v19)] ∧ s = ⟨R, []⟩) ⟨rfl, rfl⟩ (SubE.cons rfl (SubE.cons rfl (SubE.cons rfl (SubE.nil _)))) (SubL.nil _) ?_
      rintro v19 _ _ _ ⟨rfl, rfl⟩ h27 hne28
      (try dsimp only at h27); unfold pack_may_l0 at h27
      refine CodeJ.seq' ?_
      refine CodeJ.region ?_
      refine OpsJ.put rfl (OpJ.pure (OpP.lss rfl rfl) ?_)
      refine OpsJ.nil ?_
      refine CodeJ.seq' ?_
      by_cases hc32 : v19 < ((p0_l.length : Nat) : Int)
      · rw [if_pos hc32] at h27
        refine CodeJ.cond_t rfl (decide_eq_true hc32) ?_
        refine CodeJ.skip ?_
        refine CodeJ.seq' ?_
        refine CodeJ.block ?_
        refine CodeJ.seq' ?_
        refine CodeJ.region ?_
        obtain ⟨x33, hx34, h35⟩ := bind_ok h27
        clear h27
        have hE36 : RC _ (some ((adr A0_).add (Int.toNat v19 * Dat.size Int))) [.int .i64 x33] := SlR.getF (α := Int) hA0_ hx34
        refine OpsJ.put rfl (OpJ.pure (OpP.ixR hA0_ rfl hx34 (by exact rfl) (by exact rfl) rfl rfl) ?_)
        refine OpsJ.put rfl (OpJ.pure (OpP.ldR0 (by exact rfl) hE36 (IM.le_refl _) rfl rfl) ?_)
        refine OpsJ.put rfl (OpJ.pure (OpP.assign rfl) ?_)
        refine OpsJ.nil ?_
        refine CodeJ.seq' ?_
        refine CodeJ.region ?_
        refine OpsJ.put rfl (OpJ.pure (OpP.move rfl) ?_)
        refine OpsJ.put rfl (OpJ.pure (OpP.lss rfl rfl) ?_)
        refine OpsJ.put rfl (OpJ.pure (OpP.move rfl) ?_)
        by_cases hc37 : x33 < 0
        · rw [if_pos hc37] at h35
          refine OpsJ.guard_n rfl rfl rfl rfl (decide_eq_true hc37) ?_
          refine OpsJ.guard_n rfl rfl rfl rfl (decide_eq_true hc37) ?_
          refine OpsJ.put rfl (OpJ.pure (OpP.pick_t rfl (decide_eq_true hc37) rfl) ?_)
          refine OpsJ.nil ?_
          refine CodeJ.cond_t rfl rfl ?_
          refine CodeJ.seq' ?_
          refine CodeJ.region ?_
          refine OpsJ.put rfl (OpJ.pure (OpP.assign rfl) ?_)
          refine OpsJ.nil ?_
          obtain rfl := Option.some.inj h35
          have ht38 := hne28 _ rfl
          subst ht38
          simp only [Sum.elim_inl] at h31
          refine CodeJ.ret' ?_
          obtain rfl := Option.some.inj h31
          exact Ret.mk0 ⟨rfl, rfl⟩ (ResJ.one Try.results67 rfl) (IM.le_refl _) (SubL.nil _)
        · rw [if_neg hc37] at h35
          refine OpsJ.guard_y rfl rfl rfl rfl (decide_eq_false hc37) ?_
          refine OpsJ.put rfl (OpJ.pure (OpP.move rfl) ?_)
          refine OpsJ.guard_y rfl rfl rfl rfl (decide_eq_false hc37) ?_
          refine OpsJ.put rfl (OpJ.pure (OpP.gtr rfl rfl) ?_)
          refine OpsJ.put rfl (OpJ.pure (OpP.pick_f rfl (decide_eq_false hc37) rfl) ?_)
          refine OpsJ.nil ?_
          by_cases hc41 : x33 > 1099511627776
          · rw [if_pos hc41] at h35
            refine CodeJ.cond_t rfl (decide_eq_true hc41) ?_
            refine CodeJ.seq' ?_
            refine CodeJ.region ?_
            refine OpsJ.put rfl (OpJ.pure (OpP.assign rfl) ?_)
            refine OpsJ.nil ?_
            obtain rfl := Option.some.inj h35
            have ht42 := hne28 _ rfl
            subst ht42
            simp only [Sum.elim_inl] at h31
            refine CodeJ.ret' ?_
            obtain rfl := Option.some.inj h31
            exact Ret.mk0 ⟨rfl, rfl⟩ (ResJ.one Try.results67 rfl) (IM.le_refl _) (SubL.nil _)
          · rw [if_neg hc41] at h35
            refine CodeJ.cond_f rfl (decide_eq_false hc41) ?_
            refine CodeJ.skip ?_
            refine CodeJ.region ?_
            refine OpsJ.put rfl (OpJ.pure (OpP.add64 rfl rfl) ?_)
            refine OpsJ.put rfl (OpJ.pure (OpP.move rfl) ?_)
            refine OpsJ.nil ?_
            obtain rfl := Option.some.inj h35
            exact ⟨_, _, _, _, rfl, ⟨rfl, rfl⟩, IM.le_refl _, (SubE.cons rfl (SubE.cons rfl (SubE.cons rfl (SubE.nil _)))), (SubL.nil _)⟩
      · rw [if_neg hc32] at h27
        refine CodeJ.cond_f rfl (decide_eq_false hc32) ?_
        refine CodeJ.exit rfl ?_
        obtain rfl := Option.some.inj h27
        have ht45 := hne28 _ rfl
        exact ⟨_, _, _, ⟨ht45, rfl, rfl⟩, IM.le_refl _, (SubE.nil _), (SubL.nil _)⟩
    · rintro _ _ ⟨rfl, rfl, rfl⟩
      simp only [Sum.elim_inr] at h31
      refine CodeJ.seq' ?_
      refine CodeJ.region ?_
      refine OpsJ.put rfl (OpJ.pure (OpP.assign rfl) ?_)
      refine OpsJ.nil ?_
      refine CodeJ.ret' ?_
      obtain rfl := Option.some.inj h31
      exact Ret.mk0 ⟨rfl, rfl⟩ (ResJ.one Try.results67 rfl) (IM.le_refl _) (SubL.nil _)
theorem pack_turned_w (R : IM) (p0_n : Int) (y : Int) (h : pack_turned p0_n = some y) :
    CallJ Try.prog 68 #[.int .i64 p0_n] ⟨R, []⟩ (fun v D hs' => v = .int .i64 y ∧ hs' = []) := by
  unfold pack_turned at h
  refine CallJ.of1 Try.func68 rfl Try.ntmps68 rfl (fun W0 => ?_)
  refine CodeJ.seq' ?_
  refine CodeJ.region ?_
  refine OpsJ.put rfl (OpJ.pure (OpP.assign rfl) ?_)
  refine OpsJ.nil ?_
  refine CodeJ.seq' ?_
  refine CodeJ.seq' ?_
  refine CodeJ.region ?_
  refine OpsJ.put rfl (OpJ.pure (OpP.move rfl) ?_)
  refine OpsJ.put rfl (OpJ.pure (OpP.lss rfl rfl) ?_)
  refine OpsJ.nil ?_
  by_cases hc1 : p0_n < 0
  · rw [if_pos hc1] at h
    refine CodeJ.cond_t rfl (decide_eq_true hc1) ?_
    refine CodeJ.seq' ?_
    refine CodeJ.region ?_
    refine OpsJ.put rfl (OpJ.pure (OpP.move rfl) ?_)
    refine OpsJ.put rfl (OpJ.pure (OpP.mul64 rfl rfl) ?_)
    refine OpsJ.put rfl (OpJ.pure (OpP.sub64 rfl rfl) ?_)
    refine OpsJ.put rfl (OpJ.pure (OpP.assign rfl) ?_)
    refine OpsJ.nil ?_
    refine CodeJ.ret' ?_
    obtain rfl := Option.some.inj h
    exact Ret.mk0 ⟨rfl, rfl⟩ (ResJ.one Try.results68 rfl) (IM.le_refl _) (SubL.nil _)
  · rw [if_neg hc1] at h
    refine CodeJ.cond_f rfl (decide_eq_false hc1) ?_
    refine CodeJ.skip ?_
    refine CodeJ.seq' ?_
    refine CodeJ.region ?_
    refine OpsJ.put rfl (OpJ.pure (OpP.move rfl) ?_)
    refine OpsJ.put rfl (OpJ.pure (OpP.mul64 rfl rfl) ?_)
    refine OpsJ.put rfl (OpJ.pure (OpP.assign rfl) ?_)
    refine OpsJ.nil ?_
    refine CodeJ.ret' ?_
    obtain rfl := Option.some.inj h
    exact Ret.mk0 ⟨rfl, rfl⟩ (ResJ.one Try.results68 rfl) (IM.le_refl _) (SubL.nil _)
theorem pack_takeRuns_w (R : IM) (R0 : IM) (hR0 : IM.le R0 R) (g0_ : Nat) (p0_r : (List UInt8) × Bool) (A0_1_ : Option Addr) (c0_2_ : Nat) (hc0_3_ : p0_r.1.length ≤ c0_2_) (hA0_4_ : SlR R0 A0_1_ p0_r.1) (p1_n : Int) (y : ((List UInt8) × Bool) × (List Int)) (h : pack_takeRuns p0_r p1_n = some y) :
    CallJ Try.prog 69 #[.pointer (some ⟨g0_, 0, none⟩), .int .i64 p1_n] ⟨R, [.blk g0_ [.slice A0_1_ p0_r.1.length c0_2_, .bool p0_r.2] 75]⟩ (fun v D hs' => ∃ (B1 : Option Addr) (d2 : Nat) (B5 : Option Addr) (d6 : Nat) (ds7 : List Value), v = .slice B5 y.2.length d6 ∧ y.1.1.length ≤ d2 ∧ SlR R0 B1 y.1.1 ∧ repL IM.nil ds7 y.2 ∧ hs' = [.blk g0_ [.slice B1 y.1.1.length d2, .bool y.1.2] 75, .row 3 1 B5 y.2.length d6 ds7]) := by
  unfold pack_takeRuns at h
  refine CallJ.of2 Try.func69 rfl Try.ntmps69 rfl (fun W0 => ?_)
  refine CodeJ.seq' ?_
  refine CodeJ.region ?_
  refine OpsJ.put rfl (OpJ.pure (OpP.assign rfl) ?_)
  refine OpsJ.nil ?_
  refine CodeJ.seq' ?_
  refine CodeJ.region ?_
  refine OpsJ.put rfl (OpJ.pure (OpP.assign rfl) ?_)
  refine OpsJ.nil ?_
  refine CodeJ.seq' ?_
  refine CodeJ.seq' ?_
  refine CodeJ.region ?_
  refine OpsJ.put rfl (OpJ.pure (OpP.move rfl) ?_)
  refine OpsJ.put rfl (OpJ.pure (OpP.move rfl) ?_)
  refine OpsJ.nil ?_
  refine CodeJ.nilrow 3 1 ?_
  obtain ⟨t447, hl448, h449⟩ := bind_ok h
  clear h
  refine CodeJ.mid (fun e s => ∃ (A434 : Option Addr) (c435 : Nat) (cs436 : List Value) (A440 : Option Addr) (c441 : Nat) (l_433 : List Int) (f439 : List UInt8) (f444 : Bool), .inr (l_433, f439, f444) = t447 ∧ repL IM.nil cs436 l_433 ∧ f439.length ≤ c441 ∧ SlR R0 A440 f439 ∧ e = [(0, .pointer (some ⟨g0_, 0, none⟩)), (5, .slice A434 l_433.length c435)] ∧ s = ⟨R, [.blk g0_ [.slice A440 f439.length c441, .bool f444] 75, .row 3 1 A434 l_433.length c435 cs436]⟩) ?_ ?_
  · refine CodeJ.block ?_
    refine CodeJ.loopM hl448 (fun (l_286, v292, f293, f298) e s => ∃ (A287 : Option Addr) (c288 : Nat) (cs289 : List Value) (A294 : Option Addr) (c295 : Nat), repL IM.nil cs289 l_286 ∧ f293.length ≤ c295 ∧ SlR R0 A294 f293 ∧ e = [(0, .pointer (some ⟨g0_, 0, none⟩)), (5, .slice A287 l_286.length c288), (8, .int .i64 p1_n), (9, .int .i64 v292)] ∧ s = ⟨R, [.blk g0_ [.slice A294 f293.length c295, .bool f298] 75, .row 3 1 A287 l_286.length c288 cs289]⟩) ⟨none, 0, ([] : List Value), A0_1_, c0_2_, (repL_nil IM.nil), hc0_3_, (SlR.mono hA0_4_ (IM.le_refl _)), rfl, rfl⟩ (SubE.cons rfl (SubE.cons rfl (SubE.cons rfl (SubE.cons rfl (SubE.nil _))))) (SubL.p1 (SubL.p0 (SubL.nil _))) ?_
    rintro ⟨l_286, v292, f293, f298⟩ _ _ _ ⟨A287, c288, cs289, A294, c295, hr290, hc297, hA296, rfl, rfl⟩ h445 hne446
    (try dsimp only at h445); unfold pack_takeRuns_l1 at h445
    refine CodeJ.seq' ?_
    refine CodeJ.region ?_
    refine OpsJ.put rfl (OpJ.pure (OpP.lss rfl rfl) ?_)
    refine OpsJ.nil ?_
    refine CodeJ.seq' ?_
    by_cases hc450 : v292 < p1_n
    · rw [if_pos hc450] at h445
      refine CodeJ.cond_t rfl (decide_eq_true hc450) ?_
      refine CodeJ.skip ?_
      refine CodeJ.seq' ?_
      refine CodeJ.block ?_
      refine CodeJ.seq' ?_
      refine CodeJ.region ?_
      refine OpsJ.put rfl (OpJ.pure (OpP.move rfl) ?_)
      obtain ⟨y454, hy455, h456⟩ := bind_ok h445
      clear h445
      refine OpsJ.put rfl (OpJ.callP (Split.p0 Split.nil) rfl (fun R451 hle452 hin453 => octet_Reader_Num_w R451 R0 (IM.le_trans hR0 hle452) g0_ (f293, f298) A294 c295 hc297 (SlR.mono hA296 (IM.le_refl _))  _ hy455) ?_)
      rintro _ _ _ ⟨A457, c458, rfl, hc459, hA460, rfl⟩
      refine OpsJ.put rfl (OpJ.pure (OpP.move rfl) ?_)
      obtain ⟨y464, hy465, h466⟩ := bind_ok h456
      clear h456
      refine OpsJ.put rfl (OpJ.callP (Split.p0 Split.nil) rfl (fun R461 hle462 hin463 => octet_Reader_Num_w R461 R0 (IM.le_trans hR0 hle462) g0_ (y454.1.1, y454.1.2) A457 c458 hc459 (SlR.mono hA460 (IM.le_refl _))  _ hy465) ?_)
      rintro _ _ _ ⟨A467, c468, rfl, hc469, hA470, rfl⟩
      refine OpsJ.put rfl (OpJ.pure (OpP.assign rfl) ?_)
      refine OpsJ.put rfl (OpJ.pure (OpP.assign rfl) ?_)
      refine OpsJ.nil ?_
      refine CodeJ.seq' ?_
      refine CodeJ.seq' ?_
      refine CodeJ.region ?_
      refine OpsJ.put rfl (OpJ.pure (OpP.move rfl) ?_)
      obtain ⟨y474, hy475, h476⟩ := bind_ok h466
      clear h466
      refine OpsJ.put rfl (OpJ.callP (Split.p0 Split.nil) rfl (fun R471 hle472 hin473 => octet_Reader_Good_w R471 R0 (IM.le_trans hR0 hle472) g0_ (y464.1.1, y464.1.2) A467 c468 hc469 (SlR.mono hA470 (IM.le_refl _))  _ hy475) ?_)
      rintro _ _ _ ⟨A477, c478, rfl, hc479, hA480, rfl⟩
      refine OpsJ.put rfl (OpJ.pure (OpP.not rfl) ?_)
      refine OpsJ.put rfl (OpJ.pure (OpP.move rfl) ?_)
      by_cases hc481 : y474.2 = true
      · rw [if_pos hc481] at h476
        refine OpsJ.guard_y rfl rfl rfl rfl (congrArg Bool.not hc481) ?_
        refine OpsJ.put rfl (OpJ.pure (OpP.move rfl) ?_)
        refine OpsJ.guard_y rfl rfl rfl rfl (congrArg Bool.not hc481) ?_
        refine OpsJ.put rfl (OpJ.pure (OpP.lss rfl rfl) ?_)
        refine OpsJ.put rfl (OpJ.pure (OpP.pick_f rfl (congrArg Bool.not hc481) rfl) ?_)
        refine OpsJ.put rfl (OpJ.pure (OpP.move rfl) ?_)
        by_cases hc482 : y454.2 < 1
        · rw [if_pos hc482] at h476
          refine OpsJ.guard_n rfl rfl rfl rfl (decide_eq_true hc482) ?_
          refine OpsJ.guard_n rfl rfl rfl rfl (decide_eq_true hc482) ?_
          refine OpsJ.guard_n rfl rfl rfl rfl (decide_eq_true hc482) ?_
          refine OpsJ.guard_n rfl rfl rfl rfl (decide_eq_true hc482) ?_
          refine OpsJ.guard_n rfl rfl rfl rfl (decide_eq_true hc482) ?_
          refine OpsJ.put rfl (OpJ.pure (OpP.pick_t rfl (decide_eq_true hc482) rfl) ?_)
          refine OpsJ.nil ?_
          refine CodeJ.cond_t rfl rfl ?_
          refine CodeJ.seq' ?_
          refine CodeJ.region ?_
          refine OpsJ.put rfl (OpJ.pure (OpP.move rfl) ?_)
          obtain ⟨y486, hy487, h488⟩ := bind_ok h476
          clear h476
          refine OpsJ.put rfl (OpJ.callP (Split.p0 Split.nil) rfl (fun R483 hle484 hin485 => octet_Reader_Bad_w R483 R0 (IM.le_trans hR0 hle484) g0_ (y474.1.1, y474.1.2) A477 c478 hc479 (SlR.mono hA480 (IM.le_refl _))  _ hy487) ?_)
          rintro _ _ _ ⟨A489, c490, rfl, hc491, hA492, rfl⟩
          refine OpsJ.nil ?_
          refine CodeJ.seq' ?_
          refine CodeJ.region ?_
          refine OpsJ.put rfl (OpJ.pure (OpP.assign rfl) ?_)
          refine OpsJ.nil ?_
          obtain rfl := Option.some.inj h488
          have ht493 := hne446 _ rfl
          subst ht493
          simp only [Sum.elim_inl] at h449
          refine CodeJ.nilrow 3 1 ?_
          refine CodeJ.ret' ?_
          obtain rfl := Option.some.inj h449
          exact Ret.mk0 ⟨A489, c490, none, 0, ([] : List Value), rfl, hc491, (SlR.mono hA492 (IM.le_refl _)), (repL_nil IM.nil), rfl⟩ (ResJ.one Try.results69 rfl) (IM.le_refl _) (SubL.p1 (SubL.p0 (SubL.nil _)))
        · rw [if_neg hc482] at h476
          refine OpsJ.guard_y rfl rfl rfl rfl (decide_eq_false hc482) ?_
          refine OpsJ.put rfl (OpJ.pure (OpP.move rfl) ?_)
          refine OpsJ.guard_y rfl rfl rfl rfl (decide_eq_false hc482) ?_
          refine OpsJ.put rfl (OpJ.pure (OpP.move rfl) ?_)
          refine OpsJ.guard_y rfl rfl rfl rfl (decide_eq_false hc482) ?_
          refine OpsJ.put rfl (OpJ.pure (OpP.len rfl) ?_)
          refine OpsJ.guard_y rfl rfl rfl rfl (decide_eq_false hc482) ?_
          refine OpsJ.put rfl (OpJ.pure (OpP.sub64 rfl rfl) ?_)
          refine OpsJ.guard_y rfl rfl rfl rfl (decide_eq_false hc482) ?_
          refine OpsJ.put rfl (OpJ.pure (OpP.gtr rfl rfl) ?_)
          refine OpsJ.put rfl (OpJ.pure (OpP.pick_f rfl (decide_eq_false hc482) rfl) ?_)
          refine OpsJ.nil ?_
          by_cases hc497 : y454.2 > w64 (32768 - ((l_286.length : Nat) : Int))
          · rw [if_pos hc497] at h476
            refine CodeJ.cond_t rfl (decide_eq_true hc497) ?_
            refine CodeJ.seq' ?_
            refine CodeJ.region ?_
            refine OpsJ.put rfl (OpJ.pure (OpP.move rfl) ?_)
            obtain ⟨y501, hy502, h503⟩ := bind_ok h476
            clear h476
            refine OpsJ.put rfl (OpJ.callP (Split.p0 Split.nil) rfl (fun R498 hle499 hin500 => octet_Reader_Bad_w R498 R0 (IM.le_trans hR0 hle499) g0_ (y474.1.1, y474.1.2) A477 c478 hc479 (SlR.mono hA480 (IM.le_refl _))  _ hy502) ?_)
            rintro _ _ _ ⟨A504, c505, rfl, hc506, hA507, rfl⟩
            refine OpsJ.nil ?_
            refine CodeJ.seq' ?_
            refine CodeJ.region ?_
            refine OpsJ.put rfl (OpJ.pure (OpP.assign rfl) ?_)
            refine OpsJ.nil ?_
            obtain rfl := Option.some.inj h503
            have ht508 := hne446 _ rfl
            subst ht508
            simp only [Sum.elim_inl] at h449
            refine CodeJ.nilrow 3 1 ?_
            refine CodeJ.ret' ?_
            obtain rfl := Option.some.inj h449
            exact Ret.mk0 ⟨A504, c505, none, 0, ([] : List Value), rfl, hc506, (SlR.mono hA507 (IM.le_refl _)), (repL_nil IM.nil), rfl⟩ (ResJ.one Try.results69 rfl) (IM.le_refl _) (SubL.p1 (SubL.p0 (SubL.nil _)))
          · rw [if_neg hc497] at h476
            refine CodeJ.cond_f rfl (decide_eq_false hc497) ?_
            refine CodeJ.skip ?_
            refine CodeJ.seq' ?_
            refine CodeJ.region ?_
            refine OpsJ.put rfl (OpJ.pure (OpP.move rfl) ?_)
            refine OpsJ.put rfl (OpJ.pure (OpP.move rfl) ?_)
            refine OpsJ.nil ?_
            obtain ⟨t567, hl568, h569⟩ := bind_ok h476
            clear h476
            refine CodeJ.mid (fun e s => ∃ (A560 : Option Addr) (c561 : Nat) (cs562 : List Value) (l_559 : List Int), l_559 = t567 ∧ repL IM.nil cs562 l_559 ∧ e = [(0, .pointer (some ⟨g0_, 0, none⟩)), (5, .slice A560 l_559.length c561), (8, .int .i64 p1_n), (9, .int .i64 v292)] ∧ s = ⟨R, [.blk g0_ [.slice A477 y474.1.1.length c478, .bool y474.1.2] 75, .row 3 1 A560 l_559.length c561 cs562]⟩) ?_ ?_
            · refine CodeJ.block ?_
              refine CodeJ.loopM hl568 (fun (l_541, v547) e s => ∃ (A542 : Option Addr) (c543 : Nat) (cs544 : List Value), repL IM.nil cs544 l_541 ∧ e = [(0, .pointer (some ⟨g0_, 0, none⟩)), (5, .slice A542 l_541.length c543), (7, .int .i64 y464.2), (8, .int .i64 p1_n), (9, .int .i64 v292), (31, .int .i64 y454.2), (32, .int .i64 v547)] ∧ s = ⟨R, [.blk g0_ [.slice A477 y474.1.1.length c478, .bool y474.1.2] 75, .row 3 1 A542 l_541.length c543 cs544]⟩) ⟨A287, c288, cs289, hr290, rfl, rfl⟩ (SubE.cons rfl (SubE.cons rfl (SubE.cons rfl (SubE.cons rfl (SubE.cons rfl (SubE.cons rfl (SubE.cons rfl (SubE.nil _)))))))) (SubL.p0 (SubL.p0 (SubL.nil _))) ?_
              rintro ⟨l_541, v547⟩ _ _ _ ⟨A542, c543, cs544, hr545, rfl, rfl⟩ h565 hne566
              (try dsimp only at h565); unfold pack_takeRuns_l0 at h565
              refine CodeJ.seq' ?_
              refine CodeJ.region ?_
              refine OpsJ.put rfl (OpJ.pure (OpP.lss rfl rfl) ?_)
              refine OpsJ.nil ?_
              refine CodeJ.seq' ?_
              by_cases hc570 : v547 < y454.2
              · rw [if_pos hc570] at h565
                refine CodeJ.cond_t rfl (decide_eq_true hc570) ?_
                refine CodeJ.skip ?_
                refine CodeJ.seq' ?_
                refine CodeJ.block ?_
                refine CodeJ.region ?_
                refine OpsJ.put rfl (OpJ.pure (OpP.move rfl) ?_)
                refine OpsJ.put rfl (OpJ.pure (OpP.move rfl) ?_)
                have hr572 : repL IM.nil [.int .i64 y464.2] ([y464.2] : List Int) := (repL_cons (c1 := [.int .i64 y464.2]) (show Dat.rep _ _ y464.2 from rfl) (repL_nil _))
                refine OpsJ.put rfl (OpJ.buildSliceC (cs := [.int .i64 y464.2]) rfl rfl (by exact rfl) (by exact rfl) (by exact rfl) (by exact rfl) (fun g571 => ?_))
                obtain ⟨q574, hq575, h576⟩ := bind_ok h565
                clear h565
                have hr579 : repL IM.nil (cs544 ++ ([.int .i64 y464.2] : List Value)) q574 := app_rep hq575 hr545 hr572
                refine OpsJ.put rfl (OpJ.appW hq575 rfl rfl (Src.ofRow (List.Mem.head _)) hr572 (by exact rfl) (permm2 _ _ _ _) (by exact rfl) (by exact rfl) (by exact rfl) rfl rfl (fun A577 c578 => ?_))
                refine OpsJ.put rfl (OpJ.pure (OpP.assign rfl) ?_)
                refine OpsJ.nil ?_
                refine CodeJ.region ?_
                refine OpsJ.put rfl (OpJ.pure (OpP.add64 rfl rfl) ?_)
                refine OpsJ.put rfl (OpJ.pure (OpP.move rfl) ?_)
                refine OpsJ.nil ?_
                obtain rfl := Option.some.inj h576
                exact ⟨_, _, _, _, rfl, ⟨A577, c578, (cs544 ++ ([.int .i64 y464.2] : List Value)), hr579, rfl, rfl⟩, IM.le_refl _, (SubE.cons rfl (SubE.cons rfl (SubE.cons rfl (SubE.cons rfl (SubE.cons rfl (SubE.cons rfl (SubE.cons rfl (SubE.nil _)))))))), (SubL.p2 (SubL.p0 (SubL.nil _)))⟩
              · rw [if_neg hc570] at h565
                refine CodeJ.cond_f rfl (decide_eq_false hc570) ?_
                refine CodeJ.exit rfl ?_
                obtain rfl := Option.some.inj h565
                have ht581 := hne566 _ rfl
                exact ⟨_, _, _, ⟨A542, c543, cs544, l_541, ht581, hr545, rfl, rfl⟩, IM.le_refl _, (SubE.cons rfl (SubE.cons rfl (SubE.cons rfl (SubE.cons rfl (SubE.nil _))))), (SubL.p0 (SubL.p0 (SubL.nil _)))⟩
            · rintro _ _ ⟨A560, c561, cs562, l_559, rfl, hr563, rfl, rfl⟩
              (try dsimp only at h569)
              refine CodeJ.region ?_
              refine OpsJ.put rfl (OpJ.pure (OpP.add64 rfl rfl) ?_)
              refine OpsJ.put rfl (OpJ.pure (OpP.move rfl) ?_)
              refine OpsJ.nil ?_
              obtain rfl := Option.some.inj h569
              exact ⟨_, _, _, _, rfl, ⟨A560, c561, cs562, A477, c478, hr563, hc479, (SlR.mono hA480 (IM.le_refl _)), rfl, rfl⟩, IM.le_refl _, (SubE.cons rfl (SubE.cons rfl (SubE.cons rfl (SubE.cons rfl (SubE.nil _))))), (SubL.p0 (SubL.p0 (SubL.nil _)))⟩
      · rw [if_neg hc481] at h476
        refine OpsJ.guard_n rfl rfl rfl rfl (congrArg Bool.not (Bool.eq_false_iff.2 hc481)) ?_
        refine OpsJ.guard_n rfl rfl rfl rfl (congrArg Bool.not (Bool.eq_false_iff.2 hc481)) ?_
        refine OpsJ.put rfl (OpJ.pure (OpP.pick_t rfl (congrArg Bool.not (Bool.eq_false_iff.2 hc481)) rfl) ?_)
        refine OpsJ.put rfl (OpJ.pure (OpP.move rfl) ?_)
        refine OpsJ.guard_n rfl rfl rfl rfl rfl ?_
        refine OpsJ.guard_n rfl rfl rfl rfl rfl ?_
        refine OpsJ.guard_n rfl rfl rfl rfl rfl ?_
        refine OpsJ.guard_n rfl rfl rfl rfl rfl ?_
        refine OpsJ.guard_n rfl rfl rfl rfl rfl ?_
        refine OpsJ.put rfl (OpJ.pure (OpP.pick_t rfl rfl rfl) ?_)
        refine OpsJ.nil ?_
        refine CodeJ.cond_t rfl rfl ?_
        refine CodeJ.seq' ?_
        refine CodeJ.region ?_
        refine OpsJ.put rfl (OpJ.pure (OpP.move rfl) ?_)
        obtain ⟨y585, hy586, h587⟩ := bind_ok h476
        clear h476
        refine OpsJ.put rfl (OpJ.callP (Split.p0 Split.nil) rfl (fun R582 hle583 hin584 => octet_Reader_Bad_w R582 R0 (IM.le_trans hR0 hle583) g0_ (y474.1.1, y474.1.2) A477 c478 hc479 (SlR.mono hA480 (IM.le_refl _))  _ hy586) ?_)
        rintro _ _ _ ⟨A588, c589, rfl, hc590, hA591, rfl⟩
        refine OpsJ.nil ?_
        refine CodeJ.seq' ?_
        refine CodeJ.region ?_
        refine OpsJ.put rfl (OpJ.pure (OpP.assign rfl) ?_)
        refine OpsJ.nil ?_
        obtain rfl := Option.some.inj h587
        have ht592 := hne446 _ rfl
        subst ht592
        simp only [Sum.elim_inl] at h449
        refine CodeJ.nilrow 3 1 ?_
        refine CodeJ.ret' ?_
        obtain rfl := Option.some.inj h449
        exact Ret.mk0 ⟨A588, c589, none, 0, ([] : List Value), rfl, hc590, (SlR.mono hA591 (IM.le_refl _)), (repL_nil IM.nil), rfl⟩ (ResJ.one Try.results69 rfl) (IM.le_refl _) (SubL.p1 (SubL.p0 (SubL.nil _)))
    · rw [if_neg hc450] at h445
      refine CodeJ.cond_f rfl (decide_eq_false hc450) ?_
      refine CodeJ.exit rfl ?_
      obtain rfl := Option.some.inj h445
      have ht596 := hne446 _ rfl
      exact ⟨_, _, _, ⟨A287, c288, cs289, A294, c295, l_286, f293, f298, ht596, hr290, hc297, (SlR.mono hA296 (IM.le_refl _)), rfl, rfl⟩, IM.le_refl _, (SubE.cons rfl (SubE.cons rfl (SubE.nil _))), (SubL.p0 (SubL.p0 (SubL.nil _)))⟩
  · rintro _ _ ⟨A434, c435, cs436, A440, c441, l_433, f439, f444, rfl, hr437, hc443, hA442, rfl, rfl⟩
    simp only [Sum.elim_inr] at h449
    refine CodeJ.seq' ?_
    refine CodeJ.region ?_
    refine OpsJ.put rfl (OpJ.pure (OpP.move rfl) ?_)
    refine OpsJ.put rfl (OpJ.pure (OpP.assign rfl) ?_)
    refine OpsJ.nil ?_
    refine CodeJ.ret' ?_
    obtain rfl := Option.some.inj h449
    exact Ret.mk0 ⟨A440, c441, A434, c435, cs436, rfl, hc443, (SlR.mono hA442 (IM.le_refl _)), hr437, rfl⟩ (ResJ.one Try.results69 rfl) (IM.le_refl _) (SubL.p0 (SubL.p0 (SubL.nil _)))
theorem pack_back_w (R : IM) (p0_n : Int) (y : Int) (h : pack_back p0_n = some y) :
    CallJ Try.prog 70 #[.int .i64 p0_n] ⟨R, []⟩ (fun v D hs' => v = .int .i64 y ∧ hs' = []) := by
  unfold pack_back at h
  refine CallJ.of1 Try.func70 rfl Try.ntmps70 rfl (fun W0 => ?_)
  refine CodeJ.seq' ?_
  refine CodeJ.region ?_
  refine OpsJ.put rfl (OpJ.pure (OpP.assign rfl) ?_)
  refine OpsJ.nil ?_
  refine CodeJ.seq' ?_
  refine CodeJ.seq' ?_
  refine CodeJ.region ?_
  refine OpsJ.put rfl (OpJ.pure (OpP.move rfl) ?_)
  refine OpsJ.put rfl (OpJ.pure (OpP.iand rfl rfl) ?_)
  refine OpsJ.put rfl (OpJ.pure (OpP.eql rfl rfl) ?_)
  refine OpsJ.nil ?_
  by_cases hc1 : (iand p0_n 1) = 1
  · rw [if_pos hc1] at h
    refine CodeJ.cond_t rfl (decide_eq_true hc1) ?_
    refine CodeJ.seq' ?_
    refine CodeJ.region ?_
    refine OpsJ.put rfl (OpJ.pure (OpP.move rfl) ?_)
    refine OpsJ.put rfl (OpJ.pure (OpP.add64 rfl rfl) ?_)
    refine OpsJ.put rfl (OpJ.pure (OpP.neg64' rfl) ?_)
    obtain ⟨q2, hq3, h4⟩ := bind_ok h
    clear h
    refine OpsJ.put rfl (OpJ.pure (OpP.quo64 hq3 rfl rfl) ?_)
    refine OpsJ.put rfl (OpJ.pure (OpP.assign rfl) ?_)
    refine OpsJ.nil ?_
    refine CodeJ.ret' ?_
    obtain rfl := Option.some.inj h4
    exact Ret.mk0 ⟨rfl, rfl⟩ (ResJ.one Try.results70 rfl) (IM.le_refl _) (SubL.nil _)
  · rw [if_neg hc1] at h
    refine CodeJ.cond_f rfl (decide_eq_false hc1) ?_
    refine CodeJ.skip ?_
    refine CodeJ.seq' ?_
    refine CodeJ.region ?_
    refine OpsJ.put rfl (OpJ.pure (OpP.move rfl) ?_)
    obtain ⟨q7, hq8, h9⟩ := bind_ok h
    clear h
    refine OpsJ.put rfl (OpJ.pure (OpP.quo64 hq8 rfl rfl) ?_)
    refine OpsJ.put rfl (OpJ.pure (OpP.assign rfl) ?_)
    refine OpsJ.nil ?_
    refine CodeJ.ret' ?_
    obtain rfl := Option.some.inj h9
    exact Ret.mk0 ⟨rfl, rfl⟩ (ResJ.one Try.results70 rfl) (IM.le_refl _) (SubL.nil _)
theorem winnowerref16_Plain_w (R : IM) (A0_ : Option Addr) (n0_ c0_ : Nat) (p0_l : List Int) (hA0_ : SlR R A0_ p0_l) (hn0_ : p0_l.length = n0_) (hc0_ : n0_ ≤ c0_) (y : (List UInt8) × Int) (h : winnowerref16_Plain p0_l = some y) :
    CallJ Try.prog 31 #[.slice A0_ n0_ c0_] ⟨R, []⟩ (fun v D hs' => ∃ (B1 : Option Addr) (d2 : Nat) (ds3 : List Value), v = .tuple #[.slice B1 y.1.length d2, .int .i64 y.2] ∧ repL IM.nil ds3 y.1 ∧ hs' = [.row 5 1 B1 y.1.length d2 ds3]) := by
  subst hn0_
  unfold winnowerref16_Plain at h
  refine CallJ.of1 Try.func31 rfl Try.ntmps31 rfl (fun W0 => ?_)
  refine CodeJ.seq' ?_
  refine CodeJ.region ?_
  refine OpsJ.put rfl (OpJ.pure (OpP.assign rfl) ?_)
  refine OpsJ.put rfl (OpJ.pure (OpP.assign rfl) ?_)
  refine OpsJ.nil ?_
  refine CodeJ.seq' ?_
  refine CodeJ.seq' ?_
  refine CodeJ.region ?_
  refine OpsJ.put rfl (OpJ.pure (OpP.move rfl) ?_)
  obtain ⟨y4, hy5, h6⟩ := bind_ok h
  clear h
  refine OpsJ.put rfl (OpJ.call0 rfl (fun R1 hle2 hin3 => winnowerref16_may_w R1 A0_ p0_l.length c0_ p0_l (SlR.mono hA0_ (IM.le_trans (IM.le_refl _) hle2)) rfl hc0_  _ hy5) ?_)
  rintro _ _ _ ⟨rfl, rfl⟩
  refine OpsJ.put rfl (OpJ.pure (OpP.not rfl) ?_)
  refine OpsJ.nil ?_
  by_cases hc7 : y4 = true
  · rw [if_pos hc7] at h6
    refine CodeJ.cond_f rfl (congrArg Bool.not hc7) ?_
    refine CodeJ.skip ?_
    refine CodeJ.seq' ?_
    refine CodeJ.region ?_
    refine OpsJ.put rfl (OpJ.pure (OpP.move rfl) ?_)
    refine OpsJ.put rfl (OpJ.pure (OpP.len rfl) ?_)
    have hr9 : repL IM.nil [.int .i64 0, .int .i64 ((p0_l.length : Nat) : Int)] ([0, ((p0_l.length : Nat) : Int)] : List Int) := (repL_cons (c1 := [.int .i64 0]) (show Dat.rep _ _ 0 from rfl) (repL_cons (c1 := [.int .i64 ((p0_l.length : Nat) : Int)]) (show Dat.rep _ _ ((p0_l.length : Nat) : Int) from rfl) (repL_nil _)))
    refine OpsJ.put rfl (OpJ.buildSliceC (cs := [.int .i64 0, .int .i64 ((p0_l.length : Nat) : Int)]) rfl rfl (by exact rfl) (by exact rfl) (by exact rfl) (by exact rfl) (fun g8 => ?_))
    refine OpsJ.rowle (List.Perm.refl _) (fun hcap11 _ => ?_)
    obtain ⟨y15, hy16, h17⟩ := bind_ok h6
    clear h6
    refine OpsJ.put rfl (OpJ.callP Split.nil rfl (fun R12 hle13 hin14 => winnowerref1_Nums_w R12 (some ⟨g8, 0, none⟩) 2 2 ([0, ((p0_l.length : Nat) : Int)] : List Int) (SlR.of_row (inRow hin14 (List.Mem.head _)) hr9 (IM.le_nil _)) rfl hcap11  _ hy16) ?_)
    rintro _ _ _ ⟨A18, c19, cs20, rfl, hr21, rfl⟩
    refine OpsJ.put rfl (OpJ.pure (OpP.move rfl) ?_)
    obtain ⟨y26, hy27, h28⟩ := bind_ok h17
    clear h17
    refine OpsJ.put rfl (OpJ.callP Split.nil rfl (fun R23 hle24 hin25 => winnowerref1_Nums_w R23 A0_ p0_l.length c0_ p0_l (SlR.mono hA0_ (IM.le_trans (IM.le_refl _) hle24)) rfl hc0_  _ hy27) ?_)
    rintro _ _ _ ⟨A29, c30, cs31, rfl, hr32, rfl⟩
    obtain ⟨q34, hq35, h36⟩ := bind_ok h28
    clear h28
    have hr39 : repL IM.nil (cs20 ++ cs31) q34 := app_rep hq35 hr21 hr32
    refine OpsJ.put rfl (OpJ.appW hq35 rfl rfl (Src.ofRow (List.Mem.head _)) hr32 (by exact rfl) (List.Perm.swap _ _ _) (by exact rfl) (by exact rfl) (by exact rfl) rfl rfl (fun A37 c38 => ?_))
    refine OpsJ.put rfl (OpJ.pure (OpP.assign rfl) ?_)
    refine OpsJ.put rfl (OpJ.pure (OpP.assign rfl) ?_)
    refine OpsJ.nil ?_
    refine CodeJ.ret' ?_
    obtain rfl := Option.some.inj h36
    exact Ret.mk0 ⟨A37, c38, (cs20 ++ cs31), rfl, hr39, rfl⟩ (ResJ.two Try.results31 rfl rfl) (IM.le_refl _) (SubL.p0 (SubL.nil _))
  · rw [if_neg hc7] at h6
    refine CodeJ.cond_t rfl (congrArg Bool.not (Bool.eq_false_iff.2 hc7)) ?_
    refine CodeJ.seq' ?_
    refine CodeJ.region ?_
    refine OpsJ.put rfl (OpJ.pure (OpP.assign rfl) ?_)
    refine OpsJ.put rfl (OpJ.pure (OpP.assign rfl) ?_)
    refine OpsJ.nil ?_
    refine CodeJ.nilrow 5 1 ?_
    refine CodeJ.ret' ?_
    obtain rfl := Option.some.inj h6
    exact Ret.mk0 ⟨none, 0, ([] : List Value), rfl, (repL_nil IM.nil), rfl⟩ (ResJ.two Try.results31 rfl rfl) (IM.le_refl _) (SubL.p0 (SubL.nil _))
theorem winnowerref16_Delta_w (R : IM) (A0_ : Option Addr) (n0_ c0_ : Nat) (p0_l : List Int) (hA0_ : SlR R A0_ p0_l) (hn0_ : p0_l.length = n0_) (hc0_ : n0_ ≤ c0_) (y : (List UInt8) × Int) (h : winnowerref16_Delta p0_l = some y) :
    CallJ Try.prog 33 #[.slice A0_ n0_ c0_] ⟨R, []⟩ (fun v D hs' => ∃ (B1 : Option Addr) (d2 : Nat) (ds3 : List Value), v = .tuple #[.slice B1 y.1.length d2, .int .i64 y.2] ∧ repL IM.nil ds3 y.1 ∧ hs' = [.row 5 1 B1 y.1.length d2 ds3]) := by
  subst hn0_
  unfold winnowerref16_Delta at h
  refine CallJ.of1 Try.func33 rfl Try.ntmps33 rfl (fun W0 => ?_)
  refine CodeJ.seq' ?_
  refine CodeJ.region ?_
  refine OpsJ.put rfl (OpJ.pure (OpP.assign rfl) ?_)
  refine OpsJ.put rfl (OpJ.pure (OpP.assign rfl) ?_)
  refine OpsJ.nil ?_
  refine CodeJ.seq' ?_
  refine CodeJ.seq' ?_
  refine CodeJ.region ?_
  refine OpsJ.put rfl (OpJ.pure (OpP.move rfl) ?_)
  obtain ⟨y4, hy5, h6⟩ := bind_ok h
  clear h
  refine OpsJ.put rfl (OpJ.call0 rfl (fun R1 hle2 hin3 => winnowerref16_may_w R1 A0_ p0_l.length c0_ p0_l (SlR.mono hA0_ (IM.le_trans (IM.le_refl _) hle2)) rfl hc0_  _ hy5) ?_)
  rintro _ _ _ ⟨rfl, rfl⟩
  refine OpsJ.put rfl (OpJ.pure (OpP.not rfl) ?_)
  refine OpsJ.nil ?_
  by_cases hc7 : y4 = true
  · rw [if_pos hc7] at h6
    refine CodeJ.cond_f rfl (congrArg Bool.not hc7) ?_
    refine CodeJ.skip ?_
    refine CodeJ.seq' ?_
    refine CodeJ.region ?_
    refine OpsJ.put rfl (OpJ.pure (OpP.move rfl) ?_)
    refine OpsJ.put rfl (OpJ.pure (OpP.len rfl) ?_)
    have hr9 : repL IM.nil [.int .i64 1, .int .i64 ((p0_l.length : Nat) : Int)] ([1, ((p0_l.length : Nat) : Int)] : List Int) := (repL_cons (c1 := [.int .i64 1]) (show Dat.rep _ _ 1 from rfl) (repL_cons (c1 := [.int .i64 ((p0_l.length : Nat) : Int)]) (show Dat.rep _ _ ((p0_l.length : Nat) : Int) from rfl) (repL_nil _)))
    refine OpsJ.put rfl (OpJ.buildSliceC (cs := [.int .i64 1, .int .i64 ((p0_l.length : Nat) : Int)]) rfl rfl (by exact rfl) (by exact rfl) (by exact rfl) (by exact rfl) (fun g8 => ?_))
    refine OpsJ.rowle (List.Perm.refl _) (fun hcap11 _ => ?_)
    obtain ⟨y15, hy16, h17⟩ := bind_ok h6
    clear h6
    refine OpsJ.put rfl (OpJ.callP Split.nil rfl (fun R12 hle13 hin14 => winnowerref1_Nums_w R12 (some ⟨g8, 0, none⟩) 2 2 ([1, ((p0_l.length : Nat) : Int)] : List Int) (SlR.of_row (inRow hin14 (List.Mem.head _)) hr9 (IM.le_nil _)) rfl hcap11  _ hy16) ?_)
    rintro _ _ _ ⟨A18, c19, cs20, rfl, hr21, rfl⟩
    refine OpsJ.put rfl (OpJ.pure (OpP.assign rfl) ?_)
    refine OpsJ.nil ?_
    refine CodeJ.seq' ?_
    refine CodeJ.region ?_
    refine OpsJ.put rfl (OpJ.pure (OpP.assign rfl) ?_)
    refine OpsJ.nil ?_
    refine CodeJ.seq' ?_
    refine CodeJ.seq' ?_
    refine CodeJ.region ?_
    refine OpsJ.put rfl (OpJ.pure (OpP.assign rfl) ?_)
    refine OpsJ.nil ?_
    obtain ⟨t179, hl180, h181⟩ := bind_ok h17
    clear h17
    refine CodeJ.mid (fun e s => ∃ (A172 : Option Addr) (c173 : Nat) (cs174 : List Value) (b_171 : List UInt8), b_171 = t179 ∧ repL IM.nil cs174 b_171 ∧ e = [(4, .slice A172 b_171.length c173)] ∧ s = ⟨R, [.row 5 1 A172 b_171.length c173 cs174]⟩) ?_ ?_
    · refine CodeJ.block ?_
      refine CodeJ.loopM hl180 (fun (b_119, last_125, i_126) e s => ∃ (A120 : Option Addr) (c121 : Nat) (cs122 : List Value), repL IM.nil cs122 b_119 ∧ e = [(0, .slice A0_ p0_l.length c0_), (4, .slice A120 b_119.length c121), (5, .int .i64 last_125), (6, .int .i64 i_126)] ∧ s = ⟨R, [.row 5 1 A120 b_119.length c121 cs122]⟩) ⟨A18, c19, cs20, hr21, rfl, rfl⟩ (SubE.cons rfl (SubE.cons rfl (SubE.cons rfl (SubE.cons rfl (SubE.nil _))))) (SubL.p0 (SubL.nil _)) ?_
      rintro ⟨b_119, last_125, i_126⟩ _ _ _ ⟨A120, c121, cs122, hr123, rfl, rfl⟩ h177 hne178
      (try dsimp only at h177); unfold winnowerref16_Delta_l0 at h177
      refine CodeJ.seq' ?_
      refine CodeJ.seq' ?_
      refine CodeJ.region ?_
      refine OpsJ.put rfl (OpJ.pure (OpP.move rfl) ?_)
      refine OpsJ.put rfl (OpJ.pure (OpP.move rfl) ?_)
      refine OpsJ.put rfl (OpJ.pure (OpP.len rfl) ?_)
      refine OpsJ.put rfl (OpJ.pure (OpP.lss rfl rfl) ?_)
      refine OpsJ.nil ?_
      by_cases hc182 : i_126 < ((p0_l.length : Nat) : Int)
      · rw [if_pos hc182] at h177
        refine CodeJ.cond_t rfl (decide_eq_true hc182) ?_
        refine CodeJ.skip ?_
        refine CodeJ.seq' ?_
        refine CodeJ.block ?_
        refine CodeJ.seq' ?_
        refine CodeJ.region ?_
        refine OpsJ.put rfl (OpJ.pure (OpP.move rfl) ?_)
        refine OpsJ.put rfl (OpJ.pure (OpP.move rfl) ?_)
        obtain ⟨x183, hx184, h185⟩ := bind_ok h177
        clear h177
        have hE186 : RC _ (some ((adr A0_).add (Int.toNat i_126 * Dat.size Int))) [.int .i64 x183] := SlR.getF (α := Int) hA0_ hx184
        refine OpsJ.put rfl (OpJ.pure (OpP.ixR hA0_ rfl hx184 (by exact rfl) (by exact rfl) rfl rfl) ?_)
        refine OpsJ.put rfl (OpJ.pure (OpP.ldR0 (by exact rfl) hE186 (IM.le_refl _) rfl rfl) ?_)
        refine OpsJ.put rfl (OpJ.pure (OpP.move rfl) ?_)
        refine OpsJ.put rfl (OpJ.pure (OpP.sub64 rfl rfl) ?_)
        refine OpsJ.put rfl (OpJ.pure (OpP.assign rfl) ?_)
        refine OpsJ.nil ?_
        refine CodeJ.seq' ?_
        refine CodeJ.seq' ?_
        refine CodeJ.region ?_
        refine OpsJ.put rfl (OpJ.pure (OpP.move rfl) ?_)
        refine OpsJ.put rfl (OpJ.pure (OpP.geq rfl rfl) ?_)
        refine OpsJ.nil ?_
        by_cases hc187 : w64 (x183 - last_125) ≥ 0
        · rw [if_pos hc187] at h185
          refine CodeJ.cond_t rfl (decide_eq_true hc187) ?_
          refine CodeJ.region ?_
          refine OpsJ.put rfl (OpJ.pure (OpP.move rfl) ?_)
          refine OpsJ.put rfl (OpJ.pure (OpP.move rfl) ?_)
          refine OpsJ.put rfl (OpJ.pure (OpP.mul64 rfl rfl) ?_)
          obtain ⟨y191, hy192, h193⟩ := bind_ok h185
          clear h185
          refine OpsJ.put rfl (OpJ.callP Split.nil rfl (fun R188 hle189 hin190 => winnowerref1_Num_w R188 (w64 (2 * (w64 (x183 - last_125))))  _ hy192) ?_)
          rintro _ _ _ ⟨A194, c195, cs196, rfl, hr197, rfl⟩
          obtain ⟨q199, hq200, h201⟩ := bind_ok h193
          clear h193
          have hr204 : repL IM.nil (cs122 ++ cs196) q199 := app_rep hq200 hr123 hr197
          refine OpsJ.put rfl (OpJ.appW hq200 rfl rfl (Src.ofRow (List.Mem.head _)) hr197 (by exact rfl) (List.Perm.swap _ _ _) (by exact rfl) (by exact rfl) (by exact rfl) rfl rfl (fun A202 c203 => ?_))
          refine OpsJ.put rfl (OpJ.pure (OpP.assign rfl) ?_)
          refine OpsJ.nil ?_
          refine CodeJ.region ?_
          refine OpsJ.put rfl (OpJ.pure (OpP.move rfl) ?_)
          refine OpsJ.put rfl (OpJ.pure (OpP.move rfl) ?_)
          have hE206 : RC _ (some ((adr A0_).add (Int.toNat i_126 * Dat.size Int))) [.int .i64 x183] := SlR.getF (α := Int) hA0_ hx184
          refine OpsJ.put rfl (OpJ.pure (OpP.ixR hA0_ rfl hx184 (by exact rfl) (by exact rfl) rfl rfl) ?_)
          refine OpsJ.put rfl (OpJ.pure (OpP.ldR0 (by exact rfl) hE206 (IM.le_refl _) rfl rfl) ?_)
          refine OpsJ.put rfl (OpJ.pure (OpP.assign rfl) ?_)
          refine OpsJ.nil ?_
          refine CodeJ.region ?_
          refine OpsJ.put rfl (OpJ.pure (OpP.move rfl) ?_)
          refine OpsJ.put rfl (OpJ.pure (OpP.add64 rfl rfl) ?_)
          refine OpsJ.put rfl (OpJ.pure (OpP.assign rfl) ?_)
          refine OpsJ.nil ?_
          obtain rfl := Option.some.inj h201
          exact ⟨_, _, _, _, rfl, ⟨A202, c203, (cs122 ++ cs196), hr204, rfl, rfl⟩, IM.le_refl _, (SubE.cons rfl (SubE.cons rfl (SubE.cons rfl (SubE.cons rfl (SubE.nil _))))), (SubL.p0 (SubL.nil _))⟩
        · rw [if_neg hc187] at h185
          refine CodeJ.cond_f rfl (decide_eq_false hc187) ?_
          refine CodeJ.region ?_
          refine OpsJ.put rfl (OpJ.pure (OpP.move rfl) ?_)
          refine OpsJ.put rfl (OpJ.pure (OpP.move rfl) ?_)
          refine OpsJ.put rfl (OpJ.pure (OpP.mul64 rfl rfl) ?_)
          refine OpsJ.put rfl (OpJ.pure (OpP.sub64 rfl rfl) ?_)
          obtain ⟨y210, hy211, h212⟩ := bind_ok h185
          clear h185
          refine OpsJ.put rfl (OpJ.callP Split.nil rfl (fun R207 hle208 hin209 => winnowerref1_Num_w R207 (w64 (w64 ((-2) * (w64 (x183 - last_125))) - 1))  _ hy211) ?_)
          rintro _ _ _ ⟨A213, c214, cs215, rfl, hr216, rfl⟩
          obtain ⟨q218, hq219, h220⟩ := bind_ok h212
          clear h212
          have hr223 : repL IM.nil (cs122 ++ cs215) q218 := app_rep hq219 hr123 hr216
          refine OpsJ.put rfl (OpJ.appW hq219 rfl rfl (Src.ofRow (List.Mem.head _)) hr216 (by exact rfl) (List.Perm.swap _ _ _) (by exact rfl) (by exact rfl) (by exact rfl) rfl rfl (fun A221 c222 => ?_))
          refine OpsJ.put rfl (OpJ.pure (OpP.assign rfl) ?_)
          refine OpsJ.nil ?_
          refine CodeJ.region ?_
          refine OpsJ.put rfl (OpJ.pure (OpP.move rfl) ?_)
          refine OpsJ.put rfl (OpJ.pure (OpP.move rfl) ?_)
          have hE225 : RC _ (some ((adr A0_).add (Int.toNat i_126 * Dat.size Int))) [.int .i64 x183] := SlR.getF (α := Int) hA0_ hx184
          refine OpsJ.put rfl (OpJ.pure (OpP.ixR hA0_ rfl hx184 (by exact rfl) (by exact rfl) rfl rfl) ?_)
          refine OpsJ.put rfl (OpJ.pure (OpP.ldR0 (by exact rfl) hE225 (IM.le_refl _) rfl rfl) ?_)
          refine OpsJ.put rfl (OpJ.pure (OpP.assign rfl) ?_)
          refine OpsJ.nil ?_
          refine CodeJ.region ?_
          refine OpsJ.put rfl (OpJ.pure (OpP.move rfl) ?_)
          refine OpsJ.put rfl (OpJ.pure (OpP.add64 rfl rfl) ?_)
          refine OpsJ.put rfl (OpJ.pure (OpP.assign rfl) ?_)
          refine OpsJ.nil ?_
          obtain rfl := Option.some.inj h220
          exact ⟨_, _, _, _, rfl, ⟨A221, c222, (cs122 ++ cs215), hr223, rfl, rfl⟩, IM.le_refl _, (SubE.cons rfl (SubE.cons rfl (SubE.cons rfl (SubE.cons rfl (SubE.nil _))))), (SubL.p0 (SubL.nil _))⟩
      · rw [if_neg hc182] at h177
        refine CodeJ.cond_f rfl (decide_eq_false hc182) ?_
        refine CodeJ.exit rfl ?_
        obtain rfl := Option.some.inj h177
        have ht226 := hne178 _ rfl
        exact ⟨_, _, _, ⟨A120, c121, cs122, b_119, ht226, hr123, rfl, rfl⟩, IM.le_refl _, (SubE.cons rfl (SubE.nil _)), (SubL.p0 (SubL.nil _))⟩
    · rintro _ _ ⟨A172, c173, cs174, b_171, rfl, hr175, rfl, rfl⟩
      (try dsimp only at h181)
      refine CodeJ.seq' ?_
      refine CodeJ.region ?_
      refine OpsJ.put rfl (OpJ.pure (OpP.move rfl) ?_)
      refine OpsJ.put rfl (OpJ.pure (OpP.assign rfl) ?_)
      refine OpsJ.put rfl (OpJ.pure (OpP.assign rfl) ?_)
      refine OpsJ.nil ?_
      refine CodeJ.ret' ?_
      obtain rfl := Option.some.inj h181
      exact Ret.mk0 ⟨A172, c173, cs174, rfl, hr175, rfl⟩ (ResJ.two Try.results33 rfl rfl) (IM.le_refl _) (SubL.p0 (SubL.nil _))
  · rw [if_neg hc7] at h6
    refine CodeJ.cond_t rfl (congrArg Bool.not (Bool.eq_false_iff.2 hc7)) ?_
    refine CodeJ.seq' ?_
    refine CodeJ.region ?_
    refine OpsJ.put rfl (OpJ.pure (OpP.assign rfl) ?_)
    refine OpsJ.put rfl (OpJ.pure (OpP.assign rfl) ?_)
    refine OpsJ.nil ?_
    refine CodeJ.nilrow 5 1 ?_
    refine CodeJ.ret' ?_
    obtain rfl := Option.some.inj h6
    exact Ret.mk0 ⟨none, 0, ([] : List Value), rfl, (repL_nil IM.nil), rfl⟩ (ResJ.two Try.results33 rfl rfl) (IM.le_refl _) (SubL.p0 (SubL.nil _))
theorem winnowerref16_Runs_w (R : IM) (A0_ : Option Addr) (n0_ c0_ : Nat) (p0_l : List Int) (hA0_ : SlR R A0_ p0_l) (hn0_ : p0_l.length = n0_) (hc0_ : n0_ ≤ c0_) (y : (List UInt8) × Int) (h : winnowerref16_Runs p0_l = some y) :
    CallJ Try.prog 35 #[.slice A0_ n0_ c0_] ⟨R, []⟩ (fun v D hs' => ∃ (B1 : Option Addr) (d2 : Nat) (ds3 : List Value), v = .tuple #[.slice B1 y.1.length d2, .int .i64 y.2] ∧ repL IM.nil ds3 y.1 ∧ hs' = [.row 5 1 B1 y.1.length d2 ds3]) := by
  subst hn0_
  unfold winnowerref16_Runs at h
  refine CallJ.of1 Try.func35 rfl Try.ntmps35 rfl (fun W0 => ?_)
  refine CodeJ.seq' ?_
  refine CodeJ.region ?_
  refine OpsJ.put rfl (OpJ.pure (OpP.assign rfl) ?_)
  refine OpsJ.put rfl (OpJ.pure (OpP.assign rfl) ?_)
  refine OpsJ.nil ?_
  refine CodeJ.seq' ?_
  refine CodeJ.seq' ?_
  refine CodeJ.region ?_
  refine OpsJ.put rfl (OpJ.pure (OpP.move rfl) ?_)
  obtain ⟨y4, hy5, h6⟩ := bind_ok h
  clear h
  refine OpsJ.put rfl (OpJ.call0 rfl (fun R1 hle2 hin3 => winnowerref16_may_w R1 A0_ p0_l.length c0_ p0_l (SlR.mono hA0_ (IM.le_trans (IM.le_refl _) hle2)) rfl hc0_  _ hy5) ?_)
  rintro _ _ _ ⟨rfl, rfl⟩
  refine OpsJ.put rfl (OpJ.pure (OpP.not rfl) ?_)
  refine OpsJ.nil ?_
  by_cases hc7 : y4 = true
  · rw [if_pos hc7] at h6
    refine CodeJ.cond_f rfl (congrArg Bool.not hc7) ?_
    refine CodeJ.skip ?_
    refine CodeJ.seq' ?_
    refine CodeJ.region ?_
    refine OpsJ.put rfl (OpJ.pure (OpP.assign rfl) ?_)
    refine OpsJ.nil ?_
    refine CodeJ.seq' ?_
    refine CodeJ.seq' ?_
    refine CodeJ.region ?_
    refine OpsJ.put rfl (OpJ.pure (OpP.assign rfl) ?_)
    refine OpsJ.nil ?_
    refine CodeJ.nilrow 79 2 ?_
    obtain ⟨t163, hl164, h165⟩ := bind_ok h6
    clear h6
    refine CodeJ.mid (fun e s => ∃ (A156 : Option Addr) (c157 : Nat) (cs158 : List Value) (rows_155 : List (Int × Int)), rows_155 = t163 ∧ repL IM.nil cs158 rows_155 ∧ e = [(4, .slice A156 rows_155.length c157)] ∧ s = ⟨R, [.row 79 2 A156 rows_155.length c157 cs158]⟩) ?_ ?_
    · refine CodeJ.block ?_
      refine CodeJ.loopM hl164 (fun (rows_101, i_107) e s => ∃ (A102 : Option Addr) (c103 : Nat) (cs104 : List Value), repL IM.nil cs104 rows_101 ∧ e = [(0, .slice A0_ p0_l.length c0_), (4, .slice A102 rows_101.length c103), (5, .int .i64 i_107)] ∧ s = ⟨R, [.row 79 2 A102 rows_101.length c103 cs104]⟩) ⟨none, 0, ([] : List Value), (repL_nil IM.nil), rfl, rfl⟩ (SubE.cons rfl (SubE.cons rfl (SubE.cons rfl (SubE.nil _)))) (SubL.p0 (SubL.nil _)) ?_
      rintro ⟨rows_101, i_107⟩ _ _ _ ⟨A102, c103, cs104, hr105, rfl, rfl⟩ h161 hne162
      (try dsimp only at h161); unfold winnowerref16_Runs_l0 at h161
      refine CodeJ.seq' ?_
      refine CodeJ.seq' ?_
      refine CodeJ.region ?_
      refine OpsJ.put rfl (OpJ.pure (OpP.move rfl) ?_)
      refine OpsJ.put rfl (OpJ.pure (OpP.move rfl) ?_)
      refine OpsJ.put rfl (OpJ.pure (OpP.len rfl) ?_)
      refine OpsJ.put rfl (OpJ.pure (OpP.lss rfl rfl) ?_)
      refine OpsJ.nil ?_
      by_cases hc166 : i_107 < ((p0_l.length : Nat) : Int)
      · rw [if_pos hc166] at h161
        refine CodeJ.cond_t rfl (decide_eq_true hc166) ?_
        refine CodeJ.skip ?_
        refine CodeJ.seq' ?_
        refine CodeJ.block ?_
        refine CodeJ.seq' ?_
        refine CodeJ.drawn (by kernel_rfl) (by kernel_rfl) ?_
        refine QuietJ.put rfl (OpQ.pure (OpP.move rfl) ?_)
        refine QuietJ.put rfl (OpQ.pure (OpP.gtr rfl rfl) ?_)
        refine QuietJ.put rfl (OpQ.pure (OpP.move rfl) ?_)
        by_cases hc167 : i_107 > 0
        · rw [if_pos hc167] at h161
          refine QuietJ.guard_y rfl rfl rfl rfl (decide_eq_true hc167) ?_
          refine QuietJ.put rfl (OpQ.pure (OpP.move rfl) ?_)
          refine QuietJ.guard_y rfl rfl rfl rfl (decide_eq_true hc167) ?_
          refine QuietJ.put rfl (OpQ.pure (OpP.move rfl) ?_)
          refine QuietJ.guard_y rfl rfl rfl rfl (decide_eq_true hc167) ?_
          obtain ⟨x168, hx169, h170⟩ := bind_ok h161
          clear h161
          have hE171 : RC _ (some ((adr A0_).add (Int.toNat i_107 * Dat.size Int))) [.int .i64 x168] := SlR.getF (α := Int) hA0_ hx169
          refine QuietJ.put rfl (OpQ.pure (OpP.ixR hA0_ rfl hx169 (by exact rfl) (by exact rfl) rfl rfl) ?_)
          refine QuietJ.guard_y rfl rfl rfl rfl (decide_eq_true hc167) ?_
          refine QuietJ.put rfl (OpQ.pure (OpP.ldR0 (by exact rfl) hE171 (IM.le_refl _) rfl rfl) ?_)
          refine QuietJ.guard_y rfl rfl rfl rfl (decide_eq_true hc167) ?_
          refine QuietJ.put rfl (OpQ.pure (OpP.move rfl) ?_)
          refine QuietJ.guard_y rfl rfl rfl rfl (decide_eq_true hc167) ?_
          refine QuietJ.put rfl (OpQ.pure (OpP.move rfl) ?_)
          refine QuietJ.guard_y rfl rfl rfl rfl (decide_eq_true hc167) ?_
          refine QuietJ.put rfl (OpQ.pure (OpP.sub64 rfl rfl) ?_)
          refine QuietJ.guard_y rfl rfl rfl rfl (decide_eq_true hc167) ?_
          obtain ⟨x172, hx173, h174⟩ := bind_ok h170
          clear h170
          have hE175 : RC _ (some ((adr A0_).add (Int.toNat (w64 (i_107 - 1)) * Dat.size Int))) [.int .i64 x172] := SlR.getF (α := Int) hA0_ hx173
          refine QuietJ.put rfl (OpQ.pure (OpP.ixR hA0_ rfl hx173 (by exact rfl) (by exact rfl) rfl rfl) ?_)
          refine QuietJ.guard_y rfl rfl rfl rfl (decide_eq_true hc167) ?_
          refine QuietJ.put rfl (OpQ.pure (OpP.ldR0 (by exact rfl) hE175 (IM.le_refl _) rfl rfl) ?_)
          refine QuietJ.guard_y rfl rfl rfl rfl (decide_eq_true hc167) ?_
          refine QuietJ.put rfl (OpQ.pure (OpP.eql rfl rfl) ?_)
          refine QuietJ.put rfl (OpQ.pure (OpP.pick_t rfl (decide_eq_true hc167) rfl) ?_)
          refine QuietJ.nil ?_
          by_cases hc176 : x168 = x172
          · rw [if_pos hc176] at h174
            refine CodeJ.cond_t rfl (decide_eq_true hc176) ?_
            obtain ⟨x186o4n1, hx186o4n2, h186_x186o4n1⟩ := bind_ok h174
            clear h174
            obtain ⟨q186o10n1, hq186o10n2, h186_q186o10n1⟩ := bind_ok h186_x186o4n1
            clear h186_x186o4n1
            refine CodeJ.mid (fun e s => repL IM.nil (lsplice cs104 (Int.toNat (w64 (((rows_101.length : Nat) : Int) - 1)) * Dat.size (Int × Int) + 0) [.int .i64 (w64 (x186o4n1.1 + 1))]) q186o10n1 ∧ e = [(0, .slice A0_ p0_l.length c0_), (4, .slice A102 rows_101.length c103), (5, .int .i64 i_107)] ∧ s = ⟨R, [.row 79 2 A102 rows_101.length c103 (lsplice cs104 (Int.toNat (w64 (((rows_101.length : Nat) : Int) - 1)) * Dat.size (Int × Int) + 0) [.int .i64 (w64 (x186o4n1.1 + 1))])]⟩) ?_ ?_
            · refine HoldJ.start [] (by kernel_rfl) ?_
              refine HoldJ.take 0 rfl (by kernel_rfl) rfl (OpP.move rfl) ⟨(IM.le_refl _), (SubL.nil _)⟩ ?_
              refine HoldJ.take 1 rfl (by kernel_rfl) rfl (OpP.move rfl) ⟨(IM.le_refl _), (SubL.nil _)⟩ ?_
              refine HoldJ.take 2 rfl (by kernel_rfl) rfl (OpP.len rfl) ⟨(IM.le_refl _), (SubL.nil _)⟩ ?_
              refine HoldJ.take 3 rfl (by kernel_rfl) rfl (OpP.sub64 rfl rfl) ⟨(IM.le_refl _), (SubL.nil _)⟩ ?_
              refine HoldJ.steps [4, 8] (by kernel_rfl) (all2 ?_ ?_)
              · have hE186o4n1 : ∀ j v, ([.int .i64 x186o4n1.1, .int .i64 x186o4n1.2] : List Value)[j]? = some v → (cs104)[Int.toNat (w64 (((rows_101.length : Nat) : Int) - 1)) * Dat.size (Int × Int) + j]? = some v := row_getF (α := Int × Int) hr105 hx186o4n2
                refine StepAt.put rfl rfl (OpJ.pure (OpP.ixW (List.Mem.head _) hr105 rfl hx186o4n2 (by exact rfl) (by exact rfl) rfl rfl) ?_)
                refine ⟨⟨(IM.le_refl _), (SubL.nil _)⟩, ?_⟩
                refine HoldJ.steps [5, 8] (by kernel_rfl) (all2 ?_ ?_)
                · refine StepAt.put rfl rfl (OpJ.pure (OpP.ixA (i0 := 0) (o := 0) rfl rfl (by decide) (by decide) rfl) ?_)
                  refine ⟨⟨(IM.le_refl _), (SubL.nil _)⟩, ?_⟩
                  refine HoldJ.steps [6, 8] (by kernel_rfl) (all2 ?_ ?_)
                  · refine StepAt.put rfl rfl (OpJ.pure (OpP.ldW (by exact rfl) (List.Mem.head _) hE186o4n1 rfl rfl) ?_)
                    refine ⟨⟨(IM.le_refl _), (SubL.nil _)⟩, ?_⟩
                    refine HoldJ.take 7 rfl (by kernel_rfl) rfl (OpP.add64 rfl rfl) ⟨(IM.le_refl _), (SubL.nil _)⟩ ?_
                    have hE186o8n1 : ∀ j v, ([.int .i64 x186o4n1.1, .int .i64 x186o4n1.2] : List Value)[j]? = some v → (cs104)[Int.toNat (w64 (((rows_101.length : Nat) : Int) - 1)) * Dat.size (Int × Int) + j]? = some v := row_getF (α := Int × Int) hr105 hx186o4n2
                    refine HoldJ.step 8 rfl (by kernel_rfl) rfl (OpJ.pure (OpP.ixW (List.Mem.head _) hr105 rfl hx186o4n2 (by exact rfl) (by exact rfl) rfl rfl) ?_)
                    refine ⟨⟨(IM.le_refl _), (SubL.nil _)⟩, ?_⟩
                    refine HoldJ.step 9 rfl (by kernel_rfl) rfl (OpJ.pure (OpP.ixA (i0 := 0) (o := 0) rfl rfl (by decide) (by decide) rfl) ?_)
                    refine ⟨⟨(IM.le_refl _), (SubL.nil _)⟩, ?_⟩
                    have hr186o10n1 : repL IM.nil (lsplice cs104 (Int.toNat (w64 (((rows_101.length : Nat) : Int) - 1)) * Dat.size (Int × Int) + 0) [.int .i64 (w64 (x186o4n1.1 + 1))]) q186o10n1 := setF_rep (c1 := []) (mid := [.int .i64 x186o4n1.1]) (us := [.int .i64 (w64 (x186o4n1.1 + 1))]) (c2 := [.int .i64 x186o4n1.2]) hq186o10n2 hx186o4n2 rfl rfl rfl hr105
                    refine HoldJ.step_act 10 rfl (by kernel_rfl) (OpJ.stWf (c1 := []) (mid := [.int .i64 x186o4n1.1]) (us := [.int .i64 (w64 (x186o4n1.1 + 1))]) (c2 := [.int .i64 x186o4n1.2]) hq186o10n2 hx186o4n2 rfl rfl rfl hr105 rfl rfl (List.Perm.refl _) rfl rfl rfl ?_)
                    refine ⟨⟨(IM.le_refl _), (SubL.nil _)⟩, ?_⟩
                    refine HoldJ.fin (by kernel_rfl) ?_
                    exact ⟨_, _, _, ⟨hr186o10n1, rfl, rfl⟩, IM.le_refl _, (SubE.cons rfl (SubE.cons rfl (SubE.cons rfl (SubE.nil _)))), (SubL.p0 (SubL.nil _))⟩
                  · have hE186o8n1 : ∀ j v, ([.int .i64 x186o4n1.1, .int .i64 x186o4n1.2] : List Value)[j]? = some v → (cs104)[Int.toNat (w64 (((rows_101.length : Nat) : Int) - 1)) * Dat.size (Int × Int) + j]? = some v := row_getF (α := Int × Int) hr105 hx186o4n2
                    refine StepAt.put rfl rfl (OpJ.pure (OpP.ixW (List.Mem.head _) hr105 rfl hx186o4n2 (by exact rfl) (by exact rfl) rfl rfl) ?_)
                    refine ⟨⟨(IM.le_refl _), (SubL.nil _)⟩, ?_⟩
                    refine HoldJ.step 6 rfl (by kernel_rfl) rfl (OpJ.pure (OpP.ldW (by exact rfl) (List.Mem.head _) hE186o4n1 rfl rfl) ?_)
                    refine ⟨⟨(IM.le_refl _), (SubL.nil _)⟩, ?_⟩
                    refine HoldJ.take 7 rfl (by kernel_rfl) rfl (OpP.add64 rfl rfl) ⟨(IM.le_refl _), (SubL.nil _)⟩ ?_
                    refine HoldJ.step 9 rfl (by kernel_rfl) rfl (OpJ.pure (OpP.ixA (i0 := 0) (o := 0) rfl rfl (by decide) (by decide) rfl) ?_)
                    refine ⟨⟨(IM.le_refl _), (SubL.nil _)⟩, ?_⟩
                    have hr186o10n1 : repL IM.nil (lsplice cs104 (Int.toNat (w64 (((rows_101.length : Nat) : Int) - 1)) * Dat.size (Int × Int) + 0) [.int .i64 (w64 (x186o4n1.1 + 1))]) q186o10n1 := setF_rep (c1 := []) (mid := [.int .i64 x186o4n1.1]) (us := [.int .i64 (w64 (x186o4n1.1 + 1))]) (c2 := [.int .i64 x186o4n1.2]) hq186o10n2 hx186o4n2 rfl rfl rfl hr105
                    refine HoldJ.step_act 10 rfl (by kernel_rfl) (OpJ.stWf (c1 := []) (mid := [.int .i64 x186o4n1.1]) (us := [.int .i64 (w64 (x186o4n1.1 + 1))]) (c2 := [.int .i64 x186o4n1.2]) hq186o10n2 hx186o4n2 rfl rfl rfl hr105 rfl rfl (List.Perm.refl _) rfl rfl rfl ?_)
                    refine ⟨⟨(IM.le_refl _), (SubL.nil _)⟩, ?_⟩
                    refine HoldJ.fin (by kernel_rfl) ?_
                    exact ⟨_, _, _, ⟨hr186o10n1, rfl, rfl⟩, IM.le_refl _, (SubE.cons rfl (SubE.cons rfl (SubE.cons rfl (SubE.nil _)))), (SubL.p0 (SubL.nil _))⟩
                · have hE186o8n1 : ∀ j v, ([.int .i64 x186o4n1.1, .int .i64 x186o4n1.2] : List Value)[j]? = some v → (cs104)[Int.toNat (w64 (((rows_101.length : Nat) : Int) - 1)) * Dat.size (Int × Int) + j]? = some v := row_getF (α := Int × Int) hr105 hx186o4n2
                  refine StepAt.put rfl rfl (OpJ.pure (OpP.ixW (List.Mem.head _) hr105 rfl hx186o4n2 (by exact rfl) (by exact rfl) rfl rfl) ?_)
                  refine ⟨⟨(IM.le_refl _), (SubL.nil _)⟩, ?_⟩
                  refine HoldJ.step 5 rfl (by kernel_rfl) rfl (OpJ.pure (OpP.ixA (i0 := 0) (o := 0) rfl rfl (by decide) (by decide) rfl) ?_)
                  refine ⟨⟨(IM.le_refl _), (SubL.nil _)⟩, ?_⟩
                  refine HoldJ.step 6 rfl (by kernel_rfl) rfl (OpJ.pure (OpP.ldW (by exact rfl) (List.Mem.head _) hE186o4n1 rfl rfl) ?_)
                  refine ⟨⟨(IM.le_refl _), (SubL.nil _)⟩, ?_⟩
                  refine HoldJ.take 7 rfl (by kernel_rfl) rfl (OpP.add64 rfl rfl) ⟨(IM.le_refl _), (SubL.nil _)⟩ ?_
                  refine HoldJ.step 9 rfl (by kernel_rfl) rfl (OpJ.pure (OpP.ixA (i0 := 0) (o := 0) rfl rfl (by decide) (by decide) rfl) ?_)
                  refine ⟨⟨(IM.le_refl _), (SubL.nil _)⟩, ?_⟩
                  have hr186o10n1 : repL IM.nil (lsplice cs104 (Int.toNat (w64 (((rows_101.length : Nat) : Int) - 1)) * Dat.size (Int × Int) + 0) [.int .i64 (w64 (x186o4n1.1 + 1))]) q186o10n1 := setF_rep (c1 := []) (mid := [.int .i64 x186o4n1.1]) (us := [.int .i64 (w64 (x186o4n1.1 + 1))]) (c2 := [.int .i64 x186o4n1.2]) hq186o10n2 hx186o4n2 rfl rfl rfl hr105
                  refine HoldJ.step_act 10 rfl (by kernel_rfl) (OpJ.stWf (c1 := []) (mid := [.int .i64 x186o4n1.1]) (us := [.int .i64 (w64 (x186o4n1.1 + 1))]) (c2 := [.int .i64 x186o4n1.2]) hq186o10n2 hx186o4n2 rfl rfl rfl hr105 rfl rfl (List.Perm.refl _) rfl rfl rfl ?_)
                  refine ⟨⟨(IM.le_refl _), (SubL.nil _)⟩, ?_⟩
                  refine HoldJ.fin (by kernel_rfl) ?_
                  exact ⟨_, _, _, ⟨hr186o10n1, rfl, rfl⟩, IM.le_refl _, (SubE.cons rfl (SubE.cons rfl (SubE.cons rfl (SubE.nil _)))), (SubL.p0 (SubL.nil _))⟩
              · have hE186o8n1 : ∀ j v, ([.int .i64 x186o4n1.1, .int .i64 x186o4n1.2] : List Value)[j]? = some v → (cs104)[Int.toNat (w64 (((rows_101.length : Nat) : Int) - 1)) * Dat.size (Int × Int) + j]? = some v := row_getF (α := Int × Int) hr105 hx186o4n2
                refine StepAt.put rfl rfl (OpJ.pure (OpP.ixW (List.Mem.head _) hr105 rfl hx186o4n2 (by exact rfl) (by exact rfl) rfl rfl) ?_)
                refine ⟨⟨(IM.le_refl _), (SubL.nil _)⟩, ?_⟩
                have hE186o4n1 : ∀ j v, ([.int .i64 x186o4n1.1, .int .i64 x186o4n1.2] : List Value)[j]? = some v → (cs104)[Int.toNat (w64 (((rows_101.length : Nat) : Int) - 1)) * Dat.size (Int × Int) + j]? = some v := row_getF (α := Int × Int) hr105 hx186o4n2
                refine HoldJ.step 4 rfl (by kernel_rfl) rfl (OpJ.pure (OpP.ixW (List.Mem.head _) hr105 rfl hx186o4n2 (by exact rfl) (by exact rfl) rfl rfl) ?_)
                refine ⟨⟨(IM.le_refl _), (SubL.nil _)⟩, ?_⟩
                refine HoldJ.step 5 rfl (by kernel_rfl) rfl (OpJ.pure (OpP.ixA (i0 := 0) (o := 0) rfl rfl (by decide) (by decide) rfl) ?_)
                refine ⟨⟨(IM.le_refl _), (SubL.nil _)⟩, ?_⟩
                refine HoldJ.step 6 rfl (by kernel_rfl) rfl (OpJ.pure (OpP.ldW (by exact rfl) (List.Mem.head _) hE186o4n1 rfl rfl) ?_)
                refine ⟨⟨(IM.le_refl _), (SubL.nil _)⟩, ?_⟩
                refine HoldJ.take 7 rfl (by kernel_rfl) rfl (OpP.add64 rfl rfl) ⟨(IM.le_refl _), (SubL.nil _)⟩ ?_
                refine HoldJ.step 9 rfl (by kernel_rfl) rfl (OpJ.pure (OpP.ixA (i0 := 0) (o := 0) rfl rfl (by decide) (by decide) rfl) ?_)
                refine ⟨⟨(IM.le_refl _), (SubL.nil _)⟩, ?_⟩
                have hr186o10n1 : repL IM.nil (lsplice cs104 (Int.toNat (w64 (((rows_101.length : Nat) : Int) - 1)) * Dat.size (Int × Int) + 0) [.int .i64 (w64 (x186o4n1.1 + 1))]) q186o10n1 := setF_rep (c1 := []) (mid := [.int .i64 x186o4n1.1]) (us := [.int .i64 (w64 (x186o4n1.1 + 1))]) (c2 := [.int .i64 x186o4n1.2]) hq186o10n2 hx186o4n2 rfl rfl rfl hr105
                refine HoldJ.step_act 10 rfl (by kernel_rfl) (OpJ.stWf (c1 := []) (mid := [.int .i64 x186o4n1.1]) (us := [.int .i64 (w64 (x186o4n1.1 + 1))]) (c2 := [.int .i64 x186o4n1.2]) hq186o10n2 hx186o4n2 rfl rfl rfl hr105 rfl rfl (List.Perm.refl _) rfl rfl rfl ?_)
                refine ⟨⟨(IM.le_refl _), (SubL.nil _)⟩, ?_⟩
                refine HoldJ.fin (by kernel_rfl) ?_
                exact ⟨_, _, _, ⟨hr186o10n1, rfl, rfl⟩, IM.le_refl _, (SubE.cons rfl (SubE.cons rfl (SubE.cons rfl (SubE.nil _)))), (SubL.p0 (SubL.nil _))⟩
            · rintro _ _ ⟨hr187, rfl, rfl⟩
              refine CodeJ.region ?_
              refine OpsJ.put rfl (OpJ.pure (OpP.move rfl) ?_)
              refine OpsJ.put rfl (OpJ.pure (OpP.add64 rfl rfl) ?_)
              refine OpsJ.put rfl (OpJ.pure (OpP.assign rfl) ?_)
              refine OpsJ.nil ?_
              obtain rfl := Option.some.inj h186_q186o10n1
              exact ⟨_, _, _, _, rfl, ⟨A102, c103, (lsplice cs104 (Int.toNat (w64 (((rows_101.length : Nat) : Int) - 1)) * Dat.size (Int × Int) + 0) [.int .i64 (w64 (x186o4n1.1 + 1))]), hr187, rfl, rfl⟩, IM.le_refl _, (SubE.cons rfl (SubE.cons (slot_len (set_len hq186o10n2 rfl)) (SubE.cons rfl (SubE.nil _)))), (SubL.len (set_len hq186o10n2 rfl) (SubL.p0 (SubL.nil _)))⟩
          · rw [if_neg hc176] at h174
            refine CodeJ.cond_f rfl (decide_eq_false hc176) ?_
            refine CodeJ.region ?_
            refine OpsJ.put rfl (OpJ.pure (OpP.move rfl) ?_)
            refine OpsJ.put rfl (OpJ.pure (OpP.move rfl) ?_)
            refine OpsJ.put rfl (OpJ.pure (OpP.move rfl) ?_)
            have hE188 : RC _ (some ((adr A0_).add (Int.toNat i_107 * Dat.size Int))) [.int .i64 x168] := SlR.getF (α := Int) hA0_ hx169
            refine OpsJ.put rfl (OpJ.pure (OpP.ixR hA0_ rfl hx169 (by exact rfl) (by exact rfl) rfl rfl) ?_)
            refine OpsJ.put rfl (OpJ.pure (OpP.ldR0 (by exact rfl) hE188 (IM.le_refl _) rfl rfl) ?_)
            refine OpsJ.put rfl (OpJ.pure (OpP.buildA (cs := [.int .i64 1, .int .i64 x168]) rfl (by exact rfl) (by exact rfl)) ?_)
            have hr190 : repL IM.nil [.int .i64 1, .int .i64 x168] ([(1, x168)] : List (Int × Int)) := (repL_cons (c1 := [.int .i64 1, .int .i64 x168]) (show Dat.rep _ _ (1, x168) from ⟨[.int .i64 1], [.int .i64 x168], rfl, rfl, rfl⟩) (repL_nil _))
            refine OpsJ.put rfl (OpJ.buildSliceC (cs := [.int .i64 1, .int .i64 x168]) rfl rfl (by exact rfl) (by exact rfl) (by exact rfl) (by exact rfl) (fun g189 => ?_))
            obtain ⟨q192, hq193, h194⟩ := bind_ok h174
            clear h174
            have hr197 : repL IM.nil (cs104 ++ ([.int .i64 1, .int .i64 x168] : List Value)) q192 := app_rep hq193 hr105 hr190
            refine OpsJ.put rfl (OpJ.appW hq193 rfl rfl (Src.ofRow (List.Mem.head _)) hr190 (by exact rfl) (List.Perm.swap _ _ _) (by exact rfl) (by exact rfl) (by exact rfl) rfl rfl (fun A195 c196 => ?_))
            refine OpsJ.put rfl (OpJ.pure (OpP.assign rfl) ?_)
            refine OpsJ.nil ?_
            refine CodeJ.region ?_
            refine OpsJ.put rfl (OpJ.pure (OpP.move rfl) ?_)
            refine OpsJ.put rfl (OpJ.pure (OpP.add64 rfl rfl) ?_)
            refine OpsJ.put rfl (OpJ.pure (OpP.assign rfl) ?_)
            refine OpsJ.nil ?_
            obtain rfl := Option.some.inj h194
            exact ⟨_, _, _, _, rfl, ⟨A195, c196, (cs104 ++ ([.int .i64 1, .int .i64 x168] : List Value)), hr197, rfl, rfl⟩, IM.le_refl _, (SubE.cons rfl (SubE.cons rfl (SubE.cons rfl (SubE.nil _)))), (SubL.p0 (SubL.nil _))⟩
        · rw [if_neg hc167] at h161
          refine QuietJ.guard_n rfl rfl rfl rfl (decide_eq_false hc167) ?_
          refine QuietJ.guard_n rfl rfl rfl rfl (decide_eq_false hc167) ?_
          refine QuietJ.guard_n rfl rfl rfl rfl (decide_eq_false hc167) ?_
          refine QuietJ.guard_n rfl rfl rfl rfl (decide_eq_false hc167) ?_
          refine QuietJ.guard_n rfl rfl rfl rfl (decide_eq_false hc167) ?_
          refine QuietJ.guard_n rfl rfl rfl rfl (decide_eq_false hc167) ?_
          refine QuietJ.guard_n rfl rfl rfl rfl (decide_eq_false hc167) ?_
          refine QuietJ.guard_n rfl rfl rfl rfl (decide_eq_false hc167) ?_
          refine QuietJ.guard_n rfl rfl rfl rfl (decide_eq_false hc167) ?_
          refine QuietJ.guard_n rfl rfl rfl rfl (decide_eq_false hc167) ?_
          refine QuietJ.put rfl (OpQ.pure (OpP.pick_f rfl (decide_eq_false hc167) rfl) ?_)
          refine QuietJ.nil ?_
          refine CodeJ.cond_f rfl rfl ?_
          refine CodeJ.region ?_
          refine OpsJ.put rfl (OpJ.pure (OpP.move rfl) ?_)
          refine OpsJ.put rfl (OpJ.pure (OpP.move rfl) ?_)
          refine OpsJ.put rfl (OpJ.pure (OpP.move rfl) ?_)
          obtain ⟨x199, hx200, h201⟩ := bind_ok h161
          clear h161
          have hE202 : RC _ (some ((adr A0_).add (Int.toNat i_107 * Dat.size Int))) [.int .i64 x199] := SlR.getF (α := Int) hA0_ hx200
          refine OpsJ.put rfl (OpJ.pure (OpP.ixR hA0_ rfl hx200 (by exact rfl) (by exact rfl) rfl rfl) ?_)
          refine OpsJ.put rfl (OpJ.pure (OpP.ldR0 (by exact rfl) hE202 (IM.le_refl _) rfl rfl) ?_)
          refine OpsJ.put rfl (OpJ.pure (OpP.buildA (cs := [.int .i64 1, .int .i64 x199]) rfl (by exact rfl) (by exact rfl)) ?_)
          have hr204 : repL IM.nil [.int .i64 1, .int .i64 x199] ([(1, x199)] : List (Int × Int)) := (repL_cons (c1 := [.int .i64 1, .int .i64 x199]) (show Dat.rep _ _ (1, x199) from ⟨[.int .i64 1], [.int .i64 x199], rfl, rfl, rfl⟩) (repL_nil _))
          refine OpsJ.put rfl (OpJ.buildSliceC (cs := [.int .i64 1, .int .i64 x199]) rfl rfl (by exact rfl) (by exact rfl) (by exact rfl) (by exact rfl) (fun g203 => ?_))
          obtain ⟨q206, hq207, h208⟩ := bind_ok h201
          clear h201
          have hr211 : repL IM.nil (cs104 ++ ([.int .i64 1, .int .i64 x199] : List Value)) q206 := app_rep hq207 hr105 hr204
          refine OpsJ.put rfl (OpJ.appW hq207 rfl rfl (Src.ofRow (List.Mem.head _)) hr204 (by exact rfl) (List.Perm.swap _ _ _) (by exact rfl) (by exact rfl) (by exact rfl) rfl rfl (fun A209 c210 => ?_))
          refine OpsJ.put rfl (OpJ.pure (OpP.assign rfl) ?_)
          refine OpsJ.nil ?_
          refine CodeJ.region ?_
          refine OpsJ.put rfl (OpJ.pure (OpP.move rfl) ?_)
          refine OpsJ.put rfl (OpJ.pure (OpP.add64 rfl rfl) ?_)
          refine OpsJ.put rfl (OpJ.pure (OpP.assign rfl) ?_)
          refine OpsJ.nil ?_
          obtain rfl := Option.some.inj h208
          exact ⟨_, _, _, _, rfl, ⟨A209, c210, (cs104 ++ ([.int .i64 1, .int .i64 x199] : List Value)), hr211, rfl, rfl⟩, IM.le_refl _, (SubE.cons rfl (SubE.cons rfl (SubE.cons rfl (SubE.nil _)))), (SubL.p0 (SubL.nil _))⟩
      · rw [if_neg hc166] at h161
        refine CodeJ.cond_f rfl (decide_eq_false hc166) ?_
        refine CodeJ.exit rfl ?_
        obtain rfl := Option.some.inj h161
        have ht213 := hne162 _ rfl
        exact ⟨_, _, _, ⟨A102, c103, cs104, rows_101, ht213, hr105, rfl, rfl⟩, IM.le_refl _, (SubE.cons rfl (SubE.nil _)), (SubL.p0 (SubL.nil _))⟩
    · rintro _ _ ⟨A156, c157, cs158, rows_155, rfl, hr159, rfl, rfl⟩
      (try dsimp only at h165)
      refine CodeJ.seq' ?_
      refine CodeJ.region ?_
      refine OpsJ.put rfl (OpJ.pure (OpP.move rfl) ?_)
      refine OpsJ.put rfl (OpJ.pure (OpP.len rfl) ?_)
      have hr215 : repL IM.nil [.int .i64 2, .int .i64 ((rows_155.length : Nat) : Int)] ([2, ((rows_155.length : Nat) : Int)] : List Int) := (repL_cons (c1 := [.int .i64 2]) (show Dat.rep _ _ 2 from rfl) (repL_cons (c1 := [.int .i64 ((rows_155.length : Nat) : Int)]) (show Dat.rep _ _ ((rows_155.length : Nat) : Int) from rfl) (repL_nil _)))
      refine OpsJ.put rfl (OpJ.buildSliceC (cs := [.int .i64 2, .int .i64 ((rows_155.length : Nat) : Int)]) rfl rfl (by exact rfl) (by exact rfl) (by exact rfl) (by exact rfl) (fun g214 => ?_))
      refine OpsJ.rowle (List.Perm.refl _) (fun hcap217 _ => ?_)
      obtain ⟨y221, hy222, h223⟩ := bind_ok h165
      clear h165
      refine OpsJ.put rfl (OpJ.callP Split.nil rfl (fun R218 hle219 hin220 => winnowerref1_Nums_w R218 (some ⟨g214, 0, none⟩) 2 2 ([2, ((rows_155.length : Nat) : Int)] : List Int) (SlR.of_row (inRow hin220 (List.Mem.head _)) hr215 (IM.le_nil _)) rfl hcap217  _ hy222) ?_)
      rintro _ _ _ ⟨A224, c225, cs226, rfl, hr227, rfl⟩
      refine OpsJ.put rfl (OpJ.pure (OpP.assign rfl) ?_)
      refine OpsJ.nil ?_
      refine CodeJ.seq' ?_
      refine CodeJ.seq' ?_
      refine CodeJ.region ?_
      refine OpsJ.put rfl (OpJ.pure (OpP.assign rfl) ?_)
      refine OpsJ.nil ?_
      obtain ⟨t497, hl498, h499⟩ := bind_ok h223
      clear h223
      refine CodeJ.mid (fun e s => ∃ (A490 : Option Addr) (c491 : Nat) (cs492 : List Value) (b_489 : List UInt8), b_489 = t497 ∧ repL IM.nil cs492 b_489 ∧ e = [(6, .slice A490 b_489.length c491)] ∧ s = ⟨R, [.row 5 1 A490 b_489.length c491 cs492]⟩) ?_ ?_
      · refine CodeJ.block ?_
        refine CodeJ.loopM hl498 (fun (b_400, i_406) e s => ∃ (A401 : Option Addr) (c402 : Nat) (cs403 : List Value), repL IM.nil cs403 b_400 ∧ e = [(4, .slice A156 rows_155.length c157), (6, .slice A401 b_400.length c402), (7, .int .i64 i_406)] ∧ s = ⟨R, [.row 79 2 A156 rows_155.length c157 cs158, .row 5 1 A401 b_400.length c402 cs403]⟩) ⟨A224, c225, cs226, hr227, rfl, rfl⟩ (SubE.cons rfl (SubE.cons rfl (SubE.cons rfl (SubE.nil _)))) (SubL.p2 (SubL.p0 (SubL.nil _))) ?_
        rintro ⟨b_400, i_406⟩ _ _ _ ⟨A401, c402, cs403, hr404, rfl, rfl⟩ h495 hne496
        (try dsimp only at h495); unfold winnowerref16_Runs_l1 at h495
        refine CodeJ.seq' ?_
        refine CodeJ.seq' ?_
        refine CodeJ.region ?_
        refine OpsJ.put rfl (OpJ.pure (OpP.move rfl) ?_)
        refine OpsJ.put rfl (OpJ.pure (OpP.move rfl) ?_)
        refine OpsJ.put rfl (OpJ.pure (OpP.len rfl) ?_)
        refine OpsJ.put rfl (OpJ.pure (OpP.lss rfl rfl) ?_)
        refine OpsJ.nil ?_
        by_cases hc500 : i_406 < ((rows_155.length : Nat) : Int)
        · rw [if_pos hc500] at h495
          refine CodeJ.cond_t rfl (decide_eq_true hc500) ?_
          refine CodeJ.skip ?_
          refine CodeJ.seq' ?_
          refine CodeJ.block ?_
          refine HoldJ.start [.row 79 2 A156 rows_155.length c157 cs158] (by kernel_rfl) ?_
          refine HoldJ.take 0 rfl (by kernel_rfl) rfl (OpP.move rfl) ⟨(IM.le_refl _), (SubL.p0 (SubL.nil _))⟩ ?_
          refine HoldJ.take 1 rfl (by kernel_rfl) rfl (OpP.move rfl) ⟨(IM.le_refl _), (SubL.p0 (SubL.nil _))⟩ ?_
          refine HoldJ.take 2 rfl (by kernel_rfl) rfl (OpP.move rfl) ⟨(IM.le_refl _), (SubL.p0 (SubL.nil _))⟩ ?_
          obtain ⟨x555, hx556, h557⟩ := bind_ok h495
          clear h495
          have hE558 : ∀ j v, ([.int .i64 x555.1, .int .i64 x555.2] : List Value)[j]? = some v → (cs158)[Int.toNat i_406 * Dat.size (Int × Int) + j]? = some v := row_getF (α := Int × Int) hr159 hx556
          refine HoldJ.take 3 rfl (by kernel_rfl) rfl (OpP.ixW (List.Mem.head _) hr159 rfl hx556 (by exact rfl) (by exact rfl) rfl rfl) ⟨(IM.le_refl _), (SubL.p0 (SubL.nil _))⟩ ?_
          refine HoldJ.take 4 rfl (by kernel_rfl) rfl (OpP.ixA (i0 := 0) (o := 0) rfl rfl (by decide) (by decide) rfl) ⟨(IM.le_refl _), (SubL.p0 (SubL.nil _))⟩ ?_
          refine HoldJ.take 5 rfl (by kernel_rfl) rfl (OpP.ldW (by exact rfl) (List.Mem.head _) hE558 rfl rfl) ⟨(IM.le_refl _), (SubL.p0 (SubL.nil _))⟩ ?_
          refine HoldJ.take 6 rfl (by kernel_rfl) rfl (OpP.move rfl) ⟨(IM.le_refl _), (SubL.p0 (SubL.nil _))⟩ ?_
          refine HoldJ.take 7 rfl (by kernel_rfl) rfl (OpP.move rfl) ⟨(IM.le_refl _), (SubL.p0 (SubL.nil _))⟩ ?_
          have hE559 : ∀ j v, ([.int .i64 x555.1, .int .i64 x555.2] : List Value)[j]? = some v → (cs158)[Int.toNat i_406 * Dat.size (Int × Int) + j]? = some v := row_getF (α := Int × Int) hr159 hx556
          refine HoldJ.take 8 rfl (by kernel_rfl) rfl (OpP.ixW (List.Mem.head _) hr159 rfl hx556 (by exact rfl) (by exact rfl) rfl rfl) ⟨(IM.le_refl _), (SubL.p0 (SubL.nil _))⟩ ?_
          refine HoldJ.take 9 rfl (by kernel_rfl) rfl (OpP.ixA (i0 := 1) (o := 1) rfl rfl (by decide) (by decide) rfl) ⟨(IM.le_refl _), (SubL.p0 (SubL.nil _))⟩ ?_
          refine HoldJ.take 10 rfl (by kernel_rfl) rfl (OpP.ldW (by exact rfl) (List.Mem.head _) hE559 rfl rfl) ⟨(IM.le_refl _), (SubL.p0 (SubL.nil _))⟩ ?_
          have hr561 : repL IM.nil [.int .i64 x555.1, .int .i64 x555.2] ([x555.1, x555.2] : List Int) := (repL_cons (c1 := [.int .i64 x555.1]) (show Dat.rep _ _ x555.1 from rfl) (repL_cons (c1 := [.int .i64 x555.2]) (show Dat.rep _ _ x555.2 from rfl) (repL_nil _)))
          refine HoldJ.step 11 rfl (by kernel_rfl) rfl (OpJ.buildSliceC (cs := [.int .i64 x555.1, .int .i64 x555.2]) rfl rfl (by exact rfl) (by exact rfl) (by exact rfl) (by exact rfl) (fun g560 => ?_))
          refine ⟨⟨(IM.le_refl _), (SubL.p1 (SubL.nil _))⟩, ?_⟩
          refine HoldJ.rowle (List.Perm.refl _) (fun hcap563 _ => ?_)
          obtain ⟨y567, hy568, h569⟩ := bind_ok h557
          clear h557
          refine HoldJ.step 12 rfl (by kernel_rfl) rfl (OpJ.callP Split.nil rfl (fun R564 hle565 hin566 => winnowerref1_Nums_w R564 (some ⟨g560, 0, none⟩) 2 2 ([x555.1, x555.2] : List Int) (SlR.of_row (inRow hin566 (List.Mem.head _)) hr561 (IM.le_nil _)) rfl hcap563  _ hy568) ?_)
          rintro _ _ _ ⟨A570, c571, cs572, rfl, hr573, rfl⟩
          refine ⟨⟨(IM.le_refl _), (SubL.p2 (SubL.nil _))⟩, ?_⟩
          obtain ⟨q575, hq576, h577⟩ := bind_ok h569
          clear h569
          have hr580 : repL IM.nil (cs403 ++ cs572) q575 := app_rep hq576 hr404 hr573
          refine HoldJ.step 13 rfl (by kernel_rfl) rfl (OpJ.appW hq576 rfl rfl (Src.ofRow (List.Mem.head _)) hr573 (by exact rfl) (permm3 _ _ _ _ _) (by exact rfl) (by exact rfl) (by exact rfl) rfl rfl (fun A578 c579 => ?_))
          refine ⟨⟨(IM.le_refl _), (SubL.p3 (SubL.nil _))⟩, ?_⟩
          refine HoldJ.take 14 rfl (by kernel_rfl) rfl (OpP.assign rfl) ⟨(IM.le_refl _), (SubL.p3 (SubL.nil _))⟩ ?_
          refine HoldJ.fin (by kernel_rfl) ?_
          refine CodeJ.region ?_
          refine OpsJ.put rfl (OpJ.pure (OpP.move rfl) ?_)
          refine OpsJ.put rfl (OpJ.pure (OpP.add64 rfl rfl) ?_)
          refine OpsJ.put rfl (OpJ.pure (OpP.assign rfl) ?_)
          refine OpsJ.nil ?_
          obtain rfl := Option.some.inj h577
          exact ⟨_, _, _, _, rfl, ⟨A578, c579, (cs403 ++ cs572), hr580, rfl, rfl⟩, IM.le_refl _, (SubE.cons rfl (SubE.cons rfl (SubE.cons rfl (SubE.nil _)))), (SubL.p3 (SubL.p0 (SubL.nil _)))⟩
        · rw [if_neg hc500] at h495
          refine CodeJ.cond_f rfl (decide_eq_false hc500) ?_
          refine CodeJ.exit rfl ?_
          obtain rfl := Option.some.inj h495
          have ht582 := hne496 _ rfl
          exact ⟨_, _, _, ⟨A401, c402, cs403, b_400, ht582, hr404, rfl, rfl⟩, IM.le_refl _, (SubE.cons rfl (SubE.nil _)), (SubL.p1 (SubL.nil _))⟩
      · rintro _ _ ⟨A490, c491, cs492, b_489, rfl, hr493, rfl, rfl⟩
        (try dsimp only at h499)
        refine CodeJ.seq' ?_
        refine CodeJ.region ?_
        refine OpsJ.put rfl (OpJ.pure (OpP.move rfl) ?_)
        refine OpsJ.put rfl (OpJ.pure (OpP.assign rfl) ?_)
        refine OpsJ.put rfl (OpJ.pure (OpP.assign rfl) ?_)
        refine OpsJ.nil ?_
        refine CodeJ.ret' ?_
        obtain rfl := Option.some.inj h499
        exact Ret.mk0 ⟨A490, c491, cs492, rfl, hr493, rfl⟩ (ResJ.two Try.results35 rfl rfl) (IM.le_refl _) (SubL.p0 (SubL.nil _))
  · rw [if_neg hc7] at h6
    refine CodeJ.cond_t rfl (congrArg Bool.not (Bool.eq_false_iff.2 hc7)) ?_
    refine CodeJ.seq' ?_
    refine CodeJ.region ?_
    refine OpsJ.put rfl (OpJ.pure (OpP.assign rfl) ?_)
    refine OpsJ.put rfl (OpJ.pure (OpP.assign rfl) ?_)
    refine OpsJ.nil ?_
    refine CodeJ.nilrow 5 1 ?_
    refine CodeJ.ret' ?_
    obtain rfl := Option.some.inj h6
    exact Ret.mk0 ⟨none, 0, ([] : List Value), rfl, (repL_nil IM.nil), rfl⟩ (ResJ.two Try.results35 rfl rfl) (IM.le_refl _) (SubL.p0 (SubL.nil _))
theorem winnowerref16_Best_w (R : IM) (A0_ : Option Addr) (n0_ c0_ : Nat) (p0_l : List Int) (hA0_ : SlR R A0_ p0_l) (hn0_ : p0_l.length = n0_) (hc0_ : n0_ ≤ c0_) (y : (List UInt8) × Int) (h : winnowerref16_Best p0_l = some y) :
    CallJ Try.prog 37 #[.slice A0_ n0_ c0_] ⟨R, []⟩ (fun v D hs' => ∃ (B1 : Option Addr) (d2 : Nat) (ds3 : List Value), v = .tuple #[.slice B1 y.1.length d2, .int .i64 y.2] ∧ repL IM.nil ds3 y.1 ∧ hs' = [.row 5 1 B1 y.1.length d2 ds3]) := by
  subst hn0_
  unfold winnowerref16_Best at h
  refine CallJ.of1 Try.func37 rfl Try.ntmps37 rfl (fun W0 => ?_)
  refine CodeJ.seq' ?_
  refine CodeJ.region ?_
  refine OpsJ.put rfl (OpJ.pure (OpP.assign rfl) ?_)
  refine OpsJ.put rfl (OpJ.pure (OpP.assign rfl) ?_)
  refine OpsJ.nil ?_
  refine CodeJ.seq' ?_
  refine CodeJ.region ?_
  refine OpsJ.put rfl (OpJ.pure (OpP.move rfl) ?_)
  obtain ⟨y4, hy5, h6⟩ := bind_ok h
  clear h
  refine OpsJ.put rfl (OpJ.callP Split.nil rfl (fun R1 hle2 hin3 => winnowerref16_Plain_w R1 A0_ p0_l.length c0_ p0_l (SlR.mono hA0_ (IM.le_trans (IM.le_refl _) hle2)) rfl hc0_  _ hy5) ?_)
  rintro _ _ _ ⟨A7, c8, cs9, rfl, hr10, rfl⟩
  refine OpsJ.put rfl (OpJ.pure (OpP.move rfl) ?_)
  refine OpsJ.put rfl (OpJ.pure (OpP.extract rfl rfl) ?_)
  refine OpsJ.put rfl (OpJ.pure (OpP.extract rfl rfl) ?_)
  refine OpsJ.put rfl (OpJ.pure (OpP.assign rfl) ?_)
  refine OpsJ.put rfl (OpJ.pure (OpP.assign rfl) ?_)
  refine OpsJ.nil ?_
  refine CodeJ.seq' ?_
  refine CodeJ.seq' ?_
  refine CodeJ.region ?_
  refine OpsJ.put rfl (OpJ.pure (OpP.move rfl) ?_)
  refine OpsJ.put rfl (OpJ.pure (OpP.neq rfl rfl) ?_)
  refine OpsJ.nil ?_
  by_cases hc12 : y4.2 ≠ 0
  · rw [if_pos hc12] at h6
    refine CodeJ.cond_t rfl (decide_eq_true hc12) ?_
    refine CodeJ.seq' ?_
    refine CodeJ.region ?_
    refine OpsJ.put rfl (OpJ.pure (OpP.move rfl) ?_)
    refine OpsJ.put rfl (OpJ.pure (OpP.assign rfl) ?_)
    refine OpsJ.put rfl (OpJ.pure (OpP.assign rfl) ?_)
    refine OpsJ.nil ?_
    refine CodeJ.nilrow 5 1 ?_
    refine CodeJ.ret' ?_
    obtain rfl := Option.some.inj h6
    exact Ret.mk0 ⟨none, 0, ([] : List Value), rfl, (repL_nil IM.nil), rfl⟩ (ResJ.two Try.results37 rfl rfl) (IM.le_refl _) (SubL.p0 (SubL.nil _))
  · rw [if_neg hc12] at h6
    refine CodeJ.cond_f rfl (decide_eq_false hc12) ?_
    refine CodeJ.skip ?_
    refine CodeJ.seq' ?_
    refine CodeJ.region ?_
    refine OpsJ.put rfl (OpJ.pure (OpP.move rfl) ?_)
    obtain ⟨y19, hy20, h21⟩ := bind_ok h6
    clear h6
    refine OpsJ.put rfl (OpJ.callP Split.nil rfl (fun R16 hle17 hin18 => winnowerref16_Delta_w R16 A0_ p0_l.length c0_ p0_l (SlR.mono hA0_ (IM.le_trans (IM.le_refl _) hle17)) rfl hc0_  _ hy20) ?_)
    rintro _ _ _ ⟨A22, c23, cs24, rfl, hr25, rfl⟩
    refine OpsJ.put rfl (OpJ.pure (OpP.move rfl) ?_)
    refine OpsJ.put rfl (OpJ.pure (OpP.extract rfl rfl) ?_)
    refine OpsJ.put rfl (OpJ.pure (OpP.extract rfl rfl) ?_)
    refine OpsJ.put rfl (OpJ.pure (OpP.assign rfl) ?_)
    refine OpsJ.put rfl (OpJ.pure (OpP.assign rfl) ?_)
    refine OpsJ.nil ?_
    refine CodeJ.seq' ?_
    refine CodeJ.region ?_
    refine OpsJ.put rfl (OpJ.pure (OpP.move rfl) ?_)
    obtain ⟨y30, hy31, h32⟩ := bind_ok h21
    clear h21
    refine OpsJ.put rfl (OpJ.callP Split.nil rfl (fun R27 hle28 hin29 => winnowerref16_Runs_w R27 A0_ p0_l.length c0_ p0_l (SlR.mono hA0_ (IM.le_trans (IM.le_refl _) hle28)) rfl hc0_  _ hy31) ?_)
    rintro _ _ _ ⟨A33, c34, cs35, rfl, hr36, rfl⟩
    refine OpsJ.put rfl (OpJ.pure (OpP.move rfl) ?_)
    refine OpsJ.put rfl (OpJ.pure (OpP.extract rfl rfl) ?_)
    refine OpsJ.put rfl (OpJ.pure (OpP.extract rfl rfl) ?_)
    refine OpsJ.put rfl (OpJ.pure (OpP.assign rfl) ?_)
    refine OpsJ.put rfl (OpJ.pure (OpP.assign rfl) ?_)
    refine OpsJ.nil ?_
    refine CodeJ.seq' ?_
    refine CodeJ.seq' ?_
    refine CodeJ.region ?_
    refine OpsJ.put rfl (OpJ.pure (OpP.move rfl) ?_)
    refine OpsJ.put rfl (OpJ.pure (OpP.len rfl) ?_)
    refine OpsJ.put rfl (OpJ.pure (OpP.move rfl) ?_)
    refine OpsJ.put rfl (OpJ.pure (OpP.len rfl) ?_)
    refine OpsJ.put rfl (OpJ.pure (OpP.lss rfl rfl) ?_)
    refine OpsJ.nil ?_
    by_cases hc38 : ((y19.1.length : Nat) : Int) < ((y4.1.length : Nat) : Int)
    · rw [if_pos hc38] at h32
      refine CodeJ.cond_t rfl (decide_eq_true hc38) ?_
      refine CodeJ.region ?_
      refine OpsJ.put rfl (OpJ.pure (OpP.move rfl) ?_)
      refine OpsJ.put rfl (OpJ.pure (OpP.assign rfl) ?_)
      refine OpsJ.nil ?_
      refine CodeJ.seq' ?_
      refine CodeJ.seq' ?_
      refine CodeJ.region ?_
      refine OpsJ.put rfl (OpJ.pure (OpP.move rfl) ?_)
      refine OpsJ.put rfl (OpJ.pure (OpP.len rfl) ?_)
      refine OpsJ.put rfl (OpJ.pure (OpP.move rfl) ?_)
      refine OpsJ.put rfl (OpJ.pure (OpP.len rfl) ?_)
      refine OpsJ.put rfl (OpJ.pure (OpP.lss rfl rfl) ?_)
      refine OpsJ.nil ?_
      by_cases hc39 : ((y30.1.length : Nat) : Int) < ((y19.1.length : Nat) : Int)
      · rw [if_pos hc39] at h32
        refine CodeJ.cond_t rfl (decide_eq_true hc39) ?_
        refine CodeJ.region ?_
        refine OpsJ.put rfl (OpJ.pure (OpP.move rfl) ?_)
        refine OpsJ.put rfl (OpJ.pure (OpP.assign rfl) ?_)
        refine OpsJ.nil ?_
        refine CodeJ.seq' ?_
        refine CodeJ.region ?_
        refine OpsJ.put rfl (OpJ.pure (OpP.move rfl) ?_)
        refine OpsJ.put rfl (OpJ.pure (OpP.assign rfl) ?_)
        refine OpsJ.put rfl (OpJ.pure (OpP.assign rfl) ?_)
        refine OpsJ.nil ?_
        refine CodeJ.ret' ?_
        obtain rfl := Option.some.inj h32
        exact Ret.mk0 ⟨A33, c34, cs35, rfl, hr36, rfl⟩ (ResJ.two Try.results37 rfl rfl) (IM.le_refl _) (SubL.p0 (SubL.nil _))
      · rw [if_neg hc39] at h32
        refine CodeJ.cond_f rfl (decide_eq_false hc39) ?_
        refine CodeJ.skip ?_
        refine CodeJ.seq' ?_
        refine CodeJ.region ?_
        refine OpsJ.put rfl (OpJ.pure (OpP.move rfl) ?_)
        refine OpsJ.put rfl (OpJ.pure (OpP.assign rfl) ?_)
        refine OpsJ.put rfl (OpJ.pure (OpP.assign rfl) ?_)
        refine OpsJ.nil ?_
        refine CodeJ.ret' ?_
        obtain rfl := Option.some.inj h32
        exact Ret.mk0 ⟨A22, c23, cs24, rfl, hr25, rfl⟩ (ResJ.two Try.results37 rfl rfl) (IM.le_refl _) (SubL.p1 (SubL.nil _))
    · rw [if_neg hc38] at h32
      refine CodeJ.cond_f rfl (decide_eq_false hc38) ?_
      refine CodeJ.skip ?_
      refine CodeJ.seq' ?_
      refine CodeJ.seq' ?_
      refine CodeJ.region ?_
      refine OpsJ.put rfl (OpJ.pure (OpP.move rfl) ?_)
      refine OpsJ.put rfl (OpJ.pure (OpP.len rfl) ?_)
      refine OpsJ.put rfl (OpJ.pure (OpP.move rfl) ?_)
      refine OpsJ.put rfl (OpJ.pure (OpP.len rfl) ?_)
      refine OpsJ.put rfl (OpJ.pure (OpP.lss rfl rfl) ?_)
      refine OpsJ.nil ?_
      by_cases hc44 : ((y30.1.length : Nat) : Int) < ((y4.1.length : Nat) : Int)
      · rw [if_pos hc44] at h32
        refine CodeJ.cond_t rfl (decide_eq_true hc44) ?_
        refine CodeJ.region ?_
        refine OpsJ.put rfl (OpJ.pure (OpP.move rfl) ?_)
        refine OpsJ.put rfl (OpJ.pure (OpP.assign rfl) ?_)
        refine OpsJ.nil ?_
        refine CodeJ.seq' ?_
        refine CodeJ.region ?_
        refine OpsJ.put rfl (OpJ.pure (OpP.move rfl) ?_)
        refine OpsJ.put rfl (OpJ.pure (OpP.assign rfl) ?_)
        refine OpsJ.put rfl (OpJ.pure (OpP.assign rfl) ?_)
        refine OpsJ.nil ?_
        refine CodeJ.ret' ?_
        obtain rfl := Option.some.inj h32
        exact Ret.mk0 ⟨A33, c34, cs35, rfl, hr36, rfl⟩ (ResJ.two Try.results37 rfl rfl) (IM.le_refl _) (SubL.p0 (SubL.nil _))
      · rw [if_neg hc44] at h32
        refine CodeJ.cond_f rfl (decide_eq_false hc44) ?_
        refine CodeJ.skip ?_
        refine CodeJ.seq' ?_
        refine CodeJ.region ?_
        refine OpsJ.put rfl (OpJ.pure (OpP.move rfl) ?_)
        refine OpsJ.put rfl (OpJ.pure (OpP.assign rfl) ?_)
        refine OpsJ.put rfl (OpJ.pure (OpP.assign rfl) ?_)
        refine OpsJ.nil ?_
        refine CodeJ.ret' ?_
        obtain rfl := Option.some.inj h32
        exact Ret.mk0 ⟨A7, c8, cs9, rfl, hr10, rfl⟩ (ResJ.two Try.results37 rfl rfl) (IM.le_refl _) (SubL.p2 (SubL.nil _))
theorem winnowerref16_Decode_w (R : IM) (A0_ : Option Addr) (n0_ c0_ : Nat) (p0_b : List UInt8) (hA0_ : SlR R A0_ p0_b) (hn0_ : p0_b.length = n0_) (hc0_ : n0_ ≤ c0_) (y : (List Int) × Int) (h : winnowerref16_Decode p0_b = some y) :
    CallJ Try.prog 55 #[.slice A0_ n0_ c0_] ⟨R, []⟩ (fun v D hs' => ∃ (B1 : Option Addr) (d2 : Nat) (ds3 : List Value), v = .tuple #[.slice B1 y.1.length d2, .int .i64 y.2] ∧ repL IM.nil ds3 y.1 ∧ hs' = [.row 3 1 B1 y.1.length d2 ds3]) := by
  subst hn0_
  unfold winnowerref16_Decode at h
  refine CallJ.of1 Try.func55 rfl Try.ntmps55 rfl (fun W0 => ?_)
  refine CodeJ.seq' ?_
  refine CodeJ.region ?_
  refine OpsJ.put rfl (OpJ.pure (OpP.assign rfl) ?_)
  refine OpsJ.put rfl (OpJ.pure (OpP.assign rfl) ?_)
  refine OpsJ.nil ?_
  refine CodeJ.seq' ?_
  refine CodeJ.region ?_
  refine OpsJ.put rfl (OpJ.pure (OpP.move rfl) ?_)
  refine OpsJ.put rfl (OpJ.pure (OpP.buildC (cs := [.slice A0_ p0_b.length c0_, .bool false]) rfl (by exact rfl) (by exact rfl)) ?_)
  refine OpsJ.put rfl (OpJ.box (us := [.slice A0_ p0_b.length c0_, .bool false]) rfl (by exact rfl) (fun g1 => ?_))
  refine OpsJ.put rfl (OpJ.pure (OpP.assign rfl) ?_)
  refine OpsJ.nil ?_
  refine CodeJ.seq' ?_
  refine CodeJ.region ?_
  refine OpsJ.put rfl (OpJ.pure (OpP.move rfl) ?_)
  obtain ⟨y6, hy7, h8⟩ := bind_ok h
  clear h
  refine OpsJ.put rfl (OpJ.callP (Split.p0 Split.nil) rfl (fun R3 hle4 hin5 => winnowerref1_Reader_Num_w R3 R (IM.le_trans (IM.le_refl _) hle4) g1 (p0_b, false) A0_ c0_ hc0_ (SlR.mono hA0_ (IM.le_refl _))  _ hy7) ?_)
  rintro _ _ _ ⟨A9, c10, rfl, hc11, hA12, rfl⟩
  refine OpsJ.put rfl (OpJ.pure (OpP.move rfl) ?_)
  obtain ⟨y16, hy17, h18⟩ := bind_ok h8
  clear h8
  refine OpsJ.put rfl (OpJ.callP (Split.p0 Split.nil) rfl (fun R13 hle14 hin15 => winnowerref1_Reader_Num_w R13 R (IM.le_trans (IM.le_refl _) hle14) g1 (y6.1.1, y6.1.2) A9 c10 hc11 (SlR.mono hA12 (IM.le_refl _))  _ hy17) ?_)
  rintro _ _ _ ⟨A19, c20, rfl, hc21, hA22, rfl⟩
  refine OpsJ.put rfl (OpJ.pure (OpP.assign rfl) ?_)
  refine OpsJ.put rfl (OpJ.pure (OpP.assign rfl) ?_)
  refine OpsJ.nil ?_
  refine CodeJ.seq' ?_
  refine CodeJ.region ?_
  refine OpsJ.put rfl (OpJ.pure (OpP.assign rfl) ?_)
  refine OpsJ.nil ?_
  refine CodeJ.seq' ?_
  refine CodeJ.nilrow 3 1 ?_
  obtain ⟨t129, hl130, h131⟩ := bind_ok h18
  clear h18
  refine CodeJ.mid (fun e s => ∃ (A116 : Option Addr) (c117 : Nat) (cs118 : List Value) (A122 : Option Addr) (c123 : Nat) (l_115 : List Int) (f121 : List UInt8) (f126 : Bool), (l_115, f121, f126) = t129 ∧ repL IM.nil cs118 l_115 ∧ f121.length ≤ c123 ∧ SlR R A122 f121 ∧ e = [(0, .slice A0_ p0_b.length c0_), (4, .pointer (some ⟨g1, 0, none⟩)), (5, .int .i64 y6.2), (6, .int .i64 y16.2), (7, .slice A116 l_115.length c117)] ∧ s = ⟨R, [.blk g1 [.slice A122 f121.length c123, .bool f126] 62, .row 3 1 A116 l_115.length c117 cs118]⟩) ?_ ?_
  · refine CodeJ.block ?_
    refine CodeJ.loopM hl130 (fun (l_81, f87, f92) e s => ∃ (A82 : Option Addr) (c83 : Nat) (cs84 : List Value) (A88 : Option Addr) (c89 : Nat), repL IM.nil cs84 l_81 ∧ f87.length ≤ c89 ∧ SlR R A88 f87 ∧ e = [(0, .slice A0_ p0_b.length c0_), (4, .pointer (some ⟨g1, 0, none⟩)), (5, .int .i64 y6.2), (6, .int .i64 y16.2), (7, .slice A82 l_81.length c83)] ∧ s = ⟨R, [.blk g1 [.slice A88 f87.length c89, .bool f92] 62, .row 3 1 A82 l_81.length c83 cs84]⟩) ⟨none, 0, ([] : List Value), A19, c20, (repL_nil IM.nil), hc21, (SlR.mono hA22 (IM.le_refl _)), rfl, rfl⟩ (SubE.cons rfl (SubE.cons rfl (SubE.cons rfl (SubE.cons rfl (SubE.cons rfl (SubE.nil _)))))) (SubL.p1 (SubL.p0 (SubL.nil _))) ?_
    rintro ⟨l_81, f87, f92⟩ _ _ _ ⟨A82, c83, cs84, A88, c89, hr85, hc91, hA90, rfl, rfl⟩ h127 hne128
    (try dsimp only at h127); unfold winnowerref16_Decode_l0 at h127
    refine CodeJ.seq' ?_
    refine CodeJ.seq' ?_
    refine CodeJ.region ?_
    refine OpsJ.put rfl (OpJ.pure (OpP.move rfl) ?_)
    refine OpsJ.put rfl (OpJ.pure (OpP.nilCheck rfl) ?_)
    refine OpsJ.put rfl (OpJ.pure (OpP.fldAddr_lit rfl (by exact rfl)) ?_)
    refine OpsJ.put rfl (OpJ.pure (OpP.load_blk (by exact rfl) rfl (List.Mem.head _) rfl) ?_)
    refine OpsJ.put rfl (OpJ.pure (OpP.not rfl) ?_)
    refine OpsJ.put rfl (OpJ.pure (OpP.move rfl) ?_)
    by_cases hc132 : f92 = true
    · rw [if_pos hc132] at h127
      refine OpsJ.guard_n rfl rfl rfl rfl (congrArg Bool.not hc132) ?_
      refine OpsJ.guard_n rfl rfl rfl rfl (congrArg Bool.not hc132) ?_
      refine OpsJ.guard_n rfl rfl rfl rfl (congrArg Bool.not hc132) ?_
      refine OpsJ.guard_n rfl rfl rfl rfl (congrArg Bool.not hc132) ?_
      refine OpsJ.guard_n rfl rfl rfl rfl (congrArg Bool.not hc132) ?_
      refine OpsJ.guard_n rfl rfl rfl rfl (congrArg Bool.not hc132) ?_
      refine OpsJ.put rfl (OpJ.pure (OpP.pick_f rfl (congrArg Bool.not hc132) rfl) ?_)
      refine OpsJ.nil ?_
      refine CodeJ.cond_f rfl rfl ?_
      refine CodeJ.exit rfl ?_
      obtain rfl := Option.some.inj h127
      have ht133 := hne128 _ rfl
      exact ⟨_, _, _, ⟨A82, c83, cs84, A88, c89, l_81, f87, f92, ht133, hr85, hc91, (SlR.mono hA90 (IM.le_refl _)), rfl, rfl⟩, IM.le_refl _, (SubE.cons rfl (SubE.cons rfl (SubE.cons rfl (SubE.cons rfl (SubE.cons rfl (SubE.nil _)))))), (SubL.p0 (SubL.p0 (SubL.nil _)))⟩
    · rw [if_neg hc132] at h127
      refine OpsJ.guard_y rfl rfl rfl rfl (congrArg Bool.not (Bool.eq_false_iff.2 hc132)) ?_
      refine OpsJ.put rfl (OpJ.pure (OpP.move rfl) ?_)
      refine OpsJ.guard_y rfl rfl rfl rfl (congrArg Bool.not (Bool.eq_false_iff.2 hc132)) ?_
      refine OpsJ.put rfl (OpJ.pure (OpP.nilCheck rfl) ?_)
      refine OpsJ.guard_y rfl rfl rfl rfl (congrArg Bool.not (Bool.eq_false_iff.2 hc132)) ?_
      refine OpsJ.put rfl (OpJ.pure (OpP.fldAddr_lit rfl (by exact rfl)) ?_)
      refine OpsJ.guard_y rfl rfl rfl rfl (congrArg Bool.not (Bool.eq_false_iff.2 hc132)) ?_
      refine OpsJ.put rfl (OpJ.pure (OpP.load_blk (by exact rfl) rfl (List.Mem.head _) rfl) ?_)
      refine OpsJ.guard_y rfl rfl rfl rfl (congrArg Bool.not (Bool.eq_false_iff.2 hc132)) ?_
      refine OpsJ.put rfl (OpJ.pure (OpP.len rfl) ?_)
      refine OpsJ.guard_y rfl rfl rfl rfl (congrArg Bool.not (Bool.eq_false_iff.2 hc132)) ?_
      refine OpsJ.put rfl (OpJ.pure (OpP.gtr rfl rfl) ?_)
      refine OpsJ.put rfl (OpJ.pure (OpP.pick_t rfl (congrArg Bool.not (Bool.eq_false_iff.2 hc132)) rfl) ?_)
      refine OpsJ.nil ?_
      by_cases hc134 : ((f87.length : Nat) : Int) > 0
      · rw [if_pos hc134] at h127
        refine CodeJ.cond_t rfl (decide_eq_true hc134) ?_
        refine CodeJ.skip ?_
        refine CodeJ.block ?_
        refine CodeJ.region ?_
        refine OpsJ.put rfl (OpJ.pure (OpP.move rfl) ?_)
        refine OpsJ.put rfl (OpJ.pure (OpP.move rfl) ?_)
        obtain ⟨y138, hy139, h140⟩ := bind_ok h127
        clear h127
        refine OpsJ.put rfl (OpJ.callP (Split.p0 Split.nil) rfl (fun R135 hle136 hin137 => winnowerref1_Reader_Num_w R135 R (IM.le_trans (IM.le_refl _) hle136) g1 (f87, f92) A88 c89 hc91 (SlR.mono hA90 (IM.le_refl _))  _ hy139) ?_)
        rintro _ _ _ ⟨A141, c142, rfl, hc143, hA144, rfl⟩
        have hr146 : repL IM.nil [.int .i64 y138.2] ([y138.2] : List Int) := (repL_cons (c1 := [.int .i64 y138.2]) (show Dat.rep _ _ y138.2 from rfl) (repL_nil _))
        refine OpsJ.put rfl (OpJ.buildSliceC (cs := [.int .i64 y138.2]) rfl rfl (by exact rfl) (by exact rfl) (by exact rfl) (by exact rfl) (fun g145 => ?_))
        obtain ⟨q148, hq149, h150⟩ := bind_ok h140
        clear h140
        have hr153 : repL IM.nil (cs84 ++ ([.int .i64 y138.2] : List Value)) q148 := app_rep hq149 hr85 hr146
        refine OpsJ.put rfl (OpJ.appW hq149 rfl rfl (Src.ofRow (List.Mem.head _)) hr146 (by exact rfl) (permm2 _ _ _ _) (by exact rfl) (by exact rfl) (by exact rfl) rfl rfl (fun A151 c152 => ?_))
        refine OpsJ.put rfl (OpJ.pure (OpP.assign rfl) ?_)
        refine OpsJ.nil ?_
        obtain rfl := Option.some.inj h150
        exact ⟨_, _, _, _, rfl, ⟨A151, c152, (cs84 ++ ([.int .i64 y138.2] : List Value)), A141, c142, hr153, hc143, (SlR.mono hA144 (IM.le_refl _)), rfl, rfl⟩, IM.le_refl _, (SubE.cons rfl (SubE.cons rfl (SubE.cons rfl (SubE.cons rfl (SubE.cons rfl (SubE.nil _)))))), (SubL.p2 (SubL.p0 (SubL.nil _)))⟩
      · rw [if_neg hc134] at h127
        refine CodeJ.cond_f rfl (decide_eq_false hc134) ?_
        refine CodeJ.exit rfl ?_
        obtain rfl := Option.some.inj h127
        have ht155 := hne128 _ rfl
        exact ⟨_, _, _, ⟨A82, c83, cs84, A88, c89, l_81, f87, f92, ht155, hr85, hc91, (SlR.mono hA90 (IM.le_refl _)), rfl, rfl⟩, IM.le_refl _, (SubE.cons rfl (SubE.cons rfl (SubE.cons rfl (SubE.cons rfl (SubE.cons rfl (SubE.nil _)))))), (SubL.p0 (SubL.p0 (SubL.nil _)))⟩
  · rintro _ _ ⟨A116, c117, cs118, A122, c123, l_115, f121, f126, rfl, hr119, hc125, hA124, rfl, rfl⟩
    (try dsimp only at h131)
    refine CodeJ.seq' ?_
    refine CodeJ.region ?_
    refine OpsJ.put rfl (OpJ.pure (OpP.assign rfl) ?_)
    refine OpsJ.nil ?_
    refine CodeJ.seq' ?_
    refine CodeJ.region ?_
    refine OpsJ.put rfl (OpJ.pure (OpP.assign rfl) ?_)
    refine OpsJ.nil ?_
    refine CodeJ.seq' ?_
    refine CodeJ.block ?_
    refine CodeJ.seq' ?_
    refine CodeJ.region ?_
    refine OpsJ.put rfl (OpJ.pure (OpP.move rfl) ?_)
    refine OpsJ.put rfl (OpJ.pure (OpP.nilCheck rfl) ?_)
    refine OpsJ.put rfl (OpJ.pure (OpP.fldAddr_lit rfl (by exact rfl)) ?_)
    refine OpsJ.put rfl (OpJ.pure (OpP.load_blk (by exact rfl) rfl (List.Mem.head _) rfl) ?_)
    refine OpsJ.put rfl (OpJ.pure (OpP.move rfl) ?_)
    by_cases hc156 : f126 = true
    · rw [if_pos hc156] at h131
      refine OpsJ.guard_n rfl rfl rfl rfl hc156 ?_
      refine OpsJ.guard_n rfl rfl rfl rfl hc156 ?_
      refine OpsJ.put rfl (OpJ.pure (OpP.pick_t rfl hc156 rfl) ?_)
      refine OpsJ.put rfl (OpJ.pure (OpP.assign rfl) ?_)
      refine OpsJ.nil ?_
      refine CodeJ.cond_t rfl rfl ?_
      refine CodeJ.seq' ?_
      refine CodeJ.region ?_
      refine OpsJ.put rfl (OpJ.pure (OpP.assign rfl) ?_)
      refine OpsJ.put rfl (OpJ.pure (OpP.assign rfl) ?_)
      refine OpsJ.nil ?_
      refine CodeJ.nilrow 3 1 ?_
      refine CodeJ.ret' ?_
      obtain rfl := Option.some.inj h131
      exact Ret.mk0 ⟨none, 0, ([] : List Value), rfl, (repL_nil IM.nil), rfl⟩ (ResJ.two Try.results55 rfl rfl) (IM.le_refl _) (SubL.p0 (SubL.nil _))
    · rw [if_neg hc156] at h131
      refine OpsJ.guard_y rfl rfl rfl rfl (Bool.eq_false_iff.2 hc156) ?_
      refine OpsJ.put rfl (OpJ.pure (OpP.move rfl) ?_)
      refine OpsJ.guard_y rfl rfl rfl rfl (Bool.eq_false_iff.2 hc156) ?_
      refine OpsJ.put rfl (OpJ.pure (OpP.gtr rfl rfl) ?_)
      refine OpsJ.put rfl (OpJ.pure (OpP.pick_f rfl (Bool.eq_false_iff.2 hc156) rfl) ?_)
      refine OpsJ.put rfl (OpJ.pure (OpP.assign rfl) ?_)
      refine OpsJ.nil ?_
      by_cases hc160 : y6.2 > 2
      · rw [if_pos hc160] at h131
        refine CodeJ.cond_t rfl (decide_eq_true hc160) ?_
        refine CodeJ.seq' ?_
        refine CodeJ.region ?_
        refine OpsJ.put rfl (OpJ.pure (OpP.assign rfl) ?_)
        refine OpsJ.put rfl (OpJ.pure (OpP.assign rfl) ?_)
        refine OpsJ.nil ?_
        refine CodeJ.nilrow 3 1 ?_
        refine CodeJ.ret' ?_
        obtain rfl := Option.some.inj h131
        exact Ret.mk0 ⟨none, 0, ([] : List Value), rfl, (repL_nil IM.nil), rfl⟩ (ResJ.two Try.results55 rfl rfl) (IM.le_refl _) (SubL.p0 (SubL.nil _))
      · rw [if_neg hc160] at h131
        refine CodeJ.cond_f rfl (decide_eq_false hc160) ?_
        refine CodeJ.seq' ?_
        refine CodeJ.region ?_
        refine OpsJ.put rfl (OpJ.pure (OpP.move rfl) ?_)
        refine OpsJ.put rfl (OpJ.pure (OpP.eql rfl rfl) ?_)
        refine OpsJ.put rfl (OpJ.pure (OpP.assign rfl) ?_)
        refine OpsJ.nil ?_
        by_cases hc164 : y6.2 = 0
        · rw [if_pos hc164] at h131
          refine CodeJ.cond_t rfl (decide_eq_true hc164) ?_
          refine CodeJ.region ?_
          refine OpsJ.put rfl (OpJ.pure (OpP.move rfl) ?_)
          refine OpsJ.rowle (List.Perm.swap _ _ _) (fun hcap165 _ => ?_)
          obtain ⟨y169, hy170, h171⟩ := bind_ok h131
          clear h131
          refine OpsJ.put rfl (OpJ.callP Split.nil rfl (fun R166 hle167 hin168 => winnowerref16_Plain_w R166 A116 l_115.length c117 l_115 (SlR.of_row (inRow hin168 (List.Mem.tail _ (List.Mem.head _))) hr119 (IM.le_nil _)) rfl hcap165  _ hy170) ?_)
          rintro _ _ _ ⟨A172, c173, cs174, rfl, hr175, rfl⟩
          refine OpsJ.put rfl (OpJ.pure (OpP.move rfl) ?_)
          refine OpsJ.put rfl (OpJ.pure (OpP.extract rfl rfl) ?_)
          refine OpsJ.put rfl (OpJ.pure (OpP.extract rfl rfl) ?_)
          refine OpsJ.put rfl (OpJ.pure (OpP.assign rfl) ?_)
          refine OpsJ.put rfl (OpJ.pure (OpP.assign rfl) ?_)
          refine OpsJ.nil ?_
          refine CodeJ.seq' ?_
          refine CodeJ.seq' ?_
          refine CodeJ.region ?_
          refine OpsJ.put rfl (OpJ.pure (OpP.move rfl) ?_)
          refine OpsJ.put rfl (OpJ.pure (OpP.neq rfl rfl) ?_)
          refine OpsJ.put rfl (OpJ.pure (OpP.move rfl) ?_)
          by_cases hc177 : y169.2 ≠ 0
          · rw [if_pos hc177] at h171
            refine OpsJ.guard_n rfl rfl rfl rfl (decide_eq_true hc177) ?_
            refine OpsJ.guard_n rfl rfl rfl rfl (decide_eq_true hc177) ?_
            refine OpsJ.put rfl (OpJ.pure (OpP.pick_t rfl (decide_eq_true hc177) rfl) ?_)
            refine OpsJ.put rfl (OpJ.pure (OpP.move rfl) ?_)
            refine OpsJ.guard_n rfl rfl rfl rfl rfl ?_
            refine OpsJ.guard_n rfl rfl rfl rfl rfl ?_
            refine OpsJ.guard_n rfl rfl rfl rfl rfl ?_
            refine OpsJ.guard_n rfl rfl rfl rfl rfl ?_
            refine OpsJ.guard_n rfl rfl rfl rfl rfl ?_
            refine OpsJ.put rfl (OpJ.pure (OpP.pick_t rfl rfl rfl) ?_)
            refine OpsJ.nil ?_
            refine CodeJ.cond_t rfl rfl ?_
            refine CodeJ.seq' ?_
            refine CodeJ.region ?_
            refine OpsJ.put rfl (OpJ.pure (OpP.assign rfl) ?_)
            refine OpsJ.put rfl (OpJ.pure (OpP.assign rfl) ?_)
            refine OpsJ.nil ?_
            refine CodeJ.nilrow 3 1 ?_
            refine CodeJ.ret' ?_
            obtain rfl := Option.some.inj h171
            exact Ret.mk0 ⟨none, 0, ([] : List Value), rfl, (repL_nil IM.nil), rfl⟩ (ResJ.two Try.results55 rfl rfl) (IM.le_refl _) (SubL.p0 (SubL.nil _))
          · rw [if_neg hc177] at h171
            refine OpsJ.guard_y rfl rfl rfl rfl (decide_eq_false hc177) ?_
            refine OpsJ.put rfl (OpJ.pure (OpP.move rfl) ?_)
            refine OpsJ.guard_y rfl rfl rfl rfl (decide_eq_false hc177) ?_
            refine OpsJ.put rfl (OpJ.pure (OpP.lss rfl rfl) ?_)
            refine OpsJ.put rfl (OpJ.pure (OpP.pick_f rfl (decide_eq_false hc177) rfl) ?_)
            refine OpsJ.put rfl (OpJ.pure (OpP.move rfl) ?_)
            by_cases hc181 : y16.2 < 0
            · rw [if_pos hc181] at h171
              refine OpsJ.guard_n rfl rfl rfl rfl (decide_eq_true hc181) ?_
              refine OpsJ.guard_n rfl rfl rfl rfl (decide_eq_true hc181) ?_
              refine OpsJ.guard_n rfl rfl rfl rfl (decide_eq_true hc181) ?_
              refine OpsJ.guard_n rfl rfl rfl rfl (decide_eq_true hc181) ?_
              refine OpsJ.guard_n rfl rfl rfl rfl (decide_eq_true hc181) ?_
              refine OpsJ.put rfl (OpJ.pure (OpP.pick_t rfl (decide_eq_true hc181) rfl) ?_)
              refine OpsJ.nil ?_
              refine CodeJ.cond_t rfl rfl ?_
              refine CodeJ.seq' ?_
              refine CodeJ.region ?_
              refine OpsJ.put rfl (OpJ.pure (OpP.assign rfl) ?_)
              refine OpsJ.put rfl (OpJ.pure (OpP.assign rfl) ?_)
              refine OpsJ.nil ?_
              refine CodeJ.nilrow 3 1 ?_
              refine CodeJ.ret' ?_
              obtain rfl := Option.some.inj h171
              exact Ret.mk0 ⟨none, 0, ([] : List Value), rfl, (repL_nil IM.nil), rfl⟩ (ResJ.two Try.results55 rfl rfl) (IM.le_refl _) (SubL.p0 (SubL.nil _))
            · rw [if_neg hc181] at h171
              refine OpsJ.guard_y rfl rfl rfl rfl (decide_eq_false hc181) ?_
              refine OpsJ.put rfl (OpJ.pure (OpP.move rfl) ?_)
              refine OpsJ.guard_y rfl rfl rfl rfl (decide_eq_false hc181) ?_
              refine OpsJ.put rfl (OpJ.pure (OpP.strW (List.Mem.head _) hr175 rfl rfl) ?_)
              refine OpsJ.guard_y rfl rfl rfl rfl (decide_eq_false hc181) ?_
              refine OpsJ.put rfl (OpJ.pure (OpP.move rfl) ?_)
              refine OpsJ.guard_y rfl rfl rfl rfl (decide_eq_false hc181) ?_
              refine OpsJ.put rfl (OpJ.pure (OpP.strR hA0_ (IM.le_refl _) rfl rfl) ?_)
              refine OpsJ.guard_y rfl rfl rfl rfl (decide_eq_false hc181) ?_
              refine OpsJ.put rfl (OpJ.pure (OpP.neqS rfl rfl) ?_)
              refine OpsJ.put rfl (OpJ.pure (OpP.pick_f rfl (decide_eq_false hc181) rfl) ?_)
              refine OpsJ.nil ?_
              by_cases hc185 : (strOf y169.1) ≠ (strOf p0_b)
              · rw [if_pos hc185] at h171
                refine CodeJ.cond_t rfl (decide_eq_true hc185) ?_
                refine CodeJ.seq' ?_
                refine CodeJ.region ?_
                refine OpsJ.put rfl (OpJ.pure (OpP.assign rfl) ?_)
                refine OpsJ.put rfl (OpJ.pure (OpP.assign rfl) ?_)
                refine OpsJ.nil ?_
                refine CodeJ.nilrow 3 1 ?_
                refine CodeJ.ret' ?_
                obtain rfl := Option.some.inj h171
                exact Ret.mk0 ⟨none, 0, ([] : List Value), rfl, (repL_nil IM.nil), rfl⟩ (ResJ.two Try.results55 rfl rfl) (IM.le_refl _) (SubL.p0 (SubL.nil _))
              · rw [if_neg hc185] at h171
                refine CodeJ.cond_f rfl (decide_eq_false hc185) ?_
                refine CodeJ.skip ?_
                refine CodeJ.seq' ?_
                refine CodeJ.region ?_
                refine OpsJ.put rfl (OpJ.pure (OpP.move rfl) ?_)
                refine OpsJ.put rfl (OpJ.pure (OpP.assign rfl) ?_)
                refine OpsJ.put rfl (OpJ.pure (OpP.assign rfl) ?_)
                refine OpsJ.nil ?_
                refine CodeJ.ret' ?_
                obtain rfl := Option.some.inj h171
                exact Ret.mk0 ⟨A116, c117, cs118, rfl, hr119, rfl⟩ (ResJ.two Try.results55 rfl rfl) (IM.le_refl _) (SubL.p2 (SubL.nil _))
        · rw [if_neg hc164] at h131
          refine CodeJ.cond_f rfl (decide_eq_false hc164) ?_
          refine CodeJ.seq' ?_
          refine CodeJ.region ?_
          refine OpsJ.put rfl (OpJ.pure (OpP.move rfl) ?_)
          refine OpsJ.put rfl (OpJ.pure (OpP.eql rfl rfl) ?_)
          refine OpsJ.put rfl (OpJ.pure (OpP.assign rfl) ?_)
          refine OpsJ.nil ?_
          by_cases hc191 : y6.2 = 1
          · rw [if_pos hc191] at h131
            refine CodeJ.cond_t rfl (decide_eq_true hc191) ?_
            refine CodeJ.seq' ?_
            refine CodeJ.region ?_
            refine OpsJ.put rfl (OpJ.pure (OpP.move rfl) ?_)
            refine OpsJ.rowle (List.Perm.swap _ _ _) (fun hcap192 _ => ?_)
            obtain ⟨y196, hy197, h198⟩ := bind_ok h131
            clear h131
            refine OpsJ.put rfl (OpJ.callP Split.nil rfl (fun R193 hle194 hin195 => winnowerref16_deltas_w R193 A116 l_115.length c117 l_115 (SlR.of_row (inRow hin195 (List.Mem.tail _ (List.Mem.head _))) hr119 (IM.le_nil _)) rfl hcap192  _ hy197) ?_)
            rintro _ _ _ ⟨A199, c200, cs201, rfl, hr202, rfl⟩
            refine OpsJ.put rfl (OpJ.pure (OpP.assign rfl) ?_)
            refine OpsJ.nil ?_
            refine CodeJ.region ?_
            refine OpsJ.put rfl (OpJ.pure (OpP.move rfl) ?_)
            refine OpsJ.rowle (List.Perm.refl _) (fun hcap204 _ => ?_)
            obtain ⟨y208, hy209, h210⟩ := bind_ok h198
            clear h198
            refine OpsJ.put rfl (OpJ.callP Split.nil rfl (fun R205 hle206 hin207 => winnowerref16_Delta_w R205 A199 y196.length c200 y196 (SlR.of_row (inRow hin207 (List.Mem.head _)) hr202 (IM.le_nil _)) rfl hcap204  _ hy209) ?_)
            rintro _ _ _ ⟨A211, c212, cs213, rfl, hr214, rfl⟩
            refine OpsJ.put rfl (OpJ.pure (OpP.move rfl) ?_)
            refine OpsJ.put rfl (OpJ.pure (OpP.extract rfl rfl) ?_)
            refine OpsJ.put rfl (OpJ.pure (OpP.extract rfl rfl) ?_)
            refine OpsJ.put rfl (OpJ.pure (OpP.assign rfl) ?_)
            refine OpsJ.put rfl (OpJ.pure (OpP.assign rfl) ?_)
            refine OpsJ.nil ?_
            refine CodeJ.seq' ?_
            refine CodeJ.seq' ?_
            refine CodeJ.region ?_
            refine OpsJ.put rfl (OpJ.pure (OpP.move rfl) ?_)
            refine OpsJ.put rfl (OpJ.pure (OpP.neq rfl rfl) ?_)
            refine OpsJ.put rfl (OpJ.pure (OpP.move rfl) ?_)
            by_cases hc216 : y208.2 ≠ 0
            · rw [if_pos hc216] at h210
              refine OpsJ.guard_n rfl rfl rfl rfl (decide_eq_true hc216) ?_
              refine OpsJ.guard_n rfl rfl rfl rfl (decide_eq_true hc216) ?_
              refine OpsJ.put rfl (OpJ.pure (OpP.pick_t rfl (decide_eq_true hc216) rfl) ?_)
              refine OpsJ.put rfl (OpJ.pure (OpP.move rfl) ?_)
              refine OpsJ.guard_n rfl rfl rfl rfl rfl ?_
              refine OpsJ.guard_n rfl rfl rfl rfl rfl ?_
              refine OpsJ.guard_n rfl rfl rfl rfl rfl ?_
              refine OpsJ.guard_n rfl rfl rfl rfl rfl ?_
              refine OpsJ.guard_n rfl rfl rfl rfl rfl ?_
              refine OpsJ.put rfl (OpJ.pure (OpP.pick_t rfl rfl rfl) ?_)
              refine OpsJ.nil ?_
              refine CodeJ.cond_t rfl rfl ?_
              refine CodeJ.seq' ?_
              refine CodeJ.region ?_
              refine OpsJ.put rfl (OpJ.pure (OpP.assign rfl) ?_)
              refine OpsJ.put rfl (OpJ.pure (OpP.assign rfl) ?_)
              refine OpsJ.nil ?_
              refine CodeJ.nilrow 3 1 ?_
              refine CodeJ.ret' ?_
              obtain rfl := Option.some.inj h210
              exact Ret.mk0 ⟨none, 0, ([] : List Value), rfl, (repL_nil IM.nil), rfl⟩ (ResJ.two Try.results55 rfl rfl) (IM.le_refl _) (SubL.p0 (SubL.nil _))
            · rw [if_neg hc216] at h210
              refine OpsJ.guard_y rfl rfl rfl rfl (decide_eq_false hc216) ?_
              refine OpsJ.put rfl (OpJ.pure (OpP.move rfl) ?_)
              refine OpsJ.guard_y rfl rfl rfl rfl (decide_eq_false hc216) ?_
              refine OpsJ.put rfl (OpJ.pure (OpP.lss rfl rfl) ?_)
              refine OpsJ.put rfl (OpJ.pure (OpP.pick_f rfl (decide_eq_false hc216) rfl) ?_)
              refine OpsJ.put rfl (OpJ.pure (OpP.move rfl) ?_)
              by_cases hc220 : y16.2 < 0
              · rw [if_pos hc220] at h210
                refine OpsJ.guard_n rfl rfl rfl rfl (decide_eq_true hc220) ?_
                refine OpsJ.guard_n rfl rfl rfl rfl (decide_eq_true hc220) ?_
                refine OpsJ.guard_n rfl rfl rfl rfl (decide_eq_true hc220) ?_
                refine OpsJ.guard_n rfl rfl rfl rfl (decide_eq_true hc220) ?_
                refine OpsJ.guard_n rfl rfl rfl rfl (decide_eq_true hc220) ?_
                refine OpsJ.put rfl (OpJ.pure (OpP.pick_t rfl (decide_eq_true hc220) rfl) ?_)
                refine OpsJ.nil ?_
                refine CodeJ.cond_t rfl rfl ?_
                refine CodeJ.seq' ?_
                refine CodeJ.region ?_
                refine OpsJ.put rfl (OpJ.pure (OpP.assign rfl) ?_)
                refine OpsJ.put rfl (OpJ.pure (OpP.assign rfl) ?_)
                refine OpsJ.nil ?_
                refine CodeJ.nilrow 3 1 ?_
                refine CodeJ.ret' ?_
                obtain rfl := Option.some.inj h210
                exact Ret.mk0 ⟨none, 0, ([] : List Value), rfl, (repL_nil IM.nil), rfl⟩ (ResJ.two Try.results55 rfl rfl) (IM.le_refl _) (SubL.p0 (SubL.nil _))
              · rw [if_neg hc220] at h210
                refine OpsJ.guard_y rfl rfl rfl rfl (decide_eq_false hc220) ?_
                refine OpsJ.put rfl (OpJ.pure (OpP.move rfl) ?_)
                refine OpsJ.guard_y rfl rfl rfl rfl (decide_eq_false hc220) ?_
                refine OpsJ.put rfl (OpJ.pure (OpP.strW (List.Mem.head _) hr214 rfl rfl) ?_)
                refine OpsJ.guard_y rfl rfl rfl rfl (decide_eq_false hc220) ?_
                refine OpsJ.put rfl (OpJ.pure (OpP.move rfl) ?_)
                refine OpsJ.guard_y rfl rfl rfl rfl (decide_eq_false hc220) ?_
                refine OpsJ.put rfl (OpJ.pure (OpP.strR hA0_ (IM.le_refl _) rfl rfl) ?_)
                refine OpsJ.guard_y rfl rfl rfl rfl (decide_eq_false hc220) ?_
                refine OpsJ.put rfl (OpJ.pure (OpP.neqS rfl rfl) ?_)
                refine OpsJ.put rfl (OpJ.pure (OpP.pick_f rfl (decide_eq_false hc220) rfl) ?_)
                refine OpsJ.nil ?_
                by_cases hc224 : (strOf y208.1) ≠ (strOf p0_b)
                · rw [if_pos hc224] at h210
                  refine CodeJ.cond_t rfl (decide_eq_true hc224) ?_
                  refine CodeJ.seq' ?_
                  refine CodeJ.region ?_
                  refine OpsJ.put rfl (OpJ.pure (OpP.assign rfl) ?_)
                  refine OpsJ.put rfl (OpJ.pure (OpP.assign rfl) ?_)
                  refine OpsJ.nil ?_
                  refine CodeJ.nilrow 3 1 ?_
                  refine CodeJ.ret' ?_
                  obtain rfl := Option.some.inj h210
                  exact Ret.mk0 ⟨none, 0, ([] : List Value), rfl, (repL_nil IM.nil), rfl⟩ (ResJ.two Try.results55 rfl rfl) (IM.le_refl _) (SubL.p0 (SubL.nil _))
                · rw [if_neg hc224] at h210
                  refine CodeJ.cond_f rfl (decide_eq_false hc224) ?_
                  refine CodeJ.skip ?_
                  refine CodeJ.seq' ?_
                  refine CodeJ.region ?_
                  refine OpsJ.put rfl (OpJ.pure (OpP.move rfl) ?_)
                  refine OpsJ.put rfl (OpJ.pure (OpP.assign rfl) ?_)
                  refine OpsJ.put rfl (OpJ.pure (OpP.assign rfl) ?_)
                  refine OpsJ.nil ?_
                  refine CodeJ.ret' ?_
                  obtain rfl := Option.some.inj h210
                  exact Ret.mk0 ⟨A199, c200, cs201, rfl, hr202, rfl⟩ (ResJ.two Try.results55 rfl rfl) (IM.le_refl _) (SubL.p1 (SubL.nil _))
          · rw [if_neg hc191] at h131
            refine CodeJ.cond_f rfl (decide_eq_false hc191) ?_
            refine CodeJ.seq' ?_
            refine CodeJ.region ?_
            refine OpsJ.put rfl (OpJ.pure (OpP.move rfl) ?_)
            refine OpsJ.rowle (List.Perm.swap _ _ _) (fun hcap230 _ => ?_)
            obtain ⟨y234, hy235, h236⟩ := bind_ok h131
            clear h131
            refine OpsJ.put rfl (OpJ.callP Split.nil rfl (fun R231 hle232 hin233 => winnowerref16_runs_w R231 A116 l_115.length c117 l_115 (SlR.of_row (inRow hin233 (List.Mem.tail _ (List.Mem.head _))) hr119 (IM.le_nil _)) rfl hcap230  _ hy235) ?_)
            rintro _ _ _ ⟨A237, c238, cs239, rfl, hr240, rfl⟩
            refine OpsJ.put rfl (OpJ.pure (OpP.move rfl) ?_)
            refine OpsJ.put rfl (OpJ.pure (OpP.extract rfl rfl) ?_)
            refine OpsJ.put rfl (OpJ.pure (OpP.extract rfl rfl) ?_)
            refine OpsJ.put rfl (OpJ.pure (OpP.assign rfl) ?_)
            refine OpsJ.put rfl (OpJ.pure (OpP.assign rfl) ?_)
            refine OpsJ.nil ?_
            refine CodeJ.seq' ?_
            refine CodeJ.seq' ?_
            refine CodeJ.region ?_
            refine OpsJ.put rfl (OpJ.pure (OpP.move rfl) ?_)
            refine OpsJ.put rfl (OpJ.pure (OpP.not rfl) ?_)
            refine OpsJ.nil ?_
            by_cases hc242 : y234.2 = true
            · rw [if_pos hc242] at h236
              refine CodeJ.cond_f rfl (congrArg Bool.not hc242) ?_
              refine CodeJ.skip ?_
              refine CodeJ.seq' ?_
              refine CodeJ.region ?_
              refine OpsJ.put rfl (OpJ.pure (OpP.move rfl) ?_)
              refine OpsJ.put rfl (OpJ.pure (OpP.assign rfl) ?_)
              refine OpsJ.nil ?_
              refine CodeJ.region ?_
              refine OpsJ.put rfl (OpJ.pure (OpP.move rfl) ?_)
              refine OpsJ.rowle (List.Perm.refl _) (fun hcap243 _ => ?_)
              obtain ⟨y247, hy248, h249⟩ := bind_ok h236
              clear h236
              refine OpsJ.put rfl (OpJ.callP Split.nil rfl (fun R244 hle245 hin246 => winnowerref16_Runs_w R244 A237 y234.1.length c238 y234.1 (SlR.of_row (inRow hin246 (List.Mem.head _)) hr240 (IM.le_nil _)) rfl hcap243  _ hy248) ?_)
              rintro _ _ _ ⟨A250, c251, cs252, rfl, hr253, rfl⟩
              refine OpsJ.put rfl (OpJ.pure (OpP.move rfl) ?_)
              refine OpsJ.put rfl (OpJ.pure (OpP.extract rfl rfl) ?_)
              refine OpsJ.put rfl (OpJ.pure (OpP.extract rfl rfl) ?_)
              refine OpsJ.put rfl (OpJ.pure (OpP.assign rfl) ?_)
              refine OpsJ.put rfl (OpJ.pure (OpP.assign rfl) ?_)
              refine OpsJ.nil ?_
              refine CodeJ.seq' ?_
              refine CodeJ.seq' ?_
              refine CodeJ.region ?_
              refine OpsJ.put rfl (OpJ.pure (OpP.move rfl) ?_)
              refine OpsJ.put rfl (OpJ.pure (OpP.neq rfl rfl) ?_)
              refine OpsJ.put rfl (OpJ.pure (OpP.move rfl) ?_)
              by_cases hc255 : y247.2 ≠ 0
              · rw [if_pos hc255] at h249
                refine OpsJ.guard_n rfl rfl rfl rfl (decide_eq_true hc255) ?_
                refine OpsJ.guard_n rfl rfl rfl rfl (decide_eq_true hc255) ?_
                refine OpsJ.put rfl (OpJ.pure (OpP.pick_t rfl (decide_eq_true hc255) rfl) ?_)
                refine OpsJ.put rfl (OpJ.pure (OpP.move rfl) ?_)
                refine OpsJ.guard_n rfl rfl rfl rfl rfl ?_
                refine OpsJ.guard_n rfl rfl rfl rfl rfl ?_
                refine OpsJ.guard_n rfl rfl rfl rfl rfl ?_
                refine OpsJ.guard_n rfl rfl rfl rfl rfl ?_
                refine OpsJ.guard_n rfl rfl rfl rfl rfl ?_
                refine OpsJ.put rfl (OpJ.pure (OpP.pick_t rfl rfl rfl) ?_)
                refine OpsJ.nil ?_
                refine CodeJ.cond_t rfl rfl ?_
                refine CodeJ.seq' ?_
                refine CodeJ.region ?_
                refine OpsJ.put rfl (OpJ.pure (OpP.assign rfl) ?_)
                refine OpsJ.put rfl (OpJ.pure (OpP.assign rfl) ?_)
                refine OpsJ.nil ?_
                refine CodeJ.nilrow 3 1 ?_
                refine CodeJ.ret' ?_
                obtain rfl := Option.some.inj h249
                exact Ret.mk0 ⟨none, 0, ([] : List Value), rfl, (repL_nil IM.nil), rfl⟩ (ResJ.two Try.results55 rfl rfl) (IM.le_refl _) (SubL.p0 (SubL.nil _))
              · rw [if_neg hc255] at h249
                refine OpsJ.guard_y rfl rfl rfl rfl (decide_eq_false hc255) ?_
                refine OpsJ.put rfl (OpJ.pure (OpP.move rfl) ?_)
                refine OpsJ.guard_y rfl rfl rfl rfl (decide_eq_false hc255) ?_
                refine OpsJ.put rfl (OpJ.pure (OpP.lss rfl rfl) ?_)
                refine OpsJ.put rfl (OpJ.pure (OpP.pick_f rfl (decide_eq_false hc255) rfl) ?_)
                refine OpsJ.put rfl (OpJ.pure (OpP.move rfl) ?_)
                by_cases hc259 : y16.2 < 0
                · rw [if_pos hc259] at h249
                  refine OpsJ.guard_n rfl rfl rfl rfl (decide_eq_true hc259) ?_
                  refine OpsJ.guard_n rfl rfl rfl rfl (decide_eq_true hc259) ?_
                  refine OpsJ.guard_n rfl rfl rfl rfl (decide_eq_true hc259) ?_
                  refine OpsJ.guard_n rfl rfl rfl rfl (decide_eq_true hc259) ?_
                  refine OpsJ.guard_n rfl rfl rfl rfl (decide_eq_true hc259) ?_
                  refine OpsJ.put rfl (OpJ.pure (OpP.pick_t rfl (decide_eq_true hc259) rfl) ?_)
                  refine OpsJ.nil ?_
                  refine CodeJ.cond_t rfl rfl ?_
                  refine CodeJ.seq' ?_
                  refine CodeJ.region ?_
                  refine OpsJ.put rfl (OpJ.pure (OpP.assign rfl) ?_)
                  refine OpsJ.put rfl (OpJ.pure (OpP.assign rfl) ?_)
                  refine OpsJ.nil ?_
                  refine CodeJ.nilrow 3 1 ?_
                  refine CodeJ.ret' ?_
                  obtain rfl := Option.some.inj h249
                  exact Ret.mk0 ⟨none, 0, ([] : List Value), rfl, (repL_nil IM.nil), rfl⟩ (ResJ.two Try.results55 rfl rfl) (IM.le_refl _) (SubL.p0 (SubL.nil _))
                · rw [if_neg hc259] at h249
                  refine OpsJ.guard_y rfl rfl rfl rfl (decide_eq_false hc259) ?_
                  refine OpsJ.put rfl (OpJ.pure (OpP.move rfl) ?_)
                  refine OpsJ.guard_y rfl rfl rfl rfl (decide_eq_false hc259) ?_
                  refine OpsJ.put rfl (OpJ.pure (OpP.strW (List.Mem.head _) hr253 rfl rfl) ?_)
                  refine OpsJ.guard_y rfl rfl rfl rfl (decide_eq_false hc259) ?_
                  refine OpsJ.put rfl (OpJ.pure (OpP.move rfl) ?_)
                  refine OpsJ.guard_y rfl rfl rfl rfl (decide_eq_false hc259) ?_
                  refine OpsJ.put rfl (OpJ.pure (OpP.strR hA0_ (IM.le_refl _) rfl rfl) ?_)
                  refine OpsJ.guard_y rfl rfl rfl rfl (decide_eq_false hc259) ?_
                  refine OpsJ.put rfl (OpJ.pure (OpP.neqS rfl rfl) ?_)
                  refine OpsJ.put rfl (OpJ.pure (OpP.pick_f rfl (decide_eq_false hc259) rfl) ?_)
                  refine OpsJ.nil ?_
                  by_cases hc263 : (strOf y247.1) ≠ (strOf p0_b)
                  · rw [if_pos hc263] at h249
                    refine CodeJ.cond_t rfl (decide_eq_true hc263) ?_
                    refine CodeJ.seq' ?_
                    refine CodeJ.region ?_
                    refine OpsJ.put rfl (OpJ.pure (OpP.assign rfl) ?_)
                    refine OpsJ.put rfl (OpJ.pure (OpP.assign rfl) ?_)
                    refine OpsJ.nil ?_
                    refine CodeJ.nilrow 3 1 ?_
                    refine CodeJ.ret' ?_
                    obtain rfl := Option.some.inj h249
                    exact Ret.mk0 ⟨none, 0, ([] : List Value), rfl, (repL_nil IM.nil), rfl⟩ (ResJ.two Try.results55 rfl rfl) (IM.le_refl _) (SubL.p0 (SubL.nil _))
                  · rw [if_neg hc263] at h249
                    refine CodeJ.cond_f rfl (decide_eq_false hc263) ?_
                    refine CodeJ.skip ?_
                    refine CodeJ.seq' ?_
                    refine CodeJ.region ?_
                    refine OpsJ.put rfl (OpJ.pure (OpP.move rfl) ?_)
                    refine OpsJ.put rfl (OpJ.pure (OpP.assign rfl) ?_)
                    refine OpsJ.put rfl (OpJ.pure (OpP.assign rfl) ?_)
                    refine OpsJ.nil ?_
                    refine CodeJ.ret' ?_
                    obtain rfl := Option.some.inj h249
                    exact Ret.mk0 ⟨A237, c238, cs239, rfl, hr240, rfl⟩ (ResJ.two Try.results55 rfl rfl) (IM.le_refl _) (SubL.p1 (SubL.nil _))
            · rw [if_neg hc242] at h236
              refine CodeJ.cond_t rfl (congrArg Bool.not (Bool.eq_false_iff.2 hc242)) ?_
              refine CodeJ.seq' ?_
              refine CodeJ.region ?_
              refine OpsJ.put rfl (OpJ.pure (OpP.assign rfl) ?_)
              refine OpsJ.put rfl (OpJ.pure (OpP.assign rfl) ?_)
              refine OpsJ.nil ?_
              refine CodeJ.nilrow 3 1 ?_
              refine CodeJ.ret' ?_
              obtain rfl := Option.some.inj h236
              exact Ret.mk0 ⟨none, 0, ([] : List Value), rfl, (repL_nil IM.nil), rfl⟩ (ResJ.two Try.results55 rfl rfl) (IM.le_refl _) (SubL.p0 (SubL.nil _))
theorem pack_told_w (R : IM) (p0_way : Int) (A1_ : Option Addr) (n1_ c1_ : Nat) (p1_l : List Int) (hA1_ : SlR R A1_ p1_l) (hn1_ : p1_l.length = n1_) (hc1_ : n1_ ≤ c1_) (y : (List UInt8) × Int) (h : pack_told p0_way p1_l = some y) :
    CallJ Try.prog 60 #[.int .i64 p0_way, .slice A1_ n1_ c1_] ⟨R, []⟩ (fun v D hs' => ∃ (B1 : Option Addr) (d2 : Nat) (ds3 : List Value), v = .tuple #[.slice B1 y.1.length d2, .int .i64 y.2] ∧ repL IM.nil ds3 y.1 ∧ hs' = [.row 5 1 B1 y.1.length d2 ds3]) := by
  subst hn1_
  unfold pack_told at h
  refine CallJ.of2 Try.func60 rfl Try.ntmps60 rfl (fun W0 => ?_)
  refine CodeJ.seq' ?_
  refine CodeJ.region ?_
  refine OpsJ.put rfl (OpJ.pure (OpP.assign rfl) ?_)
  refine OpsJ.put rfl (OpJ.pure (OpP.assign rfl) ?_)
  refine OpsJ.nil ?_
  refine CodeJ.seq' ?_
  refine CodeJ.seq' ?_
  refine CodeJ.region ?_
  refine OpsJ.put rfl (OpJ.pure (OpP.move rfl) ?_)
  obtain ⟨y4, hy5, h6⟩ := bind_ok h
  clear h
  refine OpsJ.put rfl (OpJ.call0 rfl (fun R1 hle2 hin3 => pack_may_w R1 A1_ p1_l.length c1_ p1_l (SlR.mono hA1_ (IM.le_trans (IM.le_refl _) hle2)) rfl hc1_  _ hy5) ?_)
  rintro _ _ _ ⟨rfl, rfl⟩
  refine OpsJ.put rfl (OpJ.pure (OpP.not rfl) ?_)
  refine OpsJ.nil ?_
  by_cases hc7 : y4 = true
  · rw [if_pos hc7] at h6
    refine CodeJ.cond_f rfl (congrArg Bool.not hc7) ?_
    refine CodeJ.skip ?_
    refine CodeJ.seq' ?_
    refine CodeJ.region ?_
    refine OpsJ.put rfl (OpJ.alloc (fun g8 => ?_))
    refine OpsJ.nil ?_
    refine CodeJ.seq' ?_
    refine CodeJ.region ?_
    refine OpsJ.put rfl (OpJ.pure (OpP.move rfl) ?_)
    have hr11 : repL IM.nil [.int .i64 p0_way] ([p0_way] : List Int) := (repL_cons (c1 := [.int .i64 p0_way]) (show Dat.rep _ _ p0_way from rfl) (repL_nil _))
    refine OpsJ.put rfl (OpJ.buildSliceC (cs := [.int .i64 p0_way]) rfl rfl (by exact rfl) (by exact rfl) (by exact rfl) (by exact rfl) (fun g10 => ?_))
    refine OpsJ.nilrow 5 1 ?_
    refine OpsJ.rowle (List.Perm.swap _ _ _) (fun hcap14 _ => ?_)
    obtain ⟨y18, hy19, h20⟩ := bind_ok h6
    clear h6
    refine OpsJ.put rfl (OpJ.callP (Split.p2 (Split.p0 Split.nil)) rfl (fun R15 hle16 hin17 => octet_Writer_Nums_w R15 g8 ([] : List UInt8) none 0 ([] : List Value) (repL_nil IM.nil) (some ⟨g10, 0, none⟩) 1 1 ([p0_way] : List Int) (SlR.of_row (inRow hin17 (List.Mem.head _)) hr11 (IM.le_nil _)) rfl hcap14  _ hy19) ?_)
    rintro _ _ _ ⟨A21, c22, cs23, rfl, hr24, rfl⟩
    refine OpsJ.nil ?_
    refine CodeJ.seq' ?_
    refine CodeJ.region ?_
    refine OpsJ.put rfl (OpJ.pure (OpP.assign rfl) ?_)
    refine OpsJ.nil ?_
    refine CodeJ.seq' ?_
    refine CodeJ.seq' ?_
    refine CodeJ.region ?_
    refine OpsJ.put rfl (OpJ.pure (OpP.move rfl) ?_)
    refine OpsJ.nil ?_
    refine CodeJ.block ?_
    refine CodeJ.seq' ?_
    refine CodeJ.region ?_
    refine OpsJ.put rfl (OpJ.pure (OpP.eql rfl rfl) ?_)
    refine OpsJ.put rfl (OpJ.pure (OpP.assign rfl) ?_)
    refine OpsJ.nil ?_
    by_cases hc26 : p0_way = 0
    · rw [if_pos hc26] at h20
      refine CodeJ.cond_t rfl (decide_eq_true hc26) ?_
      refine CodeJ.seq' ?_
      refine CodeJ.region ?_
      refine OpsJ.put rfl (OpJ.pure (OpP.move rfl) ?_)
      refine OpsJ.put rfl (OpJ.pure (OpP.len rfl) ?_)
      have hr28 : repL IM.nil [.int .i64 ((p1_l.length : Nat) : Int)] ([((p1_l.length : Nat) : Int)] : List Int) := (repL_cons (c1 := [.int .i64 ((p1_l.length : Nat) : Int)]) (show Dat.rep _ _ ((p1_l.length : Nat) : Int) from rfl) (repL_nil _))
      refine OpsJ.put rfl (OpJ.buildSliceC (cs := [.int .i64 ((p1_l.length : Nat) : Int)]) rfl rfl (by exact rfl) (by exact rfl) (by exact rfl) (by exact rfl) (fun g27 => ?_))
      refine OpsJ.rowle (List.Perm.refl _) (fun hcap30 _ => ?_)
      obtain ⟨y34, hy35, h36⟩ := bind_ok h20
      clear h20
      refine OpsJ.put rfl (OpJ.callP (Split.p1 (Split.p1 Split.nil)) rfl (fun R31 hle32 hin33 => octet_Writer_Nums_w R31 g8 y18 A21 c22 cs23 hr24 (some ⟨g27, 0, none⟩) 1 1 ([((p1_l.length : Nat) : Int)] : List Int) (SlR.of_row (inRow hin33 (List.Mem.head _)) hr28 (IM.le_nil _)) rfl hcap30  _ hy35) ?_)
      rintro _ _ _ ⟨A37, c38, cs39, rfl, hr40, rfl⟩
      refine OpsJ.nil ?_
      refine CodeJ.region ?_
      refine OpsJ.put rfl (OpJ.pure (OpP.move rfl) ?_)
      refine OpsJ.put rfl (OpJ.pure (OpP.assign rfl) ?_)
      refine OpsJ.nil ?_
      refine CodeJ.seq' ?_
      refine CodeJ.region ?_
      refine OpsJ.put rfl (OpJ.pure (OpP.move rfl) ?_)
      obtain ⟨y45, hy46, h47⟩ := bind_ok h36
      clear h36
      refine OpsJ.put rfl (OpJ.callP (Split.p0 (Split.p0 Split.nil)) rfl (fun R42 hle43 hin44 => octet_Writer_Nums_w R42 g8 y34 A37 c38 cs39 hr40 A1_ p1_l.length c1_ p1_l (SlR.mono hA1_ (IM.le_trans (IM.le_refl _) hle43)) rfl hc1_  _ hy46) ?_)
      rintro _ _ _ ⟨A48, c49, cs50, rfl, hr51, rfl⟩
      refine OpsJ.nil ?_
      refine CodeJ.seq' ?_
      refine CodeJ.region ?_
      obtain ⟨y56, hy57, h58⟩ := bind_ok h47
      clear h47
      refine OpsJ.put rfl (OpJ.callP (Split.p0 (Split.p0 Split.nil)) rfl (fun R53 hle54 hin55 => octet_Writer_Out_w R53 g8 y45 A48 c49 cs50 hr51  _ hy57) ?_)
      rintro _ _ _ ⟨A59, c60, cs61, A64, c65, cs66, rfl, hr62, hr67, rfl⟩
      refine OpsJ.put rfl (OpJ.pure (OpP.assign rfl) ?_)
      refine OpsJ.put rfl (OpJ.pure (OpP.assign rfl) ?_)
      refine OpsJ.nil ?_
      refine CodeJ.ret' ?_
      obtain rfl := Option.some.inj h58
      exact Ret.mk0 ⟨A64, c65, cs66, rfl, hr67, rfl⟩ (ResJ.two Try.results60 rfl rfl) (IM.le_refl _) (SubL.p2 (SubL.nil _))
    · rw [if_neg hc26] at h20
      refine CodeJ.cond_f rfl (decide_eq_false hc26) ?_
      refine CodeJ.seq' ?_
      refine CodeJ.region ?_
      refine OpsJ.put rfl (OpJ.pure (OpP.eql rfl rfl) ?_)
      refine OpsJ.put rfl (OpJ.pure (OpP.assign rfl) ?_)
      refine OpsJ.nil ?_
      by_cases hc71 : p0_way = 1
      · rw [if_pos hc71] at h20
        refine CodeJ.cond_t rfl (decide_eq_true hc71) ?_
        refine CodeJ.seq' ?_
        refine CodeJ.region ?_
        refine OpsJ.put rfl (OpJ.pure (OpP.move rfl) ?_)
        refine OpsJ.put rfl (OpJ.pure (OpP.len rfl) ?_)
        have hr73 : repL IM.nil [.int .i64 ((p1_l.length : Nat) : Int)] ([((p1_l.length : Nat) : Int)] : List Int) := (repL_cons (c1 := [.int .i64 ((p1_l.length : Nat) : Int)]) (show Dat.rep _ _ ((p1_l.length : Nat) : Int) from rfl) (repL_nil _))
        refine OpsJ.put rfl (OpJ.buildSliceC (cs := [.int .i64 ((p1_l.length : Nat) : Int)]) rfl rfl (by exact rfl) (by exact rfl) (by exact rfl) (by exact rfl) (fun g72 => ?_))
        refine OpsJ.rowle (List.Perm.refl _) (fun hcap75 _ => ?_)
        obtain ⟨y79, hy80, h81⟩ := bind_ok h20
        clear h20
        refine OpsJ.put rfl (OpJ.callP (Split.p1 (Split.p1 Split.nil)) rfl (fun R76 hle77 hin78 => octet_Writer_Nums_w R76 g8 y18 A21 c22 cs23 hr24 (some ⟨g72, 0, none⟩) 1 1 ([((p1_l.length : Nat) : Int)] : List Int) (SlR.of_row (inRow hin78 (List.Mem.head _)) hr73 (IM.le_nil _)) rfl hcap75  _ hy80) ?_)
        rintro _ _ _ ⟨A82, c83, cs84, rfl, hr85, rfl⟩
        refine OpsJ.nil ?_
        refine CodeJ.seq' ?_
        refine CodeJ.region ?_
        refine OpsJ.put rfl (OpJ.pure (OpP.assign rfl) ?_)
        refine OpsJ.nil ?_
        refine CodeJ.seq' ?_
        refine CodeJ.region ?_
        refine OpsJ.put rfl (OpJ.pure (OpP.move rfl) ?_)
        refine OpsJ.put rfl (OpJ.pure (OpP.len rfl) ?_)
        refine OpsJ.put rfl (OpJ.pure (OpP.move rfl) ?_)
        refine OpsJ.nil ?_
        refine CodeJ.nilrow 3 1 ?_
        obtain ⟨t176, hl177, h178⟩ := bind_ok h81
        clear h81
        refine CodeJ.mid (fun e s => ∃ (A169 : Option Addr) (c170 : Nat) (cs171 : List Value) (rest_168 : List Int), rest_168 = t176 ∧ repL IM.nil cs171 rest_168 ∧ e = [(6, .pointer (some ⟨g8, 0, none⟩)), (7, .slice A169 rest_168.length c170)] ∧ s = ⟨R, [.blk g8 [.slice A82 y79.length c83] 25, .row 5 1 A82 y79.length c83 cs84, .row 3 1 A169 rest_168.length c170 cs171]⟩) ?_ ?_
        · refine CodeJ.block ?_
          refine CodeJ.loopM hl177 (fun (rest_139, last_145, v146) e s => ∃ (A140 : Option Addr) (c141 : Nat) (cs142 : List Value), repL IM.nil cs142 rest_139 ∧ e = [(6, .pointer (some ⟨g8, 0, none⟩)), (7, .slice A140 rest_139.length c141), (8, .int .i64 last_145), (33, .slice A1_ p1_l.length c1_), (34, .int .i64 ((p1_l.length : Nat) : Int)), (35, .int .i64 v146)] ∧ s = ⟨R, [.blk g8 [.slice A82 y79.length c83] 25, .row 5 1 A82 y79.length c83 cs84, .row 3 1 A140 rest_139.length c141 cs142]⟩) ⟨none, 0, ([] : List Value), (repL_nil IM.nil), rfl, rfl⟩ (SubE.cons rfl (SubE.cons rfl (SubE.cons rfl (SubE.cons rfl (SubE.cons rfl (SubE.cons rfl (SubE.nil _))))))) (SubL.p1 (SubL.p1 (SubL.p0 (SubL.nil _)))) ?_
          rintro ⟨rest_139, last_145, v146⟩ _ _ _ ⟨A140, c141, cs142, hr143, rfl, rfl⟩ h174 hne175
          (try dsimp only at h174); unfold pack_told_l0 at h174
          refine CodeJ.seq' ?_
          refine CodeJ.region ?_
          refine OpsJ.put rfl (OpJ.pure (OpP.lss rfl rfl) ?_)
          refine OpsJ.nil ?_
          refine CodeJ.seq' ?_
          by_cases hc179 : v146 < ((p1_l.length : Nat) : Int)
          · rw [if_pos hc179] at h174
            refine CodeJ.cond_t rfl (decide_eq_true hc179) ?_
            refine CodeJ.skip ?_
            refine CodeJ.seq' ?_
            refine CodeJ.block ?_
            refine CodeJ.seq' ?_
            refine CodeJ.region ?_
            obtain ⟨x180, hx181, h182⟩ := bind_ok h174
            clear h174
            have hE183 : RC _ (some ((adr A1_).add (Int.toNat v146 * Dat.size Int))) [.int .i64 x180] := SlR.getF (α := Int) hA1_ hx181
            refine OpsJ.put rfl (OpJ.pure (OpP.ixR hA1_ rfl hx181 (by exact rfl) (by exact rfl) rfl rfl) ?_)
            refine OpsJ.put rfl (OpJ.pure (OpP.ldR0 (by exact rfl) hE183 (IM.le_refl _) rfl rfl) ?_)
            refine OpsJ.put rfl (OpJ.pure (OpP.assign rfl) ?_)
            refine OpsJ.nil ?_
            refine CodeJ.seq' ?_
            refine CodeJ.region ?_
            refine OpsJ.put rfl (OpJ.pure (OpP.move rfl) ?_)
            refine OpsJ.put rfl (OpJ.pure (OpP.move rfl) ?_)
            refine OpsJ.put rfl (OpJ.pure (OpP.move rfl) ?_)
            refine OpsJ.put rfl (OpJ.pure (OpP.sub64 rfl rfl) ?_)
            obtain ⟨y187, hy188, h189⟩ := bind_ok h182
            clear h182
            refine OpsJ.put rfl (OpJ.call0 rfl (fun R184 hle185 hin186 => pack_turned_w R184 (w64 (x180 - last_145))  _ hy188) ?_)
            rintro _ _ _ ⟨rfl, rfl⟩
            have hr191 : repL IM.nil [.int .i64 y187] ([y187] : List Int) := (repL_cons (c1 := [.int .i64 y187]) (show Dat.rep _ _ y187 from rfl) (repL_nil _))
            refine OpsJ.put rfl (OpJ.buildSliceC (cs := [.int .i64 y187]) rfl rfl (by exact rfl) (by exact rfl) (by exact rfl) (by exact rfl) (fun g190 => ?_))
            obtain ⟨q193, hq194, h195⟩ := bind_ok h189
            clear h189
            have hr198 : repL IM.nil (cs142 ++ ([.int .i64 y187] : List Value)) q193 := app_rep hq194 hr143 hr191
            refine OpsJ.put rfl (OpJ.appW hq194 rfl rfl (Src.ofRow (List.Mem.head _)) hr191 (by exact rfl) (permm3 _ _ _ _ _) (by exact rfl) (by exact rfl) (by exact rfl) rfl rfl (fun A196 c197 => ?_))
            refine OpsJ.put rfl (OpJ.pure (OpP.assign rfl) ?_)
            refine OpsJ.nil ?_
            refine CodeJ.region ?_
            refine OpsJ.put rfl (OpJ.pure (OpP.move rfl) ?_)
            refine OpsJ.put rfl (OpJ.pure (OpP.assign rfl) ?_)
            refine OpsJ.nil ?_
            refine CodeJ.region ?_
            refine OpsJ.put rfl (OpJ.pure (OpP.add64 rfl rfl) ?_)
            refine OpsJ.put rfl (OpJ.pure (OpP.move rfl) ?_)
            refine OpsJ.nil ?_
            obtain rfl := Option.some.inj h195
            exact ⟨_, _, _, _, rfl, ⟨A196, c197, (cs142 ++ ([.int .i64 y187] : List Value)), hr198, rfl, rfl⟩, IM.le_refl _, (SubE.cons rfl (SubE.cons rfl (SubE.cons rfl (SubE.cons rfl (SubE.cons rfl (SubE.cons rfl (SubE.nil _))))))), (SubL.p2 (SubL.p2 (SubL.p0 (SubL.nil _))))⟩
          · rw [if_neg hc179] at h174
            refine CodeJ.cond_f rfl (decide_eq_false hc179) ?_
            refine CodeJ.exit rfl ?_
            obtain rfl := Option.some.inj h174
            have ht200 := hne175 _ rfl
            exact ⟨_, _, _, ⟨A140, c141, cs142, rest_139, ht200, hr143, rfl, rfl⟩, IM.le_refl _, (SubE.cons rfl (SubE.cons rfl (SubE.nil _))), (SubL.p0 (SubL.p0 (SubL.p0 (SubL.nil _))))⟩
        · rintro _ _ ⟨A169, c170, cs171, rest_168, rfl, hr172, rfl, rfl⟩
          (try dsimp only at h178)
          refine CodeJ.seq' ?_
          refine CodeJ.region ?_
          refine OpsJ.put rfl (OpJ.pure (OpP.move rfl) ?_)
          refine OpsJ.rowle (permm2 _ _ _ _) (fun hcap201 _ => ?_)
          obtain ⟨y205, hy206, h207⟩ := bind_ok h178
          clear h178
          refine OpsJ.put rfl (OpJ.callP (Split.p0 (Split.p0 Split.nil)) rfl (fun R202 hle203 hin204 => octet_Writer_Nums_w R202 g8 y79 A82 c83 cs84 hr85 A169 rest_168.length c170 rest_168 (SlR.of_row (inRow hin204 (List.Mem.head _)) hr172 (IM.le_nil _)) rfl hcap201  _ hy206) ?_)
          rintro _ _ _ ⟨A208, c209, cs210, rfl, hr211, rfl⟩
          refine OpsJ.nil ?_
          refine CodeJ.seq' ?_
          refine CodeJ.region ?_
          obtain ⟨y216, hy217, h218⟩ := bind_ok h207
          clear h207
          refine OpsJ.put rfl (OpJ.callP (Split.p0 (Split.p0 Split.nil)) rfl (fun R213 hle214 hin215 => octet_Writer_Out_w R213 g8 y205 A208 c209 cs210 hr211  _ hy217) ?_)
          rintro _ _ _ ⟨A219, c220, cs221, A224, c225, cs226, rfl, hr222, hr227, rfl⟩
          refine OpsJ.put rfl (OpJ.pure (OpP.assign rfl) ?_)
          refine OpsJ.put rfl (OpJ.pure (OpP.assign rfl) ?_)
          refine OpsJ.nil ?_
          refine CodeJ.ret' ?_
          obtain rfl := Option.some.inj h218
          exact Ret.mk0 ⟨A224, c225, cs226, rfl, hr227, rfl⟩ (ResJ.two Try.results60 rfl rfl) (IM.le_refl _) (SubL.p2 (SubL.nil _))
      · rw [if_neg hc71] at h20
        refine CodeJ.cond_f rfl (decide_eq_false hc71) ?_
        refine CodeJ.seq' ?_
        refine CodeJ.region ?_
        refine OpsJ.put rfl (OpJ.pure (OpP.eql rfl rfl) ?_)
        refine OpsJ.put rfl (OpJ.pure (OpP.assign rfl) ?_)
        refine OpsJ.nil ?_
        by_cases hc231 : p0_way = 2
        · rw [if_pos hc231] at h20
          refine CodeJ.cond_t rfl (decide_eq_true hc231) ?_
          refine CodeJ.seq' ?_
          refine CodeJ.seq' ?_
          refine CodeJ.region ?_
          refine OpsJ.put rfl (OpJ.pure (OpP.move rfl) ?_)
          refine OpsJ.put rfl (OpJ.pure (OpP.len rfl) ?_)
          refine OpsJ.put rfl (OpJ.pure (OpP.move rfl) ?_)
          refine OpsJ.nil ?_
          refine CodeJ.nilrow 3 1 ?_
          obtain ⟨t422, hl423, h424⟩ := bind_ok h20
          clear h20
          refine CodeJ.mid (fun e s => ∃ (A415 : Option Addr) (c416 : Nat) (cs417 : List Value) (rest_414 : List Int), rest_414 = t422 ∧ repL IM.nil cs417 rest_414 ∧ e = [(6, .pointer (some ⟨g8, 0, none⟩)), (7, .slice A415 rest_414.length c416)] ∧ s = ⟨R, [.blk g8 [.slice A21 y18.length c22] 25, .row 5 1 A21 y18.length c22 cs23, .row 3 1 A415 rest_414.length c416 cs417]⟩) ?_ ?_
          · refine CodeJ.block ?_
            refine CodeJ.loopM hl423 (fun (rest_349, v355) e s => ∃ (A350 : Option Addr) (c351 : Nat) (cs352 : List Value), repL IM.nil cs352 rest_349 ∧ e = [(1, .slice A1_ p1_l.length c1_), (6, .pointer (some ⟨g8, 0, none⟩)), (7, .slice A350 rest_349.length c351), (50, .slice A1_ p1_l.length c1_), (51, .int .i64 ((p1_l.length : Nat) : Int)), (52, .int .i64 v355)] ∧ s = ⟨R, [.blk g8 [.slice A21 y18.length c22] 25, .row 5 1 A21 y18.length c22 cs23, .row 3 1 A350 rest_349.length c351 cs352]⟩) ⟨none, 0, ([] : List Value), (repL_nil IM.nil), rfl, rfl⟩ (SubE.cons rfl (SubE.cons rfl (SubE.cons rfl (SubE.cons rfl (SubE.cons rfl (SubE.cons rfl (SubE.nil _))))))) (SubL.p1 (SubL.p1 (SubL.p0 (SubL.nil _)))) ?_
            rintro ⟨rest_349, v355⟩ _ _ _ ⟨A350, c351, cs352, hr353, rfl, rfl⟩ h420 hne421
            (try dsimp only at h420); unfold pack_told_l1 at h420
            refine CodeJ.seq' ?_
            refine CodeJ.region ?_
            refine OpsJ.put rfl (OpJ.pure (OpP.lss rfl rfl) ?_)
            refine OpsJ.nil ?_
            refine CodeJ.seq' ?_
            by_cases hc425 : v355 < ((p1_l.length : Nat) : Int)
            · rw [if_pos hc425] at h420
              refine CodeJ.cond_t rfl (decide_eq_true hc425) ?_
              refine CodeJ.skip ?_
              refine CodeJ.seq' ?_
              refine CodeJ.block ?_
              refine CodeJ.seq' ?_
              refine CodeJ.region ?_
              refine OpsJ.put rfl (OpJ.pure (OpP.move rfl) ?_)
              obtain ⟨x426, hx427, h428⟩ := bind_ok h420
              clear h420
              have hE429 : RC _ (some ((adr A1_).add (Int.toNat v355 * Dat.size Int))) [.int .i64 x426] := SlR.getF (α := Int) hA1_ hx427
              refine OpsJ.put rfl (OpJ.pure (OpP.ixR hA1_ rfl hx427 (by exact rfl) (by exact rfl) rfl rfl) ?_)
              refine OpsJ.put rfl (OpJ.pure (OpP.ldR0 (by exact rfl) hE429 (IM.le_refl _) rfl rfl) ?_)
              refine OpsJ.put rfl (OpJ.pure (OpP.assign rfl) ?_)
              refine OpsJ.put rfl (OpJ.pure (OpP.assign rfl) ?_)
              refine OpsJ.nil ?_
              refine CodeJ.seq' ?_
              refine CodeJ.seq' ?_
              refine CodeJ.region ?_
              refine OpsJ.put rfl (OpJ.pure (OpP.move rfl) ?_)
              refine OpsJ.put rfl (OpJ.pure (OpP.eql rfl rfl) ?_)
              refine OpsJ.put rfl (OpJ.pure (OpP.move rfl) ?_)
              by_cases hc430 : v355 = 0
              · rw [if_pos hc430] at h428
                refine OpsJ.guard_n rfl rfl rfl rfl (decide_eq_true hc430) ?_
                refine OpsJ.guard_n rfl rfl rfl rfl (decide_eq_true hc430) ?_
                refine OpsJ.guard_n rfl rfl rfl rfl (decide_eq_true hc430) ?_
                refine OpsJ.guard_n rfl rfl rfl rfl (decide_eq_true hc430) ?_
                refine OpsJ.guard_n rfl rfl rfl rfl (decide_eq_true hc430) ?_
                refine OpsJ.guard_n rfl rfl rfl rfl (decide_eq_true hc430) ?_
                refine OpsJ.guard_n rfl rfl rfl rfl (decide_eq_true hc430) ?_
                refine OpsJ.put rfl (OpJ.pure (OpP.pick_t rfl (decide_eq_true hc430) rfl) ?_)
                refine OpsJ.nil ?_
                refine CodeJ.cond_t rfl rfl ?_
                refine CodeJ.region ?_
                refine OpsJ.put rfl (OpJ.pure (OpP.move rfl) ?_)
                refine OpsJ.put rfl (OpJ.pure (OpP.move rfl) ?_)
                have hr432 : repL IM.nil [.int .i64 0, .int .i64 x426] ([0, x426] : List Int) := (repL_cons (c1 := [.int .i64 0]) (show Dat.rep _ _ 0 from rfl) (repL_cons (c1 := [.int .i64 x426]) (show Dat.rep _ _ x426 from rfl) (repL_nil _)))
                refine OpsJ.put rfl (OpJ.buildSliceC (cs := [.int .i64 0, .int .i64 x426]) rfl rfl (by exact rfl) (by exact rfl) (by exact rfl) (by exact rfl) (fun g431 => ?_))
                obtain ⟨q434, hq435, h436⟩ := bind_ok h428
                clear h428
                have hr439 : repL IM.nil (cs352 ++ ([.int .i64 0, .int .i64 x426] : List Value)) q434 := app_rep hq435 hr353 hr432
                refine OpsJ.put rfl (OpJ.appW hq435 rfl rfl (Src.ofRow (List.Mem.head _)) hr432 (by exact rfl) (permm3 _ _ _ _ _) (by exact rfl) (by exact rfl) (by exact rfl) rfl rfl (fun A437 c438 => ?_))
                refine OpsJ.put rfl (OpJ.pure (OpP.assign rfl) ?_)
                refine OpsJ.nil ?_
                refine CodeJ.region ?_
                refine OpsJ.put rfl (OpJ.pure (OpP.move rfl) ?_)
                refine OpsJ.put rfl (OpJ.pure (OpP.move rfl) ?_)
                refine OpsJ.put rfl (OpJ.pure (OpP.len rfl) ?_)
                refine OpsJ.put rfl (OpJ.pure (OpP.sub64 rfl rfl) ?_)
                obtain ⟨x441, hx442, h443⟩ := bind_ok h436
                clear h436
                have hE444 : ∀ j v, ([.int .i64 x441] : List Value)[j]? = some v → ((cs352 ++ ([.int .i64 0, .int .i64 x426] : List Value)))[Int.toNat (w64 (((q434.length : Nat) : Int) - 2)) * Dat.size Int + j]? = some v := row_getF (α := Int) hr439 hx442
                refine OpsJ.put rfl (OpJ.pure (OpP.ixW (List.Mem.head _) hr439 rfl hx442 (by exact rfl) (by exact rfl) rfl rfl) ?_)
                refine OpsJ.put rfl (OpJ.pure (OpP.ldW0 (by exact rfl) (List.Mem.head _) hE444 rfl rfl) ?_)
                refine OpsJ.put rfl (OpJ.pure (OpP.add64 rfl rfl) ?_)
                have hE445 : ∀ j v, ([.int .i64 x441] : List Value)[j]? = some v → ((cs352 ++ ([.int .i64 0, .int .i64 x426] : List Value)))[Int.toNat (w64 (((q434.length : Nat) : Int) - 2)) * Dat.size Int + j]? = some v := row_getF (α := Int) hr439 hx442
                refine OpsJ.put rfl (OpJ.pure (OpP.ixW (List.Mem.head _) hr439 rfl hx442 (by exact rfl) (by exact rfl) rfl rfl) ?_)
                obtain ⟨q446, hq447, h449⟩ := bind_ok h443
                clear h443
                have hr448 : repL IM.nil (lsplice (cs352 ++ ([.int .i64 0, .int .i64 x426] : List Value)) (Int.toNat (w64 (((q434.length : Nat) : Int) - 2)) * Dat.size Int) [.int .i64 (w64 (x441 + 1))]) q446 := set_rep hq447 hr439 (show Dat.rep IM.nil [.int .i64 (w64 (x441 + 1))] (w64 (x441 + 1)) from rfl)
                refine OpsJ.act (OpJ.stW hq447 hr439 (show Dat.rep IM.nil [.int .i64 (w64 (x441 + 1))] (w64 (x441 + 1)) from rfl) (by exact rfl) (by exact rfl) rfl (List.Perm.refl _) rfl rfl ?_)
                refine OpsJ.nil ?_
                refine CodeJ.region ?_
                refine OpsJ.put rfl (OpJ.pure (OpP.add64 rfl rfl) ?_)
                refine OpsJ.put rfl (OpJ.pure (OpP.move rfl) ?_)
                refine OpsJ.nil ?_
                obtain rfl := Option.some.inj h449
                exact ⟨_, _, _, _, rfl, ⟨A437, c438, (lsplice (cs352 ++ ([.int .i64 0, .int .i64 x426] : List Value)) (Int.toNat (w64 (((q434.length : Nat) : Int) - 2)) * Dat.size Int) [.int .i64 (w64 (x441 + 1))]), hr448, rfl, rfl⟩, IM.le_refl _, (SubE.cons rfl (SubE.cons rfl (SubE.cons (slot_len (set_len hq447 rfl)) (SubE.cons rfl (SubE.cons rfl (SubE.cons rfl (SubE.nil _))))))), (SubL.p2 (SubL.p2 (SubL.len (set_len hq447 rfl) (SubL.p0 (SubL.nil _)))))⟩
              · rw [if_neg hc430] at h428
                refine OpsJ.guard_y rfl rfl rfl rfl (decide_eq_false hc430) ?_
                refine OpsJ.put rfl (OpJ.pure (OpP.move rfl) ?_)
                refine OpsJ.guard_y rfl rfl rfl rfl (decide_eq_false hc430) ?_
                refine OpsJ.put rfl (OpJ.pure (OpP.move rfl) ?_)
                refine OpsJ.guard_y rfl rfl rfl rfl (decide_eq_false hc430) ?_
                refine OpsJ.put rfl (OpJ.pure (OpP.move rfl) ?_)
                refine OpsJ.guard_y rfl rfl rfl rfl (decide_eq_false hc430) ?_
                refine OpsJ.put rfl (OpJ.pure (OpP.sub64 rfl rfl) ?_)
                refine OpsJ.guard_y rfl rfl rfl rfl (decide_eq_false hc430) ?_
                obtain ⟨x450, hx451, h452⟩ := bind_ok h428
                clear h428
                have hE453 : RC _ (some ((adr A1_).add (Int.toNat (w64 (v355 - 1)) * Dat.size Int))) [.int .i64 x450] := SlR.getF (α := Int) hA1_ hx451
                refine OpsJ.put rfl (OpJ.pure (OpP.ixR hA1_ rfl hx451 (by exact rfl) (by exact rfl) rfl rfl) ?_)
                refine OpsJ.guard_y rfl rfl rfl rfl (decide_eq_false hc430) ?_
                refine OpsJ.put rfl (OpJ.pure (OpP.ldR0 (by exact rfl) hE453 (IM.le_refl _) rfl rfl) ?_)
                refine OpsJ.guard_y rfl rfl rfl rfl (decide_eq_false hc430) ?_
                refine OpsJ.put rfl (OpJ.pure (OpP.neq rfl rfl) ?_)
                refine OpsJ.put rfl (OpJ.pure (OpP.pick_f rfl (decide_eq_false hc430) rfl) ?_)
                refine OpsJ.nil ?_
                by_cases hc454 : x426 ≠ x450
                · rw [if_pos hc454] at h452
                  refine CodeJ.cond_t rfl (decide_eq_true hc454) ?_
                  refine CodeJ.region ?_
                  refine OpsJ.put rfl (OpJ.pure (OpP.move rfl) ?_)
                  refine OpsJ.put rfl (OpJ.pure (OpP.move rfl) ?_)
                  have hr456 : repL IM.nil [.int .i64 0, .int .i64 x426] ([0, x426] : List Int) := (repL_cons (c1 := [.int .i64 0]) (show Dat.rep _ _ 0 from rfl) (repL_cons (c1 := [.int .i64 x426]) (show Dat.rep _ _ x426 from rfl) (repL_nil _)))
                  refine OpsJ.put rfl (OpJ.buildSliceC (cs := [.int .i64 0, .int .i64 x426]) rfl rfl (by exact rfl) (by exact rfl) (by exact rfl) (by exact rfl) (fun g455 => ?_))
                  obtain ⟨q458, hq459, h460⟩ := bind_ok h452
                  clear h452
                  have hr463 : repL IM.nil (cs352 ++ ([.int .i64 0, .int .i64 x426] : List Value)) q458 := app_rep hq459 hr353 hr456
                  refine OpsJ.put rfl (OpJ.appW hq459 rfl rfl (Src.ofRow (List.Mem.head _)) hr456 (by exact rfl) (permm3 _ _ _ _ _) (by exact rfl) (by exact rfl) (by exact rfl) rfl rfl (fun A461 c462 => ?_))
                  refine OpsJ.put rfl (OpJ.pure (OpP.assign rfl) ?_)
                  refine OpsJ.nil ?_
                  refine CodeJ.region ?_
                  refine OpsJ.put rfl (OpJ.pure (OpP.move rfl) ?_)
                  refine OpsJ.put rfl (OpJ.pure (OpP.move rfl) ?_)
                  refine OpsJ.put rfl (OpJ.pure (OpP.len rfl) ?_)
                  refine OpsJ.put rfl (OpJ.pure (OpP.sub64 rfl rfl) ?_)
                  obtain ⟨x465, hx466, h467⟩ := bind_ok h460
                  clear h460
                  have hE468 : ∀ j v, ([.int .i64 x465] : List Value)[j]? = some v → ((cs352 ++ ([.int .i64 0, .int .i64 x426] : List Value)))[Int.toNat (w64 (((q458.length : Nat) : Int) - 2)) * Dat.size Int + j]? = some v := row_getF (α := Int) hr463 hx466
                  refine OpsJ.put rfl (OpJ.pure (OpP.ixW (List.Mem.head _) hr463 rfl hx466 (by exact rfl) (by exact rfl) rfl rfl) ?_)
                  refine OpsJ.put rfl (OpJ.pure (OpP.ldW0 (by exact rfl) (List.Mem.head _) hE468 rfl rfl) ?_)
                  refine OpsJ.put rfl (OpJ.pure (OpP.add64 rfl rfl) ?_)
                  have hE469 : ∀ j v, ([.int .i64 x465] : List Value)[j]? = some v → ((cs352 ++ ([.int .i64 0, .int .i64 x426] : List Value)))[Int.toNat (w64 (((q458.length : Nat) : Int) - 2)) * Dat.size Int + j]? = some v := row_getF (α := Int) hr463 hx466
                  refine OpsJ.put rfl (OpJ.pure (OpP.ixW (List.Mem.head _) hr463 rfl hx466 (by exact rfl) (by exact rfl) rfl rfl) ?_)
                  obtain ⟨q470, hq471, h473⟩ := bind_ok h467
                  clear h467
                  have hr472 : repL IM.nil (lsplice (cs352 ++ ([.int .i64 0, .int .i64 x426] : List Value)) (Int.toNat (w64 (((q458.length : Nat) : Int) - 2)) * Dat.size Int) [.int .i64 (w64 (x465 + 1))]) q470 := set_rep hq471 hr463 (show Dat.rep IM.nil [.int .i64 (w64 (x465 + 1))] (w64 (x465 + 1)) from rfl)
                  refine OpsJ.act (OpJ.stW hq471 hr463 (show Dat.rep IM.nil [.int .i64 (w64 (x465 + 1))] (w64 (x465 + 1)) from rfl) (by exact rfl) (by exact rfl) rfl (List.Perm.refl _) rfl rfl ?_)
                  refine OpsJ.nil ?_
                  refine CodeJ.region ?_
                  refine OpsJ.put rfl (OpJ.pure (OpP.add64 rfl rfl) ?_)
                  refine OpsJ.put rfl (OpJ.pure (OpP.move rfl) ?_)
                  refine OpsJ.nil ?_
                  obtain rfl := Option.some.inj h473
                  exact ⟨_, _, _, _, rfl, ⟨A461, c462, (lsplice (cs352 ++ ([.int .i64 0, .int .i64 x426] : List Value)) (Int.toNat (w64 (((q458.length : Nat) : Int) - 2)) * Dat.size Int) [.int .i64 (w64 (x465 + 1))]), hr472, rfl, rfl⟩, IM.le_refl _, (SubE.cons rfl (SubE.cons rfl (SubE.cons (slot_len (set_len hq471 rfl)) (SubE.cons rfl (SubE.cons rfl (SubE.cons rfl (SubE.nil _))))))), (SubL.p2 (SubL.p2 (SubL.len (set_len hq471 rfl) (SubL.p0 (SubL.nil _)))))⟩
                · rw [if_neg hc454] at h452
                  refine CodeJ.cond_f rfl (decide_eq_false hc454) ?_
                  refine CodeJ.skip ?_
                  refine CodeJ.region ?_
                  refine OpsJ.put rfl (OpJ.pure (OpP.move rfl) ?_)
                  refine OpsJ.put rfl (OpJ.pure (OpP.move rfl) ?_)
                  refine OpsJ.put rfl (OpJ.pure (OpP.len rfl) ?_)
                  refine OpsJ.put rfl (OpJ.pure (OpP.sub64 rfl rfl) ?_)
                  obtain ⟨x474, hx475, h476⟩ := bind_ok h452
                  clear h452
                  have hE477 : ∀ j v, ([.int .i64 x474] : List Value)[j]? = some v → (cs352)[Int.toNat (w64 (((rest_349.length : Nat) : Int) - 2)) * Dat.size Int + j]? = some v := row_getF (α := Int) hr353 hx475
                  refine OpsJ.put rfl (OpJ.pure (OpP.ixW (List.Mem.tail _ (List.Mem.tail _ (List.Mem.head _))) hr353 rfl hx475 (by exact rfl) (by exact rfl) rfl rfl) ?_)
                  refine OpsJ.put rfl (OpJ.pure (OpP.ldW0 (by exact rfl) (List.Mem.tail _ (List.Mem.tail _ (List.Mem.head _))) hE477 rfl rfl) ?_)
                  refine OpsJ.put rfl (OpJ.pure (OpP.add64 rfl rfl) ?_)
                  have hE478 : ∀ j v, ([.int .i64 x474] : List Value)[j]? = some v → (cs352)[Int.toNat (w64 (((rest_349.length : Nat) : Int) - 2)) * Dat.size Int + j]? = some v := row_getF (α := Int) hr353 hx475
                  refine OpsJ.put rfl (OpJ.pure (OpP.ixW (List.Mem.tail _ (List.Mem.tail _ (List.Mem.head _))) hr353 rfl hx475 (by exact rfl) (by exact rfl) rfl rfl) ?_)
                  obtain ⟨q479, hq480, h482⟩ := bind_ok h476
                  clear h476
                  have hr481 : repL IM.nil (lsplice cs352 (Int.toNat (w64 (((rest_349.length : Nat) : Int) - 2)) * Dat.size Int) [.int .i64 (w64 (x474 + 1))]) q479 := set_rep hq480 hr353 (show Dat.rep IM.nil [.int .i64 (w64 (x474 + 1))] (w64 (x474 + 1)) from rfl)
                  refine OpsJ.act (OpJ.stW hq480 hr353 (show Dat.rep IM.nil [.int .i64 (w64 (x474 + 1))] (w64 (x474 + 1)) from rfl) (by exact rfl) (by exact rfl) rfl (permm2 _ _ _ _) rfl rfl ?_)
                  refine OpsJ.nil ?_
                  refine CodeJ.region ?_
                  refine OpsJ.put rfl (OpJ.pure (OpP.add64 rfl rfl) ?_)
                  refine OpsJ.put rfl (OpJ.pure (OpP.move rfl) ?_)
                  refine OpsJ.nil ?_
                  obtain rfl := Option.some.inj h482
                  exact ⟨_, _, _, _, rfl, ⟨A350, c351, (lsplice cs352 (Int.toNat (w64 (((rest_349.length : Nat) : Int) - 2)) * Dat.size Int) [.int .i64 (w64 (x474 + 1))]), hr481, rfl, rfl⟩, IM.le_refl _, (SubE.cons rfl (SubE.cons rfl (SubE.cons (slot_len (set_len hq480 rfl)) (SubE.cons rfl (SubE.cons rfl (SubE.cons rfl (SubE.nil _))))))), (SubL.p1 (SubL.p1 (SubL.len (set_len hq480 rfl) (SubL.p0 (SubL.nil _)))))⟩
            · rw [if_neg hc425] at h420
              refine CodeJ.cond_f rfl (decide_eq_false hc425) ?_
              refine CodeJ.exit rfl ?_
              obtain rfl := Option.some.inj h420
              have ht483 := hne421 _ rfl
              exact ⟨_, _, _, ⟨A350, c351, cs352, rest_349, ht483, hr353, rfl, rfl⟩, IM.le_refl _, (SubE.cons rfl (SubE.cons rfl (SubE.nil _))), (SubL.p0 (SubL.p0 (SubL.p0 (SubL.nil _))))⟩
          · rintro _ _ ⟨A415, c416, cs417, rest_414, rfl, hr418, rfl, rfl⟩
            (try dsimp only at h424)
            refine CodeJ.region ?_
            refine OpsJ.put rfl (OpJ.pure (OpP.move rfl) ?_)
            refine OpsJ.put rfl (OpJ.pure (OpP.len rfl) ?_)
            obtain ⟨q484, hq485, h486⟩ := bind_ok h424
            clear h424
            refine OpsJ.put rfl (OpJ.pure (OpP.quo64 hq485 rfl rfl) ?_)
            have hr488 : repL IM.nil [.int .i64 q484] ([q484] : List Int) := (repL_cons (c1 := [.int .i64 q484]) (show Dat.rep _ _ q484 from rfl) (repL_nil _))
            refine OpsJ.put rfl (OpJ.buildSliceC (cs := [.int .i64 q484]) rfl rfl (by exact rfl) (by exact rfl) (by exact rfl) (by exact rfl) (fun g487 => ?_))
            refine OpsJ.rowle (List.Perm.refl _) (fun hcap490 _ => ?_)
            obtain ⟨y494, hy495, h496⟩ := bind_ok h486
            clear h486
            refine OpsJ.put rfl (OpJ.callP (Split.p1 (Split.p1 Split.nil)) rfl (fun R491 hle492 hin493 => octet_Writer_Nums_w R491 g8 y18 A21 c22 cs23 hr24 (some ⟨g487, 0, none⟩) 1 1 ([q484] : List Int) (SlR.of_row (inRow hin493 (List.Mem.head _)) hr488 (IM.le_nil _)) rfl hcap490  _ hy495) ?_)
            rintro _ _ _ ⟨A497, c498, cs499, rfl, hr500, rfl⟩
            refine OpsJ.nil ?_
            refine CodeJ.seq' ?_
            refine CodeJ.region ?_
            refine OpsJ.put rfl (OpJ.pure (OpP.move rfl) ?_)
            refine OpsJ.rowle (permm3 _ _ _ _ _) (fun hcap502 _ => ?_)
            obtain ⟨y506, hy507, h508⟩ := bind_ok h496
            clear h496
            refine OpsJ.put rfl (OpJ.callP (Split.p0 (Split.p0 Split.nil)) rfl (fun R503 hle504 hin505 => octet_Writer_Nums_w R503 g8 y494 A497 c498 cs499 hr500 A415 rest_414.length c416 rest_414 (SlR.of_row (inRow hin505 (List.Mem.tail _ (List.Mem.head _))) hr418 (IM.le_nil _)) rfl hcap502  _ hy507) ?_)
            rintro _ _ _ ⟨A509, c510, cs511, rfl, hr512, rfl⟩
            refine OpsJ.nil ?_
            refine CodeJ.seq' ?_
            refine CodeJ.region ?_
            obtain ⟨y517, hy518, h519⟩ := bind_ok h508
            clear h508
            refine OpsJ.put rfl (OpJ.callP (Split.p0 (Split.p0 Split.nil)) rfl (fun R514 hle515 hin516 => octet_Writer_Out_w R514 g8 y506 A509 c510 cs511 hr512  _ hy518) ?_)
            rintro _ _ _ ⟨A520, c521, cs522, A525, c526, cs527, rfl, hr523, hr528, rfl⟩
            refine OpsJ.put rfl (OpJ.pure (OpP.assign rfl) ?_)
            refine OpsJ.put rfl (OpJ.pure (OpP.assign rfl) ?_)
            refine OpsJ.nil ?_
            refine CodeJ.ret' ?_
            obtain rfl := Option.some.inj h519
            exact Ret.mk0 ⟨A525, c526, cs527, rfl, hr528, rfl⟩ (ResJ.two Try.results60 rfl rfl) (IM.le_refl _) (SubL.p2 (SubL.nil _))
        · rw [if_neg hc231] at h20
          refine CodeJ.cond_f rfl (decide_eq_false hc231) ?_
          refine CodeJ.skip ?_
          refine CodeJ.seq' ?_
          refine CodeJ.region ?_
          refine OpsJ.put rfl (OpJ.pure (OpP.move rfl) ?_)
          obtain ⟨y535, hy536, h537⟩ := bind_ok h20
          clear h20
          refine OpsJ.put rfl (OpJ.callP (Split.p0 (Split.p0 Split.nil)) rfl (fun R532 hle533 hin534 => octet_Writer_Nums_w R532 g8 y18 A21 c22 cs23 hr24 none 0 0 ([] : List Int) (SlR.nil _ _) rfl (Nat.le_refl _)  _ hy536) ?_)
          rintro _ _ _ ⟨A538, c539, cs540, rfl, hr541, rfl⟩
          refine OpsJ.nil ?_
          refine CodeJ.seq' ?_
          refine CodeJ.region ?_
          obtain ⟨y546, hy547, h548⟩ := bind_ok h537
          clear h537
          refine OpsJ.put rfl (OpJ.callP (Split.p0 (Split.p0 Split.nil)) rfl (fun R543 hle544 hin545 => octet_Writer_Out_w R543 g8 y535 A538 c539 cs540 hr541  _ hy547) ?_)
          rintro _ _ _ ⟨A549, c550, cs551, A554, c555, cs556, rfl, hr552, hr557, rfl⟩
          refine OpsJ.put rfl (OpJ.pure (OpP.assign rfl) ?_)
          refine OpsJ.put rfl (OpJ.pure (OpP.assign rfl) ?_)
          refine OpsJ.nil ?_
          refine CodeJ.ret' ?_
          obtain rfl := Option.some.inj h548
          exact Ret.mk0 ⟨A554, c555, cs556, rfl, hr557, rfl⟩ (ResJ.two Try.results60 rfl rfl) (IM.le_refl _) (SubL.p2 (SubL.nil _))
  · rw [if_neg hc7] at h6
    refine CodeJ.cond_t rfl (congrArg Bool.not (Bool.eq_false_iff.2 hc7)) ?_
    refine CodeJ.seq' ?_
    refine CodeJ.region ?_
    refine OpsJ.put rfl (OpJ.pure (OpP.assign rfl) ?_)
    refine OpsJ.put rfl (OpJ.pure (OpP.assign rfl) ?_)
    refine OpsJ.nil ?_
    refine CodeJ.nilrow 5 1 ?_
    refine CodeJ.ret' ?_
    obtain rfl := Option.some.inj h6
    exact Ret.mk0 ⟨none, 0, ([] : List Value), rfl, (repL_nil IM.nil), rfl⟩ (ResJ.two Try.results60 rfl rfl) (IM.le_refl _) (SubL.p0 (SubL.nil _))
theorem pack_take_w (R : IM) (R0 : IM) (hR0 : IM.le R0 R) (g0_ : Nat) (p0_r : (List UInt8) × Bool) (A0_1_ : Option Addr) (c0_2_ : Nat) (hc0_3_ : p0_r.1.length ≤ c0_2_) (hA0_4_ : SlR R0 A0_1_ p0_r.1) (p1_way : Int) (p2_n : Int) (y : ((List UInt8) × Bool) × (List Int)) (h : pack_take p0_r p1_way p2_n = some y) :
    CallJ Try.prog 62 #[.pointer (some ⟨g0_, 0, none⟩), .int .i64 p1_way, .int .i64 p2_n] ⟨R, [.blk g0_ [.slice A0_1_ p0_r.1.length c0_2_, .bool p0_r.2] 75]⟩ (fun v D hs' => ∃ (B1 : Option Addr) (d2 : Nat) (B5 : Option Addr) (d6 : Nat) (ds7 : List Value), v = .slice B5 y.2.length d6 ∧ y.1.1.length ≤ d2 ∧ SlR R0 B1 y.1.1 ∧ repL IM.nil ds7 y.2 ∧ hs' = [.blk g0_ [.slice B1 y.1.1.length d2, .bool y.1.2] 75, .row 3 1 B5 y.2.length d6 ds7]) := by
  unfold pack_take at h
  refine CallJ.of3 Try.func62 rfl Try.ntmps62 rfl (fun W0 => ?_)
  refine CodeJ.seq' ?_
  refine CodeJ.region ?_
  refine OpsJ.put rfl (OpJ.pure (OpP.assign rfl) ?_)
  refine OpsJ.nil ?_
  refine CodeJ.seq' ?_
  refine CodeJ.seq' ?_
  refine CodeJ.region ?_
  refine OpsJ.put rfl (OpJ.pure (OpP.move rfl) ?_)
  refine OpsJ.put rfl (OpJ.pure (OpP.gtr rfl rfl) ?_)
  refine OpsJ.nil ?_
  by_cases hc2 : p2_n > 32768
  · rw [if_pos hc2] at h
    refine CodeJ.cond_t rfl (decide_eq_true hc2) ?_
    refine CodeJ.seq' ?_
    refine CodeJ.region ?_
    refine OpsJ.put rfl (OpJ.pure (OpP.move rfl) ?_)
    obtain ⟨y6, hy7, h8⟩ := bind_ok h
    clear h
    refine OpsJ.put rfl (OpJ.callP (Split.p0 Split.nil) rfl (fun R3 hle4 hin5 => octet_Reader_Bad_w R3 R0 (IM.le_trans hR0 hle4) g0_ (p0_r.1, p0_r.2) A0_1_ c0_2_ hc0_3_ (SlR.mono hA0_4_ (IM.le_refl _))  _ hy7) ?_)
    rintro _ _ _ ⟨A9, c10, rfl, hc11, hA12, rfl⟩
    refine OpsJ.nil ?_
    refine CodeJ.seq' ?_
    refine CodeJ.region ?_
    refine OpsJ.put rfl (OpJ.pure (OpP.assign rfl) ?_)
    refine OpsJ.nil ?_
    refine CodeJ.nilrow 3 1 ?_
    refine CodeJ.ret' ?_
    obtain rfl := Option.some.inj h8
    exact Ret.mk0 ⟨A9, c10, none, 0, ([] : List Value), rfl, hc11, (SlR.mono hA12 (IM.le_refl _)), (repL_nil IM.nil), rfl⟩ (ResJ.one Try.results62 rfl) (IM.le_refl _) (SubL.p1 (SubL.p0 (SubL.nil _)))
  · rw [if_neg hc2] at h
    refine CodeJ.cond_f rfl (decide_eq_false hc2) ?_
    refine CodeJ.skip ?_
    refine CodeJ.seq' ?_
    refine CodeJ.seq' ?_
    refine CodeJ.region ?_
    refine OpsJ.put rfl (OpJ.pure (OpP.move rfl) ?_)
    refine OpsJ.put rfl (OpJ.pure (OpP.eql rfl rfl) ?_)
    refine OpsJ.nil ?_
    by_cases hc16 : p1_way = 2
    · rw [if_pos hc16] at h
      refine CodeJ.cond_t rfl (decide_eq_true hc16) ?_
      refine CodeJ.seq' ?_
      refine CodeJ.region ?_
      refine OpsJ.put rfl (OpJ.pure (OpP.move rfl) ?_)
      refine OpsJ.put rfl (OpJ.pure (OpP.move rfl) ?_)
      obtain ⟨y20, hy21, h22⟩ := bind_ok h
      clear h
      refine OpsJ.put rfl (OpJ.callP (Split.p0 Split.nil) rfl (fun R17 hle18 hin19 => pack_takeRuns_w R17 R0 (IM.le_trans hR0 hle18) g0_ (p0_r.1, p0_r.2) A0_1_ c0_2_ hc0_3_ (SlR.mono hA0_4_ (IM.le_refl _)) p2_n  _ hy21) ?_)
      rintro _ _ _ ⟨A23, c24, A27, c28, cs29, rfl, hc25, hA26, hr30, rfl⟩
      refine OpsJ.put rfl (OpJ.pure (OpP.assign rfl) ?_)
      refine OpsJ.nil ?_
      refine CodeJ.ret' ?_
      obtain rfl := Option.some.inj h22
      exact Ret.mk0 ⟨A23, c24, A27, c28, cs29, rfl, hc25, (SlR.mono hA26 (IM.le_refl _)), hr30, rfl⟩ (ResJ.one Try.results62 rfl) (IM.le_refl _) (SubL.p0 (SubL.p0 (SubL.nil _)))
    · rw [if_neg hc16] at h
      refine CodeJ.cond_f rfl (decide_eq_false hc16) ?_
      refine CodeJ.skip ?_
      refine CodeJ.seq' ?_
      refine CodeJ.region ?_
      refine OpsJ.put rfl (OpJ.pure (OpP.assign rfl) ?_)
      refine OpsJ.nil ?_
      refine CodeJ.seq' ?_
      refine CodeJ.region ?_
      refine OpsJ.put rfl (OpJ.pure (OpP.assign rfl) ?_)
      refine OpsJ.nil ?_
      refine CodeJ.seq' ?_
      refine CodeJ.nilrow 3 1 ?_
      obtain ⟨t510, hl511, h512⟩ := bind_ok h
      clear h
      refine CodeJ.mid (fun e s => ∃ (A497 : Option Addr) (c498 : Nat) (cs499 : List Value) (A503 : Option Addr) (c504 : Nat) (l_496 : List Int) (f502 : List UInt8) (f507 : Bool), (l_496, f502, f507) = t510 ∧ repL IM.nil cs499 l_496 ∧ f502.length ≤ c504 ∧ SlR R0 A503 f502 ∧ e = [(0, .pointer (some ⟨g0_, 0, none⟩)), (7, .slice A497 l_496.length c498)] ∧ s = ⟨R, [.blk g0_ [.slice A503 f502.length c504, .bool f507] 75, .row 3 1 A497 l_496.length c498 cs499]⟩) ?_ ?_
      · refine CodeJ.block ?_
        refine CodeJ.loopM hl511 (fun (l_340, last_346, f347, f352) e s => ∃ (A341 : Option Addr) (c342 : Nat) (cs343 : List Value) (A348 : Option Addr) (c349 : Nat), repL IM.nil cs343 l_340 ∧ f347.length ≤ c349 ∧ SlR R0 A348 f347 ∧ e = [(0, .pointer (some ⟨g0_, 0, none⟩)), (1, .int .i64 p1_way), (2, .int .i64 p2_n), (7, .slice A341 l_340.length c342), (8, .int .i64 last_346)] ∧ s = ⟨R, [.blk g0_ [.slice A348 f347.length c349, .bool f352] 75, .row 3 1 A341 l_340.length c342 cs343]⟩) ⟨none, 0, ([] : List Value), A0_1_, c0_2_, (repL_nil IM.nil), hc0_3_, (SlR.mono hA0_4_ (IM.le_refl _)), rfl, rfl⟩ (SubE.cons rfl (SubE.cons rfl (SubE.cons rfl (SubE.cons rfl (SubE.cons rfl (SubE.nil _)))))) (SubL.p1 (SubL.p0 (SubL.nil _))) ?_
        rintro ⟨l_340, last_346, f347, f352⟩ _ _ _ ⟨A341, c342, cs343, A348, c349, hr344, hc351, hA350, rfl, rfl⟩ h508 hne509
        (try dsimp only at h508); unfold pack_take_l0 at h508
        refine CodeJ.seq' ?_
        refine CodeJ.seq' ?_
        refine CodeJ.region ?_
        refine OpsJ.put rfl (OpJ.pure (OpP.move rfl) ?_)
        refine OpsJ.put rfl (OpJ.pure (OpP.len rfl) ?_)
        refine OpsJ.put rfl (OpJ.pure (OpP.move rfl) ?_)
        refine OpsJ.put rfl (OpJ.pure (OpP.lss rfl rfl) ?_)
        refine OpsJ.put rfl (OpJ.pure (OpP.move rfl) ?_)
        by_cases hc513 : ((l_340.length : Nat) : Int) < p2_n
        · rw [if_pos hc513] at h508
          refine OpsJ.guard_y rfl rfl rfl rfl (decide_eq_true hc513) ?_
          refine OpsJ.put rfl (OpJ.pure (OpP.move rfl) ?_)
          refine OpsJ.guard_y rfl rfl rfl rfl (decide_eq_true hc513) ?_
          obtain ⟨y517, hy518, h519⟩ := bind_ok h508
          clear h508
          refine OpsJ.put rfl (OpJ.callP (Split.p0 Split.nil) rfl (fun R514 hle515 hin516 => octet_Reader_Good_w R514 R0 (IM.le_trans hR0 hle515) g0_ (f347, f352) A348 c349 hc351 (SlR.mono hA350 (IM.le_refl _))  _ hy518) ?_)
          rintro _ _ _ ⟨A520, c521, rfl, hc522, hA523, rfl⟩
          refine OpsJ.put rfl (OpJ.pure (OpP.pick_t rfl (decide_eq_true hc513) rfl) ?_)
          refine OpsJ.nil ?_
          by_cases hc524 : y517.2 = true
          · rw [if_pos hc524] at h519
            refine CodeJ.cond_t rfl hc524 ?_
            refine CodeJ.skip ?_
            refine CodeJ.block ?_
            refine CodeJ.seq' ?_
            refine CodeJ.seq' ?_
            refine CodeJ.region ?_
            refine OpsJ.put rfl (OpJ.pure (OpP.move rfl) ?_)
            refine OpsJ.put rfl (OpJ.pure (OpP.eql rfl rfl) ?_)
            refine OpsJ.nil ?_
            by_cases hc525 : p1_way = 1
            · rw [if_pos hc525] at h519
              refine CodeJ.cond_t rfl (decide_eq_true hc525) ?_
              refine CodeJ.region ?_
              refine OpsJ.put rfl (OpJ.pure (OpP.move rfl) ?_)
              refine OpsJ.put rfl (OpJ.pure (OpP.move rfl) ?_)
              obtain ⟨y529, hy530, h531⟩ := bind_ok h519
              clear h519
              refine OpsJ.put rfl (OpJ.callP (Split.p0 Split.nil) rfl (fun R526 hle527 hin528 => octet_Reader_Num_w R526 R0 (IM.le_trans hR0 hle527) g0_ (y517.1.1, y517.1.2) A520 c521 hc522 (SlR.mono hA523 (IM.le_refl _))  _ hy530) ?_)
              rintro _ _ _ ⟨A532, c533, rfl, hc534, hA535, rfl⟩
              obtain ⟨y539, hy540, h541⟩ := bind_ok h531
              clear h531
              refine OpsJ.put rfl (OpJ.call0 rfl (fun R536 hle537 hin538 => pack_back_w R536 y529.2  _ hy540) ?_)
              rintro _ _ _ ⟨rfl, rfl⟩
              refine OpsJ.put rfl (OpJ.pure (OpP.add64 rfl rfl) ?_)
              refine OpsJ.put rfl (OpJ.pure (OpP.assign rfl) ?_)
              refine OpsJ.nil ?_
              refine CodeJ.seq' ?_
              refine CodeJ.seq' ?_
              refine CodeJ.region ?_
              refine OpsJ.put rfl (OpJ.pure (OpP.move rfl) ?_)
              refine OpsJ.put rfl (OpJ.pure (OpP.lss rfl rfl) ?_)
              refine OpsJ.put rfl (OpJ.pure (OpP.move rfl) ?_)
              by_cases hc542 : w64 (last_346 + y539) < 0
              · rw [if_pos hc542] at h541
                refine OpsJ.guard_n rfl rfl rfl rfl (decide_eq_true hc542) ?_
                refine OpsJ.guard_n rfl rfl rfl rfl (decide_eq_true hc542) ?_
                refine OpsJ.put rfl (OpJ.pure (OpP.pick_t rfl (decide_eq_true hc542) rfl) ?_)
                refine OpsJ.nil ?_
                refine CodeJ.cond_t rfl rfl ?_
                refine CodeJ.region ?_
                refine OpsJ.put rfl (OpJ.pure (OpP.move rfl) ?_)
                obtain ⟨y546, hy547, h548⟩ := bind_ok h541
                clear h541
                refine OpsJ.put rfl (OpJ.callP (Split.p0 Split.nil) rfl (fun R543 hle544 hin545 => octet_Reader_Bad_w R543 R0 (IM.le_trans hR0 hle544) g0_ (y529.1.1, y529.1.2) A532 c533 hc534 (SlR.mono hA535 (IM.le_refl _))  _ hy547) ?_)
                rintro _ _ _ ⟨A549, c550, rfl, hc551, hA552, rfl⟩
                refine OpsJ.nil ?_
                refine CodeJ.region ?_
                refine OpsJ.put rfl (OpJ.pure (OpP.move rfl) ?_)
                refine OpsJ.put rfl (OpJ.pure (OpP.move rfl) ?_)
                have hr554 : repL IM.nil [.int .i64 (w64 (last_346 + y539))] ([w64 (last_346 + y539)] : List Int) := (repL_cons (c1 := [.int .i64 (w64 (last_346 + y539))]) (show Dat.rep _ _ (w64 (last_346 + y539)) from rfl) (repL_nil _))
                refine OpsJ.put rfl (OpJ.buildSliceC (cs := [.int .i64 (w64 (last_346 + y539))]) rfl rfl (by exact rfl) (by exact rfl) (by exact rfl) (by exact rfl) (fun g553 => ?_))
                obtain ⟨q556, hq557, h558⟩ := bind_ok h548
                clear h548
                have hr561 : repL IM.nil (cs343 ++ ([.int .i64 (w64 (last_346 + y539))] : List Value)) q556 := app_rep hq557 hr344 hr554
                refine OpsJ.put rfl (OpJ.appW hq557 rfl rfl (Src.ofRow (List.Mem.head _)) hr554 (by exact rfl) (permm2 _ _ _ _) (by exact rfl) (by exact rfl) (by exact rfl) rfl rfl (fun A559 c560 => ?_))
                refine OpsJ.put rfl (OpJ.pure (OpP.assign rfl) ?_)
                refine OpsJ.nil ?_
                obtain rfl := Option.some.inj h558
                exact ⟨_, _, _, _, rfl, ⟨A559, c560, (cs343 ++ ([.int .i64 (w64 (last_346 + y539))] : List Value)), A549, c550, hr561, hc551, (SlR.mono hA552 (IM.le_refl _)), rfl, rfl⟩, IM.le_refl _, (SubE.cons rfl (SubE.cons rfl (SubE.cons rfl (SubE.cons rfl (SubE.cons rfl (SubE.nil _)))))), (SubL.p2 (SubL.p0 (SubL.nil _)))⟩
              · rw [if_neg hc542] at h541
                refine OpsJ.guard_y rfl rfl rfl rfl (decide_eq_false hc542) ?_
                refine OpsJ.put rfl (OpJ.pure (OpP.move rfl) ?_)
                refine OpsJ.guard_y rfl rfl rfl rfl (decide_eq_false hc542) ?_
                refine OpsJ.put rfl (OpJ.pure (OpP.gtr rfl rfl) ?_)
                refine OpsJ.put rfl (OpJ.pure (OpP.pick_f rfl (decide_eq_false hc542) rfl) ?_)
                refine OpsJ.nil ?_
                by_cases hc563 : w64 (last_346 + y539) > 1099511627776
                · rw [if_pos hc563] at h541
                  refine CodeJ.cond_t rfl (decide_eq_true hc563) ?_
                  refine CodeJ.region ?_
                  refine OpsJ.put rfl (OpJ.pure (OpP.move rfl) ?_)
                  obtain ⟨y567, hy568, h569⟩ := bind_ok h541
                  clear h541
                  refine OpsJ.put rfl (OpJ.callP (Split.p0 Split.nil) rfl (fun R564 hle565 hin566 => octet_Reader_Bad_w R564 R0 (IM.le_trans hR0 hle565) g0_ (y529.1.1, y529.1.2) A532 c533 hc534 (SlR.mono hA535 (IM.le_refl _))  _ hy568) ?_)
                  rintro _ _ _ ⟨A570, c571, rfl, hc572, hA573, rfl⟩
                  refine OpsJ.nil ?_
                  refine CodeJ.region ?_
                  refine OpsJ.put rfl (OpJ.pure (OpP.move rfl) ?_)
                  refine OpsJ.put rfl (OpJ.pure (OpP.move rfl) ?_)
                  have hr575 : repL IM.nil [.int .i64 (w64 (last_346 + y539))] ([w64 (last_346 + y539)] : List Int) := (repL_cons (c1 := [.int .i64 (w64 (last_346 + y539))]) (show Dat.rep _ _ (w64 (last_346 + y539)) from rfl) (repL_nil _))
                  refine OpsJ.put rfl (OpJ.buildSliceC (cs := [.int .i64 (w64 (last_346 + y539))]) rfl rfl (by exact rfl) (by exact rfl) (by exact rfl) (by exact rfl) (fun g574 => ?_))
                  obtain ⟨q577, hq578, h579⟩ := bind_ok h569
                  clear h569
                  have hr582 : repL IM.nil (cs343 ++ ([.int .i64 (w64 (last_346 + y539))] : List Value)) q577 := app_rep hq578 hr344 hr575
                  refine OpsJ.put rfl (OpJ.appW hq578 rfl rfl (Src.ofRow (List.Mem.head _)) hr575 (by exact rfl) (permm2 _ _ _ _) (by exact rfl) (by exact rfl) (by exact rfl) rfl rfl (fun A580 c581 => ?_))
                  refine OpsJ.put rfl (OpJ.pure (OpP.assign rfl) ?_)
                  refine OpsJ.nil ?_
                  obtain rfl := Option.some.inj h579
                  exact ⟨_, _, _, _, rfl, ⟨A580, c581, (cs343 ++ ([.int .i64 (w64 (last_346 + y539))] : List Value)), A570, c571, hr582, hc572, (SlR.mono hA573 (IM.le_refl _)), rfl, rfl⟩, IM.le_refl _, (SubE.cons rfl (SubE.cons rfl (SubE.cons rfl (SubE.cons rfl (SubE.cons rfl (SubE.nil _)))))), (SubL.p2 (SubL.p0 (SubL.nil _)))⟩
                · rw [if_neg hc563] at h541
                  refine CodeJ.cond_f rfl (decide_eq_false hc563) ?_
                  refine CodeJ.skip ?_
                  refine CodeJ.region ?_
                  refine OpsJ.put rfl (OpJ.pure (OpP.move rfl) ?_)
                  refine OpsJ.put rfl (OpJ.pure (OpP.move rfl) ?_)
                  have hr585 : repL IM.nil [.int .i64 (w64 (last_346 + y539))] ([w64 (last_346 + y539)] : List Int) := (repL_cons (c1 := [.int .i64 (w64 (last_346 + y539))]) (show Dat.rep _ _ (w64 (last_346 + y539)) from rfl) (repL_nil _))
                  refine OpsJ.put rfl (OpJ.buildSliceC (cs := [.int .i64 (w64 (last_346 + y539))]) rfl rfl (by exact rfl) (by exact rfl) (by exact rfl) (by exact rfl) (fun g584 => ?_))
                  obtain ⟨q587, hq588, h589⟩ := bind_ok h541
                  clear h541
                  have hr592 : repL IM.nil (cs343 ++ ([.int .i64 (w64 (last_346 + y539))] : List Value)) q587 := app_rep hq588 hr344 hr585
                  refine OpsJ.put rfl (OpJ.appW hq588 rfl rfl (Src.ofRow (List.Mem.head _)) hr585 (by exact rfl) (permm2 _ _ _ _) (by exact rfl) (by exact rfl) (by exact rfl) rfl rfl (fun A590 c591 => ?_))
                  refine OpsJ.put rfl (OpJ.pure (OpP.assign rfl) ?_)
                  refine OpsJ.nil ?_
                  obtain rfl := Option.some.inj h589
                  exact ⟨_, _, _, _, rfl, ⟨A590, c591, (cs343 ++ ([.int .i64 (w64 (last_346 + y539))] : List Value)), A532, c533, hr592, hc534, (SlR.mono hA535 (IM.le_refl _)), rfl, rfl⟩, IM.le_refl _, (SubE.cons rfl (SubE.cons rfl (SubE.cons rfl (SubE.cons rfl (SubE.cons rfl (SubE.nil _)))))), (SubL.p2 (SubL.p0 (SubL.nil _)))⟩
            · rw [if_neg hc525] at h519
              refine CodeJ.cond_f rfl (decide_eq_false hc525) ?_
              refine CodeJ.region ?_
              refine OpsJ.put rfl (OpJ.pure (OpP.move rfl) ?_)
              obtain ⟨y597, hy598, h599⟩ := bind_ok h519
              clear h519
              refine OpsJ.put rfl (OpJ.callP (Split.p0 Split.nil) rfl (fun R594 hle595 hin596 => octet_Reader_Num_w R594 R0 (IM.le_trans hR0 hle595) g0_ (y517.1.1, y517.1.2) A520 c521 hc522 (SlR.mono hA523 (IM.le_refl _))  _ hy598) ?_)
              rintro _ _ _ ⟨A600, c601, rfl, hc602, hA603, rfl⟩
              refine OpsJ.put rfl (OpJ.pure (OpP.assign rfl) ?_)
              refine OpsJ.nil ?_
              refine CodeJ.seq' ?_
              refine CodeJ.seq' ?_
              refine CodeJ.region ?_
              refine OpsJ.put rfl (OpJ.pure (OpP.move rfl) ?_)
              refine OpsJ.put rfl (OpJ.pure (OpP.lss rfl rfl) ?_)
              refine OpsJ.put rfl (OpJ.pure (OpP.move rfl) ?_)
              by_cases hc604 : y597.2 < 0
              · rw [if_pos hc604] at h599
                refine OpsJ.guard_n rfl rfl rfl rfl (decide_eq_true hc604) ?_
                refine OpsJ.guard_n rfl rfl rfl rfl (decide_eq_true hc604) ?_
                refine OpsJ.put rfl (OpJ.pure (OpP.pick_t rfl (decide_eq_true hc604) rfl) ?_)
                refine OpsJ.nil ?_
                refine CodeJ.cond_t rfl rfl ?_
                refine CodeJ.region ?_
                refine OpsJ.put rfl (OpJ.pure (OpP.move rfl) ?_)
                obtain ⟨y608, hy609, h610⟩ := bind_ok h599
                clear h599
                refine OpsJ.put rfl (OpJ.callP (Split.p0 Split.nil) rfl (fun R605 hle606 hin607 => octet_Reader_Bad_w R605 R0 (IM.le_trans hR0 hle606) g0_ (y597.1.1, y597.1.2) A600 c601 hc602 (SlR.mono hA603 (IM.le_refl _))  _ hy609) ?_)
                rintro _ _ _ ⟨A611, c612, rfl, hc613, hA614, rfl⟩
                refine OpsJ.nil ?_
                refine CodeJ.region ?_
                refine OpsJ.put rfl (OpJ.pure (OpP.move rfl) ?_)
                refine OpsJ.put rfl (OpJ.pure (OpP.move rfl) ?_)
                have hr616 : repL IM.nil [.int .i64 y597.2] ([y597.2] : List Int) := (repL_cons (c1 := [.int .i64 y597.2]) (show Dat.rep _ _ y597.2 from rfl) (repL_nil _))
                refine OpsJ.put rfl (OpJ.buildSliceC (cs := [.int .i64 y597.2]) rfl rfl (by exact rfl) (by exact rfl) (by exact rfl) (by exact rfl) (fun g615 => ?_))
                obtain ⟨q618, hq619, h620⟩ := bind_ok h610
                clear h610
                have hr623 : repL IM.nil (cs343 ++ ([.int .i64 y597.2] : List Value)) q618 := app_rep hq619 hr344 hr616
                refine OpsJ.put rfl (OpJ.appW hq619 rfl rfl (Src.ofRow (List.Mem.head _)) hr616 (by exact rfl) (permm2 _ _ _ _) (by exact rfl) (by exact rfl) (by exact rfl) rfl rfl (fun A621 c622 => ?_))
                refine OpsJ.put rfl (OpJ.pure (OpP.assign rfl) ?_)
                refine OpsJ.nil ?_
                obtain rfl := Option.some.inj h620
                exact ⟨_, _, _, _, rfl, ⟨A621, c622, (cs343 ++ ([.int .i64 y597.2] : List Value)), A611, c612, hr623, hc613, (SlR.mono hA614 (IM.le_refl _)), rfl, rfl⟩, IM.le_refl _, (SubE.cons rfl (SubE.cons rfl (SubE.cons rfl (SubE.cons rfl (SubE.cons rfl (SubE.nil _)))))), (SubL.p2 (SubL.p0 (SubL.nil _)))⟩
              · rw [if_neg hc604] at h599
                refine OpsJ.guard_y rfl rfl rfl rfl (decide_eq_false hc604) ?_
                refine OpsJ.put rfl (OpJ.pure (OpP.move rfl) ?_)
                refine OpsJ.guard_y rfl rfl rfl rfl (decide_eq_false hc604) ?_
                refine OpsJ.put rfl (OpJ.pure (OpP.gtr rfl rfl) ?_)
                refine OpsJ.put rfl (OpJ.pure (OpP.pick_f rfl (decide_eq_false hc604) rfl) ?_)
                refine OpsJ.nil ?_
                by_cases hc625 : y597.2 > 1099511627776
                · rw [if_pos hc625] at h599
                  refine CodeJ.cond_t rfl (decide_eq_true hc625) ?_
                  refine CodeJ.region ?_
                  refine OpsJ.put rfl (OpJ.pure (OpP.move rfl) ?_)
                  obtain ⟨y629, hy630, h631⟩ := bind_ok h599
                  clear h599
                  refine OpsJ.put rfl (OpJ.callP (Split.p0 Split.nil) rfl (fun R626 hle627 hin628 => octet_Reader_Bad_w R626 R0 (IM.le_trans hR0 hle627) g0_ (y597.1.1, y597.1.2) A600 c601 hc602 (SlR.mono hA603 (IM.le_refl _))  _ hy630) ?_)
                  rintro _ _ _ ⟨A632, c633, rfl, hc634, hA635, rfl⟩
                  refine OpsJ.nil ?_
                  refine CodeJ.region ?_
                  refine OpsJ.put rfl (OpJ.pure (OpP.move rfl) ?_)
                  refine OpsJ.put rfl (OpJ.pure (OpP.move rfl) ?_)
                  have hr637 : repL IM.nil [.int .i64 y597.2] ([y597.2] : List Int) := (repL_cons (c1 := [.int .i64 y597.2]) (show Dat.rep _ _ y597.2 from rfl) (repL_nil _))
                  refine OpsJ.put rfl (OpJ.buildSliceC (cs := [.int .i64 y597.2]) rfl rfl (by exact rfl) (by exact rfl) (by exact rfl) (by exact rfl) (fun g636 => ?_))
                  obtain ⟨q639, hq640, h641⟩ := bind_ok h631
                  clear h631
                  have hr644 : repL IM.nil (cs343 ++ ([.int .i64 y597.2] : List Value)) q639 := app_rep hq640 hr344 hr637
                  refine OpsJ.put rfl (OpJ.appW hq640 rfl rfl (Src.ofRow (List.Mem.head _)) hr637 (by exact rfl) (permm2 _ _ _ _) (by exact rfl) (by exact rfl) (by exact rfl) rfl rfl (fun A642 c643 => ?_))
                  refine OpsJ.put rfl (OpJ.pure (OpP.assign rfl) ?_)
                  refine OpsJ.nil ?_
                  obtain rfl := Option.some.inj h641
                  exact ⟨_, _, _, _, rfl, ⟨A642, c643, (cs343 ++ ([.int .i64 y597.2] : List Value)), A632, c633, hr644, hc634, (SlR.mono hA635 (IM.le_refl _)), rfl, rfl⟩, IM.le_refl _, (SubE.cons rfl (SubE.cons rfl (SubE.cons rfl (SubE.cons rfl (SubE.cons rfl (SubE.nil _)))))), (SubL.p2 (SubL.p0 (SubL.nil _)))⟩
                · rw [if_neg hc625] at h599
                  refine CodeJ.cond_f rfl (decide_eq_false hc625) ?_
                  refine CodeJ.skip ?_
                  refine CodeJ.region ?_
                  refine OpsJ.put rfl (OpJ.pure (OpP.move rfl) ?_)
                  refine OpsJ.put rfl (OpJ.pure (OpP.move rfl) ?_)
                  have hr647 : repL IM.nil [.int .i64 y597.2] ([y597.2] : List Int) := (repL_cons (c1 := [.int .i64 y597.2]) (show Dat.rep _ _ y597.2 from rfl) (repL_nil _))
                  refine OpsJ.put rfl (OpJ.buildSliceC (cs := [.int .i64 y597.2]) rfl rfl (by exact rfl) (by exact rfl) (by exact rfl) (by exact rfl) (fun g646 => ?_))
                  obtain ⟨q649, hq650, h651⟩ := bind_ok h599
                  clear h599
                  have hr654 : repL IM.nil (cs343 ++ ([.int .i64 y597.2] : List Value)) q649 := app_rep hq650 hr344 hr647
                  refine OpsJ.put rfl (OpJ.appW hq650 rfl rfl (Src.ofRow (List.Mem.head _)) hr647 (by exact rfl) (permm2 _ _ _ _) (by exact rfl) (by exact rfl) (by exact rfl) rfl rfl (fun A652 c653 => ?_))
                  refine OpsJ.put rfl (OpJ.pure (OpP.assign rfl) ?_)
                  refine OpsJ.nil ?_
                  obtain rfl := Option.some.inj h651
                  exact ⟨_, _, _, _, rfl, ⟨A652, c653, (cs343 ++ ([.int .i64 y597.2] : List Value)), A600, c601, hr654, hc602, (SlR.mono hA603 (IM.le_refl _)), rfl, rfl⟩, IM.le_refl _, (SubE.cons rfl (SubE.cons rfl (SubE.cons rfl (SubE.cons rfl (SubE.cons rfl (SubE.nil _)))))), (SubL.p2 (SubL.p0 (SubL.nil _)))⟩
          · rw [if_neg hc524] at h519
            refine CodeJ.cond_f rfl (Bool.eq_false_iff.2 hc524) ?_
            refine CodeJ.exit rfl ?_
            obtain rfl := Option.some.inj h519
            have ht656 := hne509 _ rfl
            exact ⟨_, _, _, ⟨A341, c342, cs343, A520, c521, l_340, y517.1.1, y517.1.2, ht656, hr344, hc522, (SlR.mono hA523 (IM.le_refl _)), rfl, rfl⟩, IM.le_refl _, (SubE.cons rfl (SubE.cons rfl (SubE.nil _))), (SubL.p0 (SubL.p0 (SubL.nil _)))⟩
        · rw [if_neg hc513] at h508
          refine OpsJ.guard_n rfl rfl rfl rfl (decide_eq_false hc513) ?_
          refine OpsJ.guard_n rfl rfl rfl rfl (decide_eq_false hc513) ?_
          refine OpsJ.put rfl (OpJ.pure (OpP.pick_f rfl (decide_eq_false hc513) rfl) ?_)
          refine OpsJ.nil ?_
          refine CodeJ.cond_f rfl rfl ?_
          refine CodeJ.exit rfl ?_
          obtain rfl := Option.some.inj h508
          have ht657 := hne509 _ rfl
          exact ⟨_, _, _, ⟨A341, c342, cs343, A348, c349, l_340, f347, f352, ht657, hr344, hc351, (SlR.mono hA350 (IM.le_refl _)), rfl, rfl⟩, IM.le_refl _, (SubE.cons rfl (SubE.cons rfl (SubE.nil _))), (SubL.p0 (SubL.p0 (SubL.nil _)))⟩
      · rintro _ _ ⟨A497, c498, cs499, A503, c504, l_496, f502, f507, rfl, hr500, hc506, hA505, rfl, rfl⟩
        (try dsimp only at h512)
        refine CodeJ.seq' ?_
        refine CodeJ.region ?_
        refine OpsJ.put rfl (OpJ.pure (OpP.move rfl) ?_)
        refine OpsJ.put rfl (OpJ.pure (OpP.assign rfl) ?_)
        refine OpsJ.nil ?_
        refine CodeJ.ret' ?_
        obtain rfl := Option.some.inj h512
        exact Ret.mk0 ⟨A503, c504, A497, c498, cs499, rfl, hc506, (SlR.mono hA505 (IM.le_refl _)), hr500, rfl⟩ (ResJ.one Try.results62 rfl) (IM.le_refl _) (SubL.p0 (SubL.p0 (SubL.nil _)))
theorem pack_Plain_w (R : IM) (A0_ : Option Addr) (n0_ c0_ : Nat) (p0_l : List Int) (hA0_ : SlR R A0_ p0_l) (hn0_ : p0_l.length = n0_) (hc0_ : n0_ ≤ c0_) (y : (List UInt8) × Int) (h : pack_Plain p0_l = some y) :
    CallJ Try.prog 30 #[.slice A0_ n0_ c0_] ⟨R, []⟩ (fun v D hs' => ∃ (B1 : Option Addr) (d2 : Nat) (ds3 : List Value), v = .tuple #[.slice B1 y.1.length d2, .int .i64 y.2] ∧ repL IM.nil ds3 y.1 ∧ hs' = [.row 5 1 B1 y.1.length d2 ds3]) := by
  subst hn0_
  unfold pack_Plain at h
  refine CallJ.of1 Try.func30 rfl Try.ntmps30 rfl (fun W0 => ?_)
  refine CodeJ.seq' ?_
  refine CodeJ.region ?_
  refine OpsJ.put rfl (OpJ.pure (OpP.assign rfl) ?_)
  refine OpsJ.put rfl (OpJ.pure (OpP.assign rfl) ?_)
  refine OpsJ.nil ?_
  refine CodeJ.seq' ?_
  refine CodeJ.region ?_
  refine OpsJ.put rfl (OpJ.pure (OpP.move rfl) ?_)
  obtain ⟨y4, hy5, h6⟩ := bind_ok h
  clear h
  refine OpsJ.put rfl (OpJ.callP Split.nil rfl (fun R1 hle2 hin3 => pack_told_w R1 0 A0_ p0_l.length c0_ p0_l (SlR.mono hA0_ (IM.le_trans (IM.le_refl _) hle2)) rfl hc0_  _ hy5) ?_)
  rintro _ _ _ ⟨A7, c8, cs9, rfl, hr10, rfl⟩
  refine OpsJ.put rfl (OpJ.pure (OpP.extract rfl rfl) ?_)
  refine OpsJ.put rfl (OpJ.pure (OpP.extract rfl rfl) ?_)
  refine OpsJ.put rfl (OpJ.pure (OpP.assign rfl) ?_)
  refine OpsJ.put rfl (OpJ.pure (OpP.assign rfl) ?_)
  refine OpsJ.nil ?_
  refine CodeJ.ret' ?_
  obtain rfl := Option.some.inj h6
  exact Ret.mk0 ⟨A7, c8, cs9, rfl, hr10, rfl⟩ (ResJ.two Try.results30 rfl rfl) (IM.le_refl _) (SubL.p0 (SubL.nil _))
theorem pack_Delta_w (R : IM) (A0_ : Option Addr) (n0_ c0_ : Nat) (p0_l : List Int) (hA0_ : SlR R A0_ p0_l) (hn0_ : p0_l.length = n0_) (hc0_ : n0_ ≤ c0_) (y : (List UInt8) × Int) (h : pack_Delta p0_l = some y) :
    CallJ Try.prog 32 #[.slice A0_ n0_ c0_] ⟨R, []⟩ (fun v D hs' => ∃ (B1 : Option Addr) (d2 : Nat) (ds3 : List Value), v = .tuple #[.slice B1 y.1.length d2, .int .i64 y.2] ∧ repL IM.nil ds3 y.1 ∧ hs' = [.row 5 1 B1 y.1.length d2 ds3]) := by
  subst hn0_
  unfold pack_Delta at h
  refine CallJ.of1 Try.func32 rfl Try.ntmps32 rfl (fun W0 => ?_)
  refine CodeJ.seq' ?_
  refine CodeJ.region ?_
  refine OpsJ.put rfl (OpJ.pure (OpP.assign rfl) ?_)
  refine OpsJ.put rfl (OpJ.pure (OpP.assign rfl) ?_)
  refine OpsJ.nil ?_
  refine CodeJ.seq' ?_
  refine CodeJ.region ?_
  refine OpsJ.put rfl (OpJ.pure (OpP.move rfl) ?_)
  obtain ⟨y4, hy5, h6⟩ := bind_ok h
  clear h
  refine OpsJ.put rfl (OpJ.callP Split.nil rfl (fun R1 hle2 hin3 => pack_told_w R1 1 A0_ p0_l.length c0_ p0_l (SlR.mono hA0_ (IM.le_trans (IM.le_refl _) hle2)) rfl hc0_  _ hy5) ?_)
  rintro _ _ _ ⟨A7, c8, cs9, rfl, hr10, rfl⟩
  refine OpsJ.put rfl (OpJ.pure (OpP.extract rfl rfl) ?_)
  refine OpsJ.put rfl (OpJ.pure (OpP.extract rfl rfl) ?_)
  refine OpsJ.put rfl (OpJ.pure (OpP.assign rfl) ?_)
  refine OpsJ.put rfl (OpJ.pure (OpP.assign rfl) ?_)
  refine OpsJ.nil ?_
  refine CodeJ.ret' ?_
  obtain rfl := Option.some.inj h6
  exact Ret.mk0 ⟨A7, c8, cs9, rfl, hr10, rfl⟩ (ResJ.two Try.results32 rfl rfl) (IM.le_refl _) (SubL.p0 (SubL.nil _))
theorem pack_Runs_w (R : IM) (A0_ : Option Addr) (n0_ c0_ : Nat) (p0_l : List Int) (hA0_ : SlR R A0_ p0_l) (hn0_ : p0_l.length = n0_) (hc0_ : n0_ ≤ c0_) (y : (List UInt8) × Int) (h : pack_Runs p0_l = some y) :
    CallJ Try.prog 34 #[.slice A0_ n0_ c0_] ⟨R, []⟩ (fun v D hs' => ∃ (B1 : Option Addr) (d2 : Nat) (ds3 : List Value), v = .tuple #[.slice B1 y.1.length d2, .int .i64 y.2] ∧ repL IM.nil ds3 y.1 ∧ hs' = [.row 5 1 B1 y.1.length d2 ds3]) := by
  subst hn0_
  unfold pack_Runs at h
  refine CallJ.of1 Try.func34 rfl Try.ntmps34 rfl (fun W0 => ?_)
  refine CodeJ.seq' ?_
  refine CodeJ.region ?_
  refine OpsJ.put rfl (OpJ.pure (OpP.assign rfl) ?_)
  refine OpsJ.put rfl (OpJ.pure (OpP.assign rfl) ?_)
  refine OpsJ.nil ?_
  refine CodeJ.seq' ?_
  refine CodeJ.region ?_
  refine OpsJ.put rfl (OpJ.pure (OpP.move rfl) ?_)
  obtain ⟨y4, hy5, h6⟩ := bind_ok h
  clear h
  refine OpsJ.put rfl (OpJ.callP Split.nil rfl (fun R1 hle2 hin3 => pack_told_w R1 2 A0_ p0_l.length c0_ p0_l (SlR.mono hA0_ (IM.le_trans (IM.le_refl _) hle2)) rfl hc0_  _ hy5) ?_)
  rintro _ _ _ ⟨A7, c8, cs9, rfl, hr10, rfl⟩
  refine OpsJ.put rfl (OpJ.pure (OpP.extract rfl rfl) ?_)
  refine OpsJ.put rfl (OpJ.pure (OpP.extract rfl rfl) ?_)
  refine OpsJ.put rfl (OpJ.pure (OpP.assign rfl) ?_)
  refine OpsJ.put rfl (OpJ.pure (OpP.assign rfl) ?_)
  refine OpsJ.nil ?_
  refine CodeJ.ret' ?_
  obtain rfl := Option.some.inj h6
  exact Ret.mk0 ⟨A7, c8, cs9, rfl, hr10, rfl⟩ (ResJ.two Try.results34 rfl rfl) (IM.le_refl _) (SubL.p0 (SubL.nil _))
end Go.Proofs.Ytdicpnnmhjgnbaa.FW
