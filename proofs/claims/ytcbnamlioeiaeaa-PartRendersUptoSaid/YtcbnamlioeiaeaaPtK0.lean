/- printed by ex.py: walks -/
import Derived.Test.YtcbnamlioeiaeaaX6
import Derived.Test.YtcbnamlioeiaeaaT2
import Derived.Test.YtcbnamlioeiaeaaPtQ
namespace Go.Proofs.Ytcbnamlioeiaeaa.FW
open Go Go.RowKit Go.Proofs
set_option linter.unusedVariables false
set_option linter.unusedSimpArgs false
set_option maxRecDepth 100000
set_option maxHeartbeats 4000000
attribute [local irreducible] OpsJ CodeJ OpJ OpQ OpP QuietJ CallJ HoldJ StepAt Src RC SlR repL
theorem winnowerlaw14_wide_w (R : IM) (A0_ : Option Addr) (n0_ c0_ : Nat) (p0_t : List (Bool × ByteArray)) (hA0_ : SlR R A0_ p0_t) (hn0_ : p0_t.length = n0_) (hc0_ : n0_ ≤ c0_) (y : Bool) (h : winnowerlaw14_wide p0_t = some y) :
    CallJ Try.prog 17 #[.slice A0_ n0_ c0_] ⟨R, []⟩ (fun v D hs' => v = .bool y ∧ hs' = []) := by
  subst hn0_
  unfold winnowerlaw14_wide at h
  refine CallJ.of1 Try.func17 rfl Try.ntmps17 rfl (fun W0 => ?_)
  refine CodeJ.seq' ?_
  refine CodeJ.region ?_
  refine OpsJ.put rfl (OpJ.pure (OpP.assign rfl) ?_)
  refine OpsJ.nil ?_
  refine CodeJ.seq' ?_
  refine CodeJ.region ?_
  refine OpsJ.put rfl (OpJ.pure (OpP.assign rfl) ?_)
  refine OpsJ.nil ?_
  refine CodeJ.seq' ?_
  refine CodeJ.seq' ?_
  refine CodeJ.region ?_
  refine OpsJ.put rfl (OpJ.pure (OpP.assign rfl) ?_)
  refine OpsJ.nil ?_
  obtain ⟨t25, hl26, h27⟩ := bind_ok h
  clear h
  refine CodeJ.mid (fun e s => .inr () = t25 ∧ e = [] ∧ s = ⟨R, []⟩) ?_ ?_
  · refine CodeJ.block ?_
    refine CodeJ.loopM hl26 (fun (n_15, i_16) e s => e = [(0, .slice A0_ p0_t.length c0_), (3, .int .i64 n_15), (4, .int .i64 i_16)] ∧ s = ⟨R, []⟩) ⟨rfl, rfl⟩ (SubE.cons rfl (SubE.cons rfl (SubE.cons rfl (SubE.nil _)))) (SubL.nil _) ?_
    rintro ⟨n_15, i_16⟩ _ _ _ ⟨rfl, rfl⟩ h23 hne24
    (try dsimp only at h23); unfold winnowerlaw14_wide_l0 at h23
    refine CodeJ.seq' ?_
    refine CodeJ.seq' ?_
    refine CodeJ.region ?_
    refine OpsJ.put rfl (OpJ.pure (OpP.move rfl) ?_)
    refine OpsJ.put rfl (OpJ.pure (OpP.move rfl) ?_)
    refine OpsJ.put rfl (OpJ.pure (OpP.len rfl) ?_)
    refine OpsJ.put rfl (OpJ.pure (OpP.lss rfl rfl) ?_)
    refine OpsJ.nil ?_
    by_cases hc28 : i_16 < ((p0_t.length : Nat) : Int)
    · rw [if_pos hc28] at h23
      refine CodeJ.cond_t rfl (decide_eq_true hc28) ?_
      refine CodeJ.skip ?_
      refine CodeJ.seq' ?_
      refine CodeJ.block ?_
      refine CodeJ.seq' ?_
      refine CodeJ.region ?_
      refine OpsJ.put rfl (OpJ.pure (OpP.move rfl) ?_)
      refine OpsJ.put rfl (OpJ.pure (OpP.add64 rfl rfl) ?_)
      refine OpsJ.put rfl (OpJ.pure (OpP.move rfl) ?_)
      refine OpsJ.put rfl (OpJ.pure (OpP.move rfl) ?_)
      obtain ⟨x29, hx30, h31⟩ := bind_ok h23
      clear h23
      have hE32 : RC _ (some ((adr A0_).add (Int.toNat i_16 * Dat.size (Bool × ByteArray)))) [.bool x29.1, .string x29.2] := SlR.getF (α := Bool × ByteArray) hA0_ hx30
      refine OpsJ.put rfl (OpJ.pure (OpP.ixR hA0_ rfl hx30 (by exact rfl) (by exact rfl) rfl rfl) ?_)
      refine OpsJ.put rfl (OpJ.pure (OpP.fldAddr rfl (by exact rfl)) ?_)
      refine OpsJ.put rfl (OpJ.pure (OpP.ldR (by exact rfl) hE32 (IM.le_refl _) rfl rfl) ?_)
      refine OpsJ.put rfl (OpJ.pure (OpP.len_string rfl) ?_)
      refine OpsJ.put rfl (OpJ.pure (OpP.add64 rfl rfl) ?_)
      refine OpsJ.put rfl (OpJ.pure (OpP.assign rfl) ?_)
      refine OpsJ.nil ?_
      refine CodeJ.seq' ?_
      refine CodeJ.region ?_
      refine OpsJ.put rfl (OpJ.pure (OpP.move rfl) ?_)
      refine OpsJ.put rfl (OpJ.pure (OpP.gtr rfl rfl) ?_)
      refine OpsJ.nil ?_
      by_cases hc33 : w64 (w64 (n_15 + 1) + ((x29.2.size : Nat) : Int)) > 1500
      · rw [if_pos hc33] at h31
        refine CodeJ.cond_t rfl (decide_eq_true hc33) ?_
        refine CodeJ.seq' ?_
        refine CodeJ.region ?_
        refine OpsJ.put rfl (OpJ.pure (OpP.assign rfl) ?_)
        refine OpsJ.nil ?_
        obtain rfl := Option.some.inj h31
        have ht34 := hne24 _ rfl
        subst ht34
        simp only [Sum.elim_inl] at h27
        refine CodeJ.ret' ?_
        obtain rfl := Option.some.inj h27
        exact Ret.mk0 ⟨rfl, rfl⟩ (ResJ.one Try.results17 rfl) (IM.le_refl _) (SubL.nil _)
      · rw [if_neg hc33] at h31
        refine CodeJ.cond_f rfl (decide_eq_false hc33) ?_
        refine CodeJ.skip ?_
        refine CodeJ.region ?_
        refine OpsJ.put rfl (OpJ.pure (OpP.move rfl) ?_)
        refine OpsJ.put rfl (OpJ.pure (OpP.add64 rfl rfl) ?_)
        refine OpsJ.put rfl (OpJ.pure (OpP.assign rfl) ?_)
        refine OpsJ.nil ?_
        obtain rfl := Option.some.inj h31
        exact ⟨_, _, _, _, rfl, ⟨rfl, rfl⟩, IM.le_refl _, (SubE.cons rfl (SubE.cons rfl (SubE.cons rfl (SubE.nil _)))), (SubL.nil _)⟩
    · rw [if_neg hc28] at h23
      refine CodeJ.cond_f rfl (decide_eq_false hc28) ?_
      refine CodeJ.exit rfl ?_
      obtain rfl := Option.some.inj h23
      have ht37 := hne24 _ rfl
      exact ⟨_, _, _, ⟨ht37, rfl, rfl⟩, IM.le_refl _, (SubE.nil _), (SubL.nil _)⟩
  · rintro _ _ ⟨rfl, rfl, rfl⟩
    simp only [Sum.elim_inr] at h27
    refine CodeJ.seq' ?_
    refine CodeJ.region ?_
    refine OpsJ.put rfl (OpJ.pure (OpP.assign rfl) ?_)
    refine OpsJ.nil ?_
    refine CodeJ.ret' ?_
    obtain rfl := Option.some.inj h27
    exact Ret.mk0 ⟨rfl, rfl⟩ (ResJ.one Try.results17 rfl) (IM.le_refl _) (SubL.nil _)
theorem winnowerlaw14_long_w (R : IM) (A0_ : Option Addr) (n0_ c0_ : Nat) (p0_l : List (Int × ByteArray)) (hA0_ : SlR R A0_ p0_l) (hn0_ : p0_l.length = n0_) (hc0_ : n0_ ≤ c0_) (y : Bool) (h : winnowerlaw14_long p0_l = some y) :
    CallJ Try.prog 18 #[.slice A0_ n0_ c0_] ⟨R, []⟩ (fun v D hs' => v = .bool y ∧ hs' = []) := by
  subst hn0_
  unfold winnowerlaw14_long at h
  refine CallJ.of1 Try.func18 rfl Try.ntmps18 rfl (fun W0 => ?_)
  refine CodeJ.seq' ?_
  refine CodeJ.region ?_
  refine OpsJ.put rfl (OpJ.pure (OpP.assign rfl) ?_)
  refine OpsJ.nil ?_
  refine CodeJ.seq' ?_
  refine CodeJ.region ?_
  refine OpsJ.put rfl (OpJ.pure (OpP.assign rfl) ?_)
  refine OpsJ.nil ?_
  refine CodeJ.seq' ?_
  refine CodeJ.seq' ?_
  refine CodeJ.region ?_
  refine OpsJ.put rfl (OpJ.pure (OpP.assign rfl) ?_)
  refine OpsJ.nil ?_
  obtain ⟨t25, hl26, h27⟩ := bind_ok h
  clear h
  refine CodeJ.mid (fun e s => .inr () = t25 ∧ e = [] ∧ s = ⟨R, []⟩) ?_ ?_
  · refine CodeJ.block ?_
    refine CodeJ.loopM hl26 (fun (n_15, i_16) e s => e = [(0, .slice A0_ p0_l.length c0_), (3, .int .i64 n_15), (4, .int .i64 i_16)] ∧ s = ⟨R, []⟩) ⟨rfl, rfl⟩ (SubE.cons rfl (SubE.cons rfl (SubE.cons rfl (SubE.nil _)))) (SubL.nil _) ?_
    rintro ⟨n_15, i_16⟩ _ _ _ ⟨rfl, rfl⟩ h23 hne24
    (try dsimp only at h23); unfold winnowerlaw14_long_l0 at h23
    refine CodeJ.seq' ?_
    refine CodeJ.seq' ?_
    refine CodeJ.region ?_
    refine OpsJ.put rfl (OpJ.pure (OpP.move rfl) ?_)
    refine OpsJ.put rfl (OpJ.pure (OpP.move rfl) ?_)
    refine OpsJ.put rfl (OpJ.pure (OpP.len rfl) ?_)
    refine OpsJ.put rfl (OpJ.pure (OpP.lss rfl rfl) ?_)
    refine OpsJ.nil ?_
    by_cases hc28 : i_16 < ((p0_l.length : Nat) : Int)
    · rw [if_pos hc28] at h23
      refine CodeJ.cond_t rfl (decide_eq_true hc28) ?_
      refine CodeJ.skip ?_
      refine CodeJ.seq' ?_
      refine CodeJ.block ?_
      refine CodeJ.seq' ?_
      refine CodeJ.region ?_
      refine OpsJ.put rfl (OpJ.pure (OpP.move rfl) ?_)
      refine OpsJ.put rfl (OpJ.pure (OpP.add64 rfl rfl) ?_)
      refine OpsJ.put rfl (OpJ.pure (OpP.move rfl) ?_)
      refine OpsJ.put rfl (OpJ.pure (OpP.move rfl) ?_)
      obtain ⟨x29, hx30, h31⟩ := bind_ok h23
      clear h23
      have hE32 : RC _ (some ((adr A0_).add (Int.toNat i_16 * Dat.size (Int × ByteArray)))) [.int .i64 x29.1, .string x29.2] := SlR.getF (α := Int × ByteArray) hA0_ hx30
      refine OpsJ.put rfl (OpJ.pure (OpP.ixR hA0_ rfl hx30 (by exact rfl) (by exact rfl) rfl rfl) ?_)
      refine OpsJ.put rfl (OpJ.pure (OpP.fldAddr rfl (by exact rfl)) ?_)
      refine OpsJ.put rfl (OpJ.pure (OpP.ldR (by exact rfl) hE32 (IM.le_refl _) rfl rfl) ?_)
      refine OpsJ.put rfl (OpJ.pure (OpP.len_string rfl) ?_)
      refine OpsJ.put rfl (OpJ.pure (OpP.add64 rfl rfl) ?_)
      refine OpsJ.put rfl (OpJ.pure (OpP.assign rfl) ?_)
      refine OpsJ.nil ?_
      refine CodeJ.seq' ?_
      refine CodeJ.region ?_
      refine OpsJ.put rfl (OpJ.pure (OpP.move rfl) ?_)
      refine OpsJ.put rfl (OpJ.pure (OpP.gtr rfl rfl) ?_)
      refine OpsJ.nil ?_
      by_cases hc33 : w64 (w64 (n_15 + 1) + ((x29.2.size : Nat) : Int)) > 1500
      · rw [if_pos hc33] at h31
        refine CodeJ.cond_t rfl (decide_eq_true hc33) ?_
        refine CodeJ.seq' ?_
        refine CodeJ.region ?_
        refine OpsJ.put rfl (OpJ.pure (OpP.assign rfl) ?_)
        refine OpsJ.nil ?_
        obtain rfl := Option.some.inj h31
        have ht34 := hne24 _ rfl
        subst ht34
        simp only [Sum.elim_inl] at h27
        refine CodeJ.ret' ?_
        obtain rfl := Option.some.inj h27
        exact Ret.mk0 ⟨rfl, rfl⟩ (ResJ.one Try.results18 rfl) (IM.le_refl _) (SubL.nil _)
      · rw [if_neg hc33] at h31
        refine CodeJ.cond_f rfl (decide_eq_false hc33) ?_
        refine CodeJ.skip ?_
        refine CodeJ.region ?_
        refine OpsJ.put rfl (OpJ.pure (OpP.move rfl) ?_)
        refine OpsJ.put rfl (OpJ.pure (OpP.add64 rfl rfl) ?_)
        refine OpsJ.put rfl (OpJ.pure (OpP.assign rfl) ?_)
        refine OpsJ.nil ?_
        obtain rfl := Option.some.inj h31
        exact ⟨_, _, _, _, rfl, ⟨rfl, rfl⟩, IM.le_refl _, (SubE.cons rfl (SubE.cons rfl (SubE.cons rfl (SubE.nil _)))), (SubL.nil _)⟩
    · rw [if_neg hc28] at h23
      refine CodeJ.cond_f rfl (decide_eq_false hc28) ?_
      refine CodeJ.exit rfl ?_
      obtain rfl := Option.some.inj h23
      have ht37 := hne24 _ rfl
      exact ⟨_, _, _, ⟨ht37, rfl, rfl⟩, IM.le_refl _, (SubE.nil _), (SubL.nil _)⟩
  · rintro _ _ ⟨rfl, rfl, rfl⟩
    simp only [Sum.elim_inr] at h27
    refine CodeJ.seq' ?_
    refine CodeJ.region ?_
    refine OpsJ.put rfl (OpJ.pure (OpP.assign rfl) ?_)
    refine OpsJ.nil ?_
    refine CodeJ.ret' ?_
    obtain rfl := Option.some.inj h27
    exact Ret.mk0 ⟨rfl, rfl⟩ (ResJ.one Try.results18 rfl) (IM.le_refl _) (SubL.nil _)
theorem winnowerref14_Same_w (R : IM) (A0_ : Option Addr) (n0_ c0_ : Nat) (p0_a : List (Bool × ByteArray)) (hA0_ : SlR R A0_ p0_a) (hn0_ : p0_a.length = n0_) (hc0_ : n0_ ≤ c0_) (A1_ : Option Addr) (n1_ c1_ : Nat) (p1_b : List (Bool × ByteArray)) (hA1_ : SlR R A1_ p1_b) (hn1_ : p1_b.length = n1_) (hc1_ : n1_ ≤ c1_) (y : Bool) (h : winnowerref14_Same p0_a p1_b = some y) :
    CallJ Try.prog 21 #[.slice A0_ n0_ c0_, .slice A1_ n1_ c1_] ⟨R, []⟩ (fun v D hs' => v = .bool y ∧ hs' = []) := by
  subst hn0_
  subst hn1_
  unfold winnowerref14_Same at h
  refine CallJ.of2 Try.func21 rfl Try.ntmps21 rfl (fun W0 => ?_)
  refine CodeJ.seq' ?_
  refine CodeJ.region ?_
  refine OpsJ.put rfl (OpJ.pure (OpP.assign rfl) ?_)
  refine OpsJ.nil ?_
  refine CodeJ.seq' ?_
  refine CodeJ.seq' ?_
  refine CodeJ.region ?_
  refine OpsJ.put rfl (OpJ.pure (OpP.move rfl) ?_)
  refine OpsJ.put rfl (OpJ.pure (OpP.len rfl) ?_)
  refine OpsJ.put rfl (OpJ.pure (OpP.move rfl) ?_)
  refine OpsJ.put rfl (OpJ.pure (OpP.len rfl) ?_)
  refine OpsJ.put rfl (OpJ.pure (OpP.neq rfl rfl) ?_)
  refine OpsJ.nil ?_
  by_cases hc1 : ((p0_a.length : Nat) : Int) ≠ ((p1_b.length : Nat) : Int)
  · rw [if_pos hc1] at h
    refine CodeJ.cond_t rfl (decide_eq_true hc1) ?_
    refine CodeJ.seq' ?_
    refine CodeJ.region ?_
    refine OpsJ.put rfl (OpJ.pure (OpP.assign rfl) ?_)
    refine OpsJ.nil ?_
    refine CodeJ.ret' ?_
    obtain rfl := Option.some.inj h
    exact Ret.mk0 ⟨rfl, rfl⟩ (ResJ.one Try.results21 rfl) (IM.le_refl _) (SubL.nil _)
  · rw [if_neg hc1] at h
    refine CodeJ.cond_f rfl (decide_eq_false hc1) ?_
    refine CodeJ.skip ?_
    refine CodeJ.seq' ?_
    refine CodeJ.seq' ?_
    refine CodeJ.region ?_
    refine OpsJ.put rfl (OpJ.pure (OpP.assign rfl) ?_)
    refine OpsJ.nil ?_
    obtain ⟨t47, hl48, h49⟩ := bind_ok h
    clear h
    refine CodeJ.mid (fun e s => .inr () = t47 ∧ e = [] ∧ s = ⟨R, []⟩) ?_ ?_
    · refine CodeJ.block ?_
      refine CodeJ.loopM hl48 (fun i_31 e s => e = [(0, .slice A0_ p0_a.length c0_), (1, .slice A1_ p1_b.length c1_), (5, .int .i64 i_31)] ∧ s = ⟨R, []⟩) ⟨rfl, rfl⟩ (SubE.cons rfl (SubE.cons rfl (SubE.cons rfl (SubE.nil _)))) (SubL.nil _) ?_
      rintro i_31 _ _ _ ⟨rfl, rfl⟩ h45 hne46
      (try dsimp only at h45); unfold winnowerref14_Same_l0 at h45
      refine CodeJ.seq' ?_
      refine CodeJ.seq' ?_
      refine CodeJ.region ?_
      refine OpsJ.put rfl (OpJ.pure (OpP.move rfl) ?_)
      refine OpsJ.put rfl (OpJ.pure (OpP.move rfl) ?_)
      refine OpsJ.put rfl (OpJ.pure (OpP.len rfl) ?_)
      refine OpsJ.put rfl (OpJ.pure (OpP.lss rfl rfl) ?_)
      refine OpsJ.nil ?_
      by_cases hc50 : i_31 < ((p0_a.length : Nat) : Int)
      · rw [if_pos hc50] at h45
        refine CodeJ.cond_t rfl (decide_eq_true hc50) ?_
        refine CodeJ.skip ?_
        refine CodeJ.seq' ?_
        refine CodeJ.block ?_
        refine CodeJ.seq' ?_
        refine CodeJ.drawn (by kernel_rfl) (by kernel_rfl) ?_
        refine QuietJ.put rfl (OpQ.pure (OpP.move rfl) ?_)
        refine QuietJ.put rfl (OpQ.pure (OpP.move rfl) ?_)
        obtain ⟨x51, hx52, h53⟩ := bind_ok h45
        clear h45
        have hE54 : RC _ (some ((adr A0_).add (Int.toNat i_31 * Dat.size (Bool × ByteArray)))) [.bool x51.1, .string x51.2] := SlR.getF (α := Bool × ByteArray) hA0_ hx52
        refine QuietJ.put rfl (OpQ.pure (OpP.ixR hA0_ rfl hx52 (by exact rfl) (by exact rfl) rfl rfl) ?_)
        refine QuietJ.put rfl (OpQ.pure (OpP.fldAddr rfl (by exact rfl)) ?_)
        refine QuietJ.put rfl (OpQ.pure (OpP.ldR (by exact rfl) hE54 (IM.le_refl _) rfl rfl) ?_)
        refine QuietJ.put rfl (OpQ.pure (OpP.move rfl) ?_)
        refine QuietJ.put rfl (OpQ.pure (OpP.move rfl) ?_)
        obtain ⟨x55, hx56, h57⟩ := bind_ok h53
        clear h53
        have hE58 : RC _ (some ((adr A1_).add (Int.toNat i_31 * Dat.size (Bool × ByteArray)))) [.bool x55.1, .string x55.2] := SlR.getF (α := Bool × ByteArray) hA1_ hx56
        refine QuietJ.put rfl (OpQ.pure (OpP.ixR hA1_ rfl hx56 (by exact rfl) (by exact rfl) rfl rfl) ?_)
        refine QuietJ.put rfl (OpQ.pure (OpP.fldAddr rfl (by exact rfl)) ?_)
        refine QuietJ.put rfl (OpQ.pure (OpP.ldR (by exact rfl) hE58 (IM.le_refl _) rfl rfl) ?_)
        refine QuietJ.put rfl (OpQ.pure (OpP.neq_bool rfl rfl) ?_)
        refine QuietJ.put rfl (OpQ.pure (OpP.move rfl) ?_)
        by_cases hc59 : (!(x51.1 == x55.1)) = true
        · rw [if_pos hc59] at h57
          refine QuietJ.guard_n rfl rfl rfl rfl hc59 ?_
          refine QuietJ.guard_n rfl rfl rfl rfl hc59 ?_
          refine QuietJ.guard_n rfl rfl rfl rfl hc59 ?_
          refine QuietJ.guard_n rfl rfl rfl rfl hc59 ?_
          refine QuietJ.guard_n rfl rfl rfl rfl hc59 ?_
          refine QuietJ.guard_n rfl rfl rfl rfl hc59 ?_
          refine QuietJ.guard_n rfl rfl rfl rfl hc59 ?_
          refine QuietJ.guard_n rfl rfl rfl rfl hc59 ?_
          refine QuietJ.guard_n rfl rfl rfl rfl hc59 ?_
          refine QuietJ.guard_n rfl rfl rfl rfl hc59 ?_
          refine QuietJ.guard_n rfl rfl rfl rfl hc59 ?_
          refine QuietJ.put rfl (OpQ.pure (OpP.pick_t rfl hc59 rfl) ?_)
          refine QuietJ.nil ?_
          refine CodeJ.cond_t rfl rfl ?_
          refine CodeJ.seq' ?_
          refine CodeJ.region ?_
          refine OpsJ.put rfl (OpJ.pure (OpP.assign rfl) ?_)
          refine OpsJ.nil ?_
          obtain rfl := Option.some.inj h57
          have ht60 := hne46 _ rfl
          subst ht60
          simp only [Sum.elim_inl] at h49
          refine CodeJ.ret' ?_
          obtain rfl := Option.some.inj h49
          exact Ret.mk0 ⟨rfl, rfl⟩ (ResJ.one Try.results21 rfl) (IM.le_refl _) (SubL.nil _)
        · rw [if_neg hc59] at h57
          refine QuietJ.guard_y rfl rfl rfl rfl (Bool.eq_false_iff.2 hc59) ?_
          refine QuietJ.put rfl (OpQ.pure (OpP.move rfl) ?_)
          refine QuietJ.guard_y rfl rfl rfl rfl (Bool.eq_false_iff.2 hc59) ?_
          refine QuietJ.put rfl (OpQ.pure (OpP.move rfl) ?_)
          refine QuietJ.guard_y rfl rfl rfl rfl (Bool.eq_false_iff.2 hc59) ?_
          have hE63 : RC _ (some ((adr A0_).add (Int.toNat i_31 * Dat.size (Bool × ByteArray)))) [.bool x51.1, .string x51.2] := SlR.getF (α := Bool × ByteArray) hA0_ hx52
          refine QuietJ.put rfl (OpQ.pure (OpP.ixR hA0_ rfl hx52 (by exact rfl) (by exact rfl) rfl rfl) ?_)
          refine QuietJ.guard_y rfl rfl rfl rfl (Bool.eq_false_iff.2 hc59) ?_
          refine QuietJ.put rfl (OpQ.pure (OpP.fldAddr rfl (by exact rfl)) ?_)
          refine QuietJ.guard_y rfl rfl rfl rfl (Bool.eq_false_iff.2 hc59) ?_
          refine QuietJ.put rfl (OpQ.pure (OpP.ldR (by exact rfl) hE63 (IM.le_refl _) rfl rfl) ?_)
          refine QuietJ.guard_y rfl rfl rfl rfl (Bool.eq_false_iff.2 hc59) ?_
          refine QuietJ.put rfl (OpQ.pure (OpP.move rfl) ?_)
          refine QuietJ.guard_y rfl rfl rfl rfl (Bool.eq_false_iff.2 hc59) ?_
          refine QuietJ.put rfl (OpQ.pure (OpP.move rfl) ?_)
          refine QuietJ.guard_y rfl rfl rfl rfl (Bool.eq_false_iff.2 hc59) ?_
          have hE64 : RC _ (some ((adr A1_).add (Int.toNat i_31 * Dat.size (Bool × ByteArray)))) [.bool x55.1, .string x55.2] := SlR.getF (α := Bool × ByteArray) hA1_ hx56
          refine QuietJ.put rfl (OpQ.pure (OpP.ixR hA1_ rfl hx56 (by exact rfl) (by exact rfl) rfl rfl) ?_)
          refine QuietJ.guard_y rfl rfl rfl rfl (Bool.eq_false_iff.2 hc59) ?_
          refine QuietJ.put rfl (OpQ.pure (OpP.fldAddr rfl (by exact rfl)) ?_)
          refine QuietJ.guard_y rfl rfl rfl rfl (Bool.eq_false_iff.2 hc59) ?_
          refine QuietJ.put rfl (OpQ.pure (OpP.ldR (by exact rfl) hE64 (IM.le_refl _) rfl rfl) ?_)
          refine QuietJ.guard_y rfl rfl rfl rfl (Bool.eq_false_iff.2 hc59) ?_
          refine QuietJ.put rfl (OpQ.pure (OpP.neqS rfl rfl) ?_)
          refine QuietJ.put rfl (OpQ.pure (OpP.pick_f rfl (Bool.eq_false_iff.2 hc59) rfl) ?_)
          refine QuietJ.nil ?_
          by_cases hc65 : x51.2 ≠ x55.2
          · rw [if_pos hc65] at h57
            refine CodeJ.cond_t rfl (decide_eq_true hc65) ?_
            refine CodeJ.seq' ?_
            refine CodeJ.region ?_
            refine OpsJ.put rfl (OpJ.pure (OpP.assign rfl) ?_)
            refine OpsJ.nil ?_
            obtain rfl := Option.some.inj h57
            have ht66 := hne46 _ rfl
            subst ht66
            simp only [Sum.elim_inl] at h49
            refine CodeJ.ret' ?_
            obtain rfl := Option.some.inj h49
            exact Ret.mk0 ⟨rfl, rfl⟩ (ResJ.one Try.results21 rfl) (IM.le_refl _) (SubL.nil _)
          · rw [if_neg hc65] at h57
            refine CodeJ.cond_f rfl (decide_eq_false hc65) ?_
            refine CodeJ.skip ?_
            refine CodeJ.region ?_
            refine OpsJ.put rfl (OpJ.pure (OpP.move rfl) ?_)
            refine OpsJ.put rfl (OpJ.pure (OpP.add64 rfl rfl) ?_)
            refine OpsJ.put rfl (OpJ.pure (OpP.assign rfl) ?_)
            refine OpsJ.nil ?_
            obtain rfl := Option.some.inj h57
            exact ⟨_, _, _, _, rfl, ⟨rfl, rfl⟩, IM.le_refl _, (SubE.cons rfl (SubE.cons rfl (SubE.cons rfl (SubE.nil _)))), (SubL.nil _)⟩
      · rw [if_neg hc50] at h45
        refine CodeJ.cond_f rfl (decide_eq_false hc50) ?_
        refine CodeJ.exit rfl ?_
        obtain rfl := Option.some.inj h45
        have ht69 := hne46 _ rfl
        exact ⟨_, _, _, ⟨ht69, rfl, rfl⟩, IM.le_refl _, (SubE.nil _), (SubL.nil _)⟩
    · rintro _ _ ⟨rfl, rfl, rfl⟩
      simp only [Sum.elim_inr] at h49
      refine CodeJ.seq' ?_
      refine CodeJ.region ?_
      refine OpsJ.put rfl (OpJ.pure (OpP.assign rfl) ?_)
      refine OpsJ.nil ?_
      refine CodeJ.ret' ?_
      obtain rfl := Option.some.inj h49
      exact Ret.mk0 ⟨rfl, rfl⟩ (ResJ.one Try.results21 rfl) (IM.le_refl _) (SubL.nil _)
theorem part_Wild_w (R : IM) (A0_ : Option Addr) (n0_ c0_ : Nat) (p0_t : List (Bool × ByteArray)) (hA0_ : SlR R A0_ p0_t) (hn0_ : p0_t.length = n0_) (hc0_ : n0_ ≤ c0_) (y : Int) (h : part_Wild p0_t = some y) :
    CallJ Try.prog 23 #[.slice A0_ n0_ c0_] ⟨R, []⟩ (fun v D hs' => v = .int .i64 y ∧ hs' = []) := by
  subst hn0_
  unfold part_Wild at h
  refine CallJ.of1 Try.func23 rfl Try.ntmps23 rfl (fun W0 => ?_)
  refine CodeJ.seq' ?_
  refine CodeJ.region ?_
  refine OpsJ.put rfl (OpJ.pure (OpP.assign rfl) ?_)
  refine OpsJ.nil ?_
  refine CodeJ.seq' ?_
  refine CodeJ.region ?_
  refine OpsJ.put rfl (OpJ.pure (OpP.assign rfl) ?_)
  refine OpsJ.nil ?_
  refine CodeJ.seq' ?_
  refine CodeJ.seq' ?_
  refine CodeJ.region ?_
  refine OpsJ.put rfl (OpJ.pure (OpP.move rfl) ?_)
  refine OpsJ.put rfl (OpJ.pure (OpP.len rfl) ?_)
  refine OpsJ.put rfl (OpJ.pure (OpP.move rfl) ?_)
  refine OpsJ.nil ?_
  obtain ⟨t32, hl33, h34⟩ := bind_ok h
  clear h
  refine CodeJ.mid (fun e s => ∃ (n_29 : Int), n_29 = t32 ∧ e = [(3, .int .i64 n_29)] ∧ s = ⟨R, []⟩) ?_ ?_
  · refine CodeJ.block ?_
    refine CodeJ.loopM hl33 (fun (n_19, v20) e s => e = [(3, .int .i64 n_19), (6, .slice A0_ p0_t.length c0_), (7, .int .i64 ((p0_t.length : Nat) : Int)), (8, .int .i64 v20)] ∧ s = ⟨R, []⟩) ⟨rfl, rfl⟩ (SubE.cons rfl (SubE.cons rfl (SubE.cons rfl (SubE.cons rfl (SubE.nil _))))) (SubL.nil _) ?_
    rintro ⟨n_19, v20⟩ _ _ _ ⟨rfl, rfl⟩ h30 hne31
    (try dsimp only at h30); unfold part_Wild_l0 at h30
    refine CodeJ.seq' ?_
    refine CodeJ.region ?_
    refine OpsJ.put rfl (OpJ.pure (OpP.lss rfl rfl) ?_)
    refine OpsJ.nil ?_
    refine CodeJ.seq' ?_
    by_cases hc35 : v20 < ((p0_t.length : Nat) : Int)
    · rw [if_pos hc35] at h30
      refine CodeJ.cond_t rfl (decide_eq_true hc35) ?_
      refine CodeJ.skip ?_
      refine CodeJ.seq' ?_
      refine CodeJ.block ?_
      refine CodeJ.seq' ?_
      refine CodeJ.region ?_
      obtain ⟨x36, hx37, h38⟩ := bind_ok h30
      clear h30
      have hE39 : RC _ (some ((adr A0_).add (Int.toNat v20 * Dat.size (Bool × ByteArray)))) [.bool x36.1, .string x36.2] := SlR.getF (α := Bool × ByteArray) hA0_ hx37
      refine OpsJ.put rfl (OpJ.pure (OpP.ixR hA0_ rfl hx37 (by exact rfl) (by exact rfl) rfl rfl) ?_)
      refine OpsJ.put rfl (OpJ.pure (OpP.ldRN (by exact rfl) hE39 (IM.le_refl _) rfl (by exact rfl)) ?_)
      refine OpsJ.put rfl (OpJ.alloc (fun g40 => ?_))
      refine OpsJ.act (OpJ.storeC (us := [.bool x36.1, .string x36.2]) (cs := [.bool x36.1, .string x36.2]) rfl rfl rfl (List.Perm.refl _) (by exact rfl) rfl rfl rfl ?_)
      refine OpsJ.nil ?_
      refine CodeJ.seq' ?_
      refine CodeJ.region ?_
      refine OpsJ.put rfl (OpJ.pure (OpP.fldAddr_lit rfl (by exact rfl)) ?_)
      refine OpsJ.put rfl (OpJ.pure (OpP.load_blk (by exact rfl) rfl (List.Mem.head _) rfl) ?_)
      refine OpsJ.nil ?_
      by_cases hc42 : x36.1 = true
      · rw [if_pos hc42] at h38
        refine CodeJ.cond_t rfl hc42 ?_
        refine CodeJ.region ?_
        refine OpsJ.put rfl (OpJ.pure (OpP.move rfl) ?_)
        refine OpsJ.put rfl (OpJ.pure (OpP.add64 rfl rfl) ?_)
        refine OpsJ.put rfl (OpJ.pure (OpP.assign rfl) ?_)
        refine OpsJ.nil ?_
        refine CodeJ.region ?_
        refine OpsJ.put rfl (OpJ.pure (OpP.add64 rfl rfl) ?_)
        refine OpsJ.put rfl (OpJ.pure (OpP.move rfl) ?_)
        refine OpsJ.nil ?_
        obtain rfl := Option.some.inj h38
        exact ⟨_, _, _, _, rfl, ⟨rfl, rfl⟩, IM.le_refl _, (SubE.cons rfl (SubE.cons rfl (SubE.cons rfl (SubE.cons rfl (SubE.nil _))))), (SubL.nil _)⟩
      · rw [if_neg hc42] at h38
        refine CodeJ.cond_f rfl (Bool.eq_false_iff.2 hc42) ?_
        refine CodeJ.skip ?_
        refine CodeJ.region ?_
        refine OpsJ.put rfl (OpJ.pure (OpP.add64 rfl rfl) ?_)
        refine OpsJ.put rfl (OpJ.pure (OpP.move rfl) ?_)
        refine OpsJ.nil ?_
        obtain rfl := Option.some.inj h38
        exact ⟨_, _, _, _, rfl, ⟨rfl, rfl⟩, IM.le_refl _, (SubE.cons rfl (SubE.cons rfl (SubE.cons rfl (SubE.cons rfl (SubE.nil _))))), (SubL.nil _)⟩
    · rw [if_neg hc35] at h30
      refine CodeJ.cond_f rfl (decide_eq_false hc35) ?_
      refine CodeJ.exit rfl ?_
      obtain rfl := Option.some.inj h30
      have ht43 := hne31 _ rfl
      exact ⟨_, _, _, ⟨n_19, ht43, rfl, rfl⟩, IM.le_refl _, (SubE.cons rfl (SubE.nil _)), (SubL.nil _)⟩
  · rintro _ _ ⟨n_29, rfl, rfl, rfl⟩
    (try dsimp only at h34)
    refine CodeJ.seq' ?_
    refine CodeJ.region ?_
    refine OpsJ.put rfl (OpJ.pure (OpP.move rfl) ?_)
    refine OpsJ.put rfl (OpJ.pure (OpP.assign rfl) ?_)
    refine OpsJ.nil ?_
    refine CodeJ.ret' ?_
    obtain rfl := Option.some.inj h34
    exact Ret.mk0 ⟨rfl, rfl⟩ (ResJ.one Try.results23 rfl) (IM.le_refl _) (SubL.nil _)
theorem winnowerref14_Alike_w (R : IM) (A0_ : Option Addr) (n0_ c0_ : Nat) (p0_t : List (Bool × ByteArray)) (hA0_ : SlR R A0_ p0_t) (hn0_ : p0_t.length = n0_) (hc0_ : n0_ ≤ c0_) (A1_ : Option Addr) (n1_ c1_ : Nat) (p1_l : List (Int × ByteArray)) (hA1_ : SlR R A1_ p1_l) (hn1_ : p1_l.length = n1_) (hc1_ : n1_ ≤ c1_) (y : Int) (h : winnowerref14_Alike p0_t p1_l = some y) :
    CallJ Try.prog 31 #[.slice A0_ n0_ c0_, .slice A1_ n1_ c1_] ⟨R, []⟩ (fun v D hs' => v = .int .i64 y ∧ hs' = []) := by
  subst hn0_
  subst hn1_
  unfold winnowerref14_Alike at h
  refine CallJ.of2 Try.func31 rfl Try.ntmps31 rfl (fun W0 => ?_)
  refine CodeJ.seq' ?_
  refine CodeJ.region ?_
  refine OpsJ.put rfl (OpJ.pure (OpP.assign rfl) ?_)
  refine OpsJ.nil ?_
  refine CodeJ.seq' ?_
  refine CodeJ.seq' ?_
  refine CodeJ.region ?_
  refine OpsJ.put rfl (OpJ.pure (OpP.move rfl) ?_)
  refine OpsJ.put rfl (OpJ.pure (OpP.len rfl) ?_)
  refine OpsJ.put rfl (OpJ.pure (OpP.move rfl) ?_)
  refine OpsJ.put rfl (OpJ.pure (OpP.len rfl) ?_)
  refine OpsJ.put rfl (OpJ.pure (OpP.neq rfl rfl) ?_)
  refine OpsJ.nil ?_
  by_cases hc1 : ((p0_t.length : Nat) : Int) ≠ ((p1_l.length : Nat) : Int)
  · rw [if_pos hc1] at h
    refine CodeJ.cond_t rfl (decide_eq_true hc1) ?_
    refine CodeJ.seq' ?_
    refine CodeJ.region ?_
    refine OpsJ.put rfl (OpJ.pure (OpP.assign rfl) ?_)
    refine OpsJ.nil ?_
    refine CodeJ.ret' ?_
    obtain rfl := Option.some.inj h
    exact Ret.mk0 ⟨rfl, rfl⟩ (ResJ.one Try.results31 rfl) (IM.le_refl _) (SubL.nil _)
  · rw [if_neg hc1] at h
    refine CodeJ.cond_f rfl (decide_eq_false hc1) ?_
    refine CodeJ.skip ?_
    refine CodeJ.seq' ?_
    refine CodeJ.region ?_
    refine OpsJ.put rfl (OpJ.pure (OpP.assign rfl) ?_)
    refine OpsJ.nil ?_
    refine CodeJ.seq' ?_
    refine CodeJ.seq' ?_
    refine CodeJ.region ?_
    refine OpsJ.put rfl (OpJ.pure (OpP.assign rfl) ?_)
    refine OpsJ.nil ?_
    obtain ⟨t47, hl48, h49⟩ := bind_ok h
    clear h
    refine CodeJ.mid (fun e s => ∃ (n_44 : Int), n_44 = t47 ∧ e = [(5, .int .i64 n_44)] ∧ s = ⟨R, []⟩) ?_ ?_
    · refine CodeJ.block ?_
      refine CodeJ.loopM hl48 (fun (n_30, i_31) e s => e = [(0, .slice A0_ p0_t.length c0_), (1, .slice A1_ p1_l.length c1_), (5, .int .i64 n_30), (6, .int .i64 i_31)] ∧ s = ⟨R, []⟩) ⟨rfl, rfl⟩ (SubE.cons rfl (SubE.cons rfl (SubE.cons rfl (SubE.cons rfl (SubE.nil _))))) (SubL.nil _) ?_
      rintro ⟨n_30, i_31⟩ _ _ _ ⟨rfl, rfl⟩ h45 hne46
      (try dsimp only at h45); unfold winnowerref14_Alike_l0 at h45
      refine CodeJ.seq' ?_
      refine CodeJ.seq' ?_
      refine CodeJ.region ?_
      refine OpsJ.put rfl (OpJ.pure (OpP.move rfl) ?_)
      refine OpsJ.put rfl (OpJ.pure (OpP.move rfl) ?_)
      refine OpsJ.put rfl (OpJ.pure (OpP.len rfl) ?_)
      refine OpsJ.put rfl (OpJ.pure (OpP.lss rfl rfl) ?_)
      refine OpsJ.nil ?_
      by_cases hc50 : i_31 < ((p0_t.length : Nat) : Int)
      · rw [if_pos hc50] at h45
        refine CodeJ.cond_t rfl (decide_eq_true hc50) ?_
        refine CodeJ.skip ?_
        refine CodeJ.seq' ?_
        refine CodeJ.block ?_
        refine CodeJ.seq' ?_
        refine CodeJ.drawn (by kernel_rfl) (by kernel_rfl) ?_
        refine QuietJ.put rfl (OpQ.pure (OpP.move rfl) ?_)
        refine QuietJ.put rfl (OpQ.pure (OpP.move rfl) ?_)
        obtain ⟨x51, hx52, h53⟩ := bind_ok h45
        clear h45
        have hE54 : RC _ (some ((adr A0_).add (Int.toNat i_31 * Dat.size (Bool × ByteArray)))) [.bool x51.1, .string x51.2] := SlR.getF (α := Bool × ByteArray) hA0_ hx52
        refine QuietJ.put rfl (OpQ.pure (OpP.ixR hA0_ rfl hx52 (by exact rfl) (by exact rfl) rfl rfl) ?_)
        refine QuietJ.put rfl (OpQ.pure (OpP.fldAddr rfl (by exact rfl)) ?_)
        refine QuietJ.put rfl (OpQ.pure (OpP.ldR (by exact rfl) hE54 (IM.le_refl _) rfl rfl) ?_)
        refine QuietJ.put rfl (OpQ.pure (OpP.move rfl) ?_)
        by_cases hc55 : x51.1 = true
        · rw [if_pos hc55] at h53
          refine QuietJ.guard_n rfl rfl rfl rfl hc55 ?_
          refine QuietJ.guard_n rfl rfl rfl rfl hc55 ?_
          refine QuietJ.guard_n rfl rfl rfl rfl hc55 ?_
          refine QuietJ.guard_n rfl rfl rfl rfl hc55 ?_
          refine QuietJ.guard_n rfl rfl rfl rfl hc55 ?_
          refine QuietJ.guard_n rfl rfl rfl rfl hc55 ?_
          refine QuietJ.guard_n rfl rfl rfl rfl hc55 ?_
          refine QuietJ.guard_n rfl rfl rfl rfl hc55 ?_
          refine QuietJ.guard_n rfl rfl rfl rfl hc55 ?_
          refine QuietJ.guard_n rfl rfl rfl rfl hc55 ?_
          refine QuietJ.guard_n rfl rfl rfl rfl hc55 ?_
          refine QuietJ.put rfl (OpQ.pure (OpP.pick_t rfl hc55 rfl) ?_)
          refine QuietJ.nil ?_
          refine CodeJ.cond_t rfl rfl ?_
          refine CodeJ.region ?_
          refine OpsJ.put rfl (OpJ.pure (OpP.move rfl) ?_)
          refine OpsJ.put rfl (OpJ.pure (OpP.add64 rfl rfl) ?_)
          refine OpsJ.put rfl (OpJ.pure (OpP.assign rfl) ?_)
          refine OpsJ.nil ?_
          refine CodeJ.region ?_
          refine OpsJ.put rfl (OpJ.pure (OpP.move rfl) ?_)
          refine OpsJ.put rfl (OpJ.pure (OpP.add64 rfl rfl) ?_)
          refine OpsJ.put rfl (OpJ.pure (OpP.assign rfl) ?_)
          refine OpsJ.nil ?_
          obtain rfl := Option.some.inj h53
          exact ⟨_, _, _, _, rfl, ⟨rfl, rfl⟩, IM.le_refl _, (SubE.cons rfl (SubE.cons rfl (SubE.cons rfl (SubE.cons rfl (SubE.nil _))))), (SubL.nil _)⟩
        · rw [if_neg hc55] at h53
          refine QuietJ.guard_y rfl rfl rfl rfl (Bool.eq_false_iff.2 hc55) ?_
          refine QuietJ.put rfl (OpQ.pure (OpP.move rfl) ?_)
          refine QuietJ.guard_y rfl rfl rfl rfl (Bool.eq_false_iff.2 hc55) ?_
          refine QuietJ.put rfl (OpQ.pure (OpP.move rfl) ?_)
          refine QuietJ.guard_y rfl rfl rfl rfl (Bool.eq_false_iff.2 hc55) ?_
          have hE56 : RC _ (some ((adr A0_).add (Int.toNat i_31 * Dat.size (Bool × ByteArray)))) [.bool x51.1, .string x51.2] := SlR.getF (α := Bool × ByteArray) hA0_ hx52
          refine QuietJ.put rfl (OpQ.pure (OpP.ixR hA0_ rfl hx52 (by exact rfl) (by exact rfl) rfl rfl) ?_)
          refine QuietJ.guard_y rfl rfl rfl rfl (Bool.eq_false_iff.2 hc55) ?_
          refine QuietJ.put rfl (OpQ.pure (OpP.fldAddr rfl (by exact rfl)) ?_)
          refine QuietJ.guard_y rfl rfl rfl rfl (Bool.eq_false_iff.2 hc55) ?_
          refine QuietJ.put rfl (OpQ.pure (OpP.ldR (by exact rfl) hE56 (IM.le_refl _) rfl rfl) ?_)
          refine QuietJ.guard_y rfl rfl rfl rfl (Bool.eq_false_iff.2 hc55) ?_
          refine QuietJ.put rfl (OpQ.pure (OpP.move rfl) ?_)
          refine QuietJ.guard_y rfl rfl rfl rfl (Bool.eq_false_iff.2 hc55) ?_
          refine QuietJ.put rfl (OpQ.pure (OpP.move rfl) ?_)
          refine QuietJ.guard_y rfl rfl rfl rfl (Bool.eq_false_iff.2 hc55) ?_
          obtain ⟨x57, hx58, h59⟩ := bind_ok h53
          clear h53
          have hE60 : RC _ (some ((adr A1_).add (Int.toNat i_31 * Dat.size (Int × ByteArray)))) [.int .i64 x57.1, .string x57.2] := SlR.getF (α := Int × ByteArray) hA1_ hx58
          refine QuietJ.put rfl (OpQ.pure (OpP.ixR hA1_ rfl hx58 (by exact rfl) (by exact rfl) rfl rfl) ?_)
          refine QuietJ.guard_y rfl rfl rfl rfl (Bool.eq_false_iff.2 hc55) ?_
          refine QuietJ.put rfl (OpQ.pure (OpP.fldAddr rfl (by exact rfl)) ?_)
          refine QuietJ.guard_y rfl rfl rfl rfl (Bool.eq_false_iff.2 hc55) ?_
          refine QuietJ.put rfl (OpQ.pure (OpP.ldR (by exact rfl) hE60 (IM.le_refl _) rfl rfl) ?_)
          refine QuietJ.guard_y rfl rfl rfl rfl (Bool.eq_false_iff.2 hc55) ?_
          refine QuietJ.put rfl (OpQ.pure (OpP.eql_string rfl rfl) ?_)
          refine QuietJ.put rfl (OpQ.pure (OpP.pick_f rfl (Bool.eq_false_iff.2 hc55) rfl) ?_)
          refine QuietJ.nil ?_
          by_cases hc61 : x51.2 = x57.2
          · rw [if_pos hc61] at h59
            refine CodeJ.cond_t rfl (decide_eq_true hc61) ?_
            refine CodeJ.region ?_
            refine OpsJ.put rfl (OpJ.pure (OpP.move rfl) ?_)
            refine OpsJ.put rfl (OpJ.pure (OpP.add64 rfl rfl) ?_)
            refine OpsJ.put rfl (OpJ.pure (OpP.assign rfl) ?_)
            refine OpsJ.nil ?_
            refine CodeJ.region ?_
            refine OpsJ.put rfl (OpJ.pure (OpP.move rfl) ?_)
            refine OpsJ.put rfl (OpJ.pure (OpP.add64 rfl rfl) ?_)
            refine OpsJ.put rfl (OpJ.pure (OpP.assign rfl) ?_)
            refine OpsJ.nil ?_
            obtain rfl := Option.some.inj h59
            exact ⟨_, _, _, _, rfl, ⟨rfl, rfl⟩, IM.le_refl _, (SubE.cons rfl (SubE.cons rfl (SubE.cons rfl (SubE.cons rfl (SubE.nil _))))), (SubL.nil _)⟩
          · rw [if_neg hc61] at h59
            refine CodeJ.cond_f rfl (decide_eq_false hc61) ?_
            refine CodeJ.skip ?_
            refine CodeJ.region ?_
            refine OpsJ.put rfl (OpJ.pure (OpP.move rfl) ?_)
            refine OpsJ.put rfl (OpJ.pure (OpP.add64 rfl rfl) ?_)
            refine OpsJ.put rfl (OpJ.pure (OpP.assign rfl) ?_)
            refine OpsJ.nil ?_
            obtain rfl := Option.some.inj h59
            exact ⟨_, _, _, _, rfl, ⟨rfl, rfl⟩, IM.le_refl _, (SubE.cons rfl (SubE.cons rfl (SubE.cons rfl (SubE.cons rfl (SubE.nil _))))), (SubL.nil _)⟩
      · rw [if_neg hc50] at h45
        refine CodeJ.cond_f rfl (decide_eq_false hc50) ?_
        refine CodeJ.exit rfl ?_
        obtain rfl := Option.some.inj h45
        have ht62 := hne46 _ rfl
        exact ⟨_, _, _, ⟨n_30, ht62, rfl, rfl⟩, IM.le_refl _, (SubE.cons rfl (SubE.nil _)), (SubL.nil _)⟩
    · rintro _ _ ⟨n_44, rfl, rfl, rfl⟩
      (try dsimp only at h49)
      refine CodeJ.seq' ?_
      refine CodeJ.region ?_
      refine OpsJ.put rfl (OpJ.pure (OpP.move rfl) ?_)
      refine OpsJ.put rfl (OpJ.pure (OpP.assign rfl) ?_)
      refine OpsJ.nil ?_
      refine CodeJ.ret' ?_
      obtain rfl := Option.some.inj h49
      exact Ret.mk0 ⟨rfl, rfl⟩ (ResJ.one Try.results31 rfl) (IM.le_refl _) (SubL.nil _)
theorem winnowerref14_Merge_w (R : IM) (A0_ : Option Addr) (n0_ c0_ : Nat) (p0_t : List (Bool × ByteArray)) (hA0_ : SlR R A0_ p0_t) (hn0_ : p0_t.length = n0_) (hc0_ : n0_ ≤ c0_) (A1_ : Option Addr) (n1_ c1_ : Nat) (p1_l : List (Int × ByteArray)) (hA1_ : SlR R A1_ p1_l) (hn1_ : p1_l.length = n1_) (hc1_ : n1_ ≤ c1_) (y : (List (Bool × ByteArray))) (h : winnowerref14_Merge p0_t p1_l = some y) :
    CallJ Try.prog 35 #[.slice A0_ n0_ c0_, .slice A1_ n1_ c1_] ⟨R, []⟩ (fun v D hs' => ∃ (B1 : Option Addr) (d2 : Nat) (ds3 : List Value), v = .slice B1 y.length d2 ∧ repL IM.nil ds3 y ∧ hs' = [.row 41 2 B1 y.length d2 ds3]) := by
  subst hn0_
  subst hn1_
  unfold winnowerref14_Merge at h
  refine CallJ.of2 Try.func35 rfl Try.ntmps35 rfl (fun W0 => ?_)
  refine CodeJ.seq' ?_
  refine CodeJ.region ?_
  refine OpsJ.put rfl (OpJ.pure (OpP.assign rfl) ?_)
  refine OpsJ.nil ?_
  refine CodeJ.seq' ?_
  refine CodeJ.region ?_
  refine OpsJ.put rfl (OpJ.pure (OpP.assign rfl) ?_)
  refine OpsJ.nil ?_
  refine CodeJ.seq' ?_
  refine CodeJ.seq' ?_
  refine CodeJ.region ?_
  refine OpsJ.put rfl (OpJ.pure (OpP.assign rfl) ?_)
  refine OpsJ.nil ?_
  refine CodeJ.nilrow 41 2 ?_
  obtain ⟨t190, hl191, h192⟩ := bind_ok h
  clear h
  refine CodeJ.mid (fun e s => ∃ (A183 : Option Addr) (c184 : Nat) (cs185 : List Value) (m_182 : List (Bool × ByteArray)), m_182 = t190 ∧ repL IM.nil cs185 m_182 ∧ e = [(5, .slice A183 m_182.length c184)] ∧ s = ⟨R, [.row 41 2 A183 m_182.length c184 cs185]⟩) ?_ ?_
  · refine CodeJ.block ?_
    refine CodeJ.loopM hl191 (fun (m_121, i_127) e s => ∃ (A122 : Option Addr) (c123 : Nat) (cs124 : List Value), repL IM.nil cs124 m_121 ∧ e = [(0, .slice A0_ p0_t.length c0_), (1, .slice A1_ p1_l.length c1_), (5, .slice A122 m_121.length c123), (6, .int .i64 i_127)] ∧ s = ⟨R, [.row 41 2 A122 m_121.length c123 cs124]⟩) ⟨none, 0, ([] : List Value), (repL_nil IM.nil), rfl, rfl⟩ (SubE.cons rfl (SubE.cons rfl (SubE.cons rfl (SubE.cons rfl (SubE.nil _))))) (SubL.p0 (SubL.nil _)) ?_
    rintro ⟨m_121, i_127⟩ _ _ _ ⟨A122, c123, cs124, hr125, rfl, rfl⟩ h188 hne189
    (try dsimp only at h188); unfold winnowerref14_Merge_l0 at h188
    refine CodeJ.seq' ?_
    refine CodeJ.seq' ?_
    refine CodeJ.region ?_
    refine OpsJ.put rfl (OpJ.pure (OpP.move rfl) ?_)
    refine OpsJ.put rfl (OpJ.pure (OpP.move rfl) ?_)
    refine OpsJ.put rfl (OpJ.pure (OpP.len rfl) ?_)
    refine OpsJ.put rfl (OpJ.pure (OpP.lss rfl rfl) ?_)
    refine OpsJ.nil ?_
    by_cases hc193 : i_127 < ((p0_t.length : Nat) : Int)
    · rw [if_pos hc193] at h188
      refine CodeJ.cond_t rfl (decide_eq_true hc193) ?_
      refine CodeJ.skip ?_
      refine CodeJ.seq' ?_
      refine CodeJ.block ?_
      refine CodeJ.seq' ?_
      refine CodeJ.region ?_
      refine OpsJ.put rfl (OpJ.pure (OpP.move rfl) ?_)
      refine OpsJ.put rfl (OpJ.pure (OpP.move rfl) ?_)
      obtain ⟨x194, hx195, h196⟩ := bind_ok h188
      clear h188
      have hE197 : RC _ (some ((adr A0_).add (Int.toNat i_127 * Dat.size (Bool × ByteArray)))) [.bool x194.1, .string x194.2] := SlR.getF (α := Bool × ByteArray) hA0_ hx195
      refine OpsJ.put rfl (OpJ.pure (OpP.ixR hA0_ rfl hx195 (by exact rfl) (by exact rfl) rfl rfl) ?_)
      refine OpsJ.put rfl (OpJ.pure (OpP.ldRN (by exact rfl) hE197 (IM.le_refl _) rfl (by exact rfl)) ?_)
      refine OpsJ.put rfl (OpJ.alloc (fun g198 => ?_))
      refine OpsJ.act (OpJ.storeC (us := [.bool x194.1, .string x194.2]) (cs := [.bool x194.1, .string x194.2]) rfl rfl rfl (List.Perm.refl _) (by exact rfl) rfl rfl rfl ?_)
      refine OpsJ.nil ?_
      refine CodeJ.seq' ?_
      refine CodeJ.seq' ?_
      refine CodeJ.drawn (by kernel_rfl) (by kernel_rfl) ?_
      refine QuietJ.put rfl (OpQ.pure (OpP.fldAddr_lit rfl (by exact rfl)) ?_)
      refine QuietJ.put rfl (OpQ.pure (OpP.load_blk (by exact rfl) rfl (List.Mem.head _) rfl) ?_)
      refine QuietJ.put rfl (OpQ.pure (OpP.move rfl) ?_)
      by_cases hc200 : x194.1 = true
      · rw [if_pos hc200] at h196
        refine QuietJ.guard_n rfl rfl rfl rfl hc200 ?_
        refine QuietJ.guard_n rfl rfl rfl rfl hc200 ?_
        refine QuietJ.guard_n rfl rfl rfl rfl hc200 ?_
        refine QuietJ.guard_n rfl rfl rfl rfl hc200 ?_
        refine QuietJ.guard_n rfl rfl rfl rfl hc200 ?_
        refine QuietJ.gund rfl rfl rfl rfl ?_
        refine QuietJ.gund rfl rfl rfl rfl ?_
        refine QuietJ.gund rfl rfl rfl rfl ?_
        refine QuietJ.gund rfl rfl rfl rfl ?_
        refine QuietJ.gund rfl rfl rfl rfl ?_
        refine QuietJ.gund rfl rfl rfl rfl ?_
        refine QuietJ.gund rfl rfl rfl rfl ?_
        refine QuietJ.gund rfl rfl rfl rfl ?_
        refine QuietJ.guard_n rfl rfl rfl rfl hc200 ?_
        refine QuietJ.put rfl (OpQ.pure (OpP.pick_t rfl hc200 rfl) ?_)
        refine QuietJ.nil ?_
        refine CodeJ.cond_t rfl rfl ?_
        refine CodeJ.region ?_
        refine OpsJ.put rfl (OpJ.pure (OpP.buildC (cs := [.bool true, .string ByteArray.empty]) rfl (by exact rfl) (by exact rfl)) ?_)
        refine OpsJ.act (OpJ.storeC (us := [.bool true, .string ByteArray.empty]) (cs := [.bool true, .string ByteArray.empty]) rfl rfl rfl (List.Perm.refl _) (by exact rfl) rfl rfl rfl ?_)
        refine OpsJ.nil ?_
        refine CodeJ.region ?_
        refine OpsJ.put rfl (OpJ.pure (OpP.move rfl) ?_)
        refine OpsJ.put rfl (OpJ.pure (OpP.loadN_blk (by exact rfl) rfl (List.Mem.head _) (by exact rfl)) ?_)
        have hr202 : repL IM.nil [.bool true, .string ByteArray.empty] ([(true, ByteArray.empty)] : List (Bool × ByteArray)) := (repL_cons (c1 := [.bool true, .string ByteArray.empty]) (show Dat.rep _ _ (true, ByteArray.empty) from ⟨[.bool true], [.string ByteArray.empty], rfl, rfl, rfl⟩) (repL_nil _))
        refine OpsJ.put rfl (OpJ.buildSliceC (cs := [.bool true, .string ByteArray.empty]) rfl rfl (by exact rfl) (by exact rfl) (by exact rfl) (by exact rfl) (fun g201 => ?_))
        obtain ⟨q204, hq205, h206⟩ := bind_ok h196
        clear h196
        have hr209 : repL IM.nil (cs124 ++ ([.bool true, .string ByteArray.empty] : List Value)) q204 := app_rep hq205 hr125 hr202
        refine OpsJ.put rfl (OpJ.appW hq205 rfl rfl (Src.ofRow (List.Mem.head _)) hr202 (by exact rfl) (permm2 _ _ _ _) (by exact rfl) (by exact rfl) (by exact rfl) rfl rfl (fun A207 c208 => ?_))
        refine OpsJ.put rfl (OpJ.pure (OpP.assign rfl) ?_)
        refine OpsJ.nil ?_
        refine CodeJ.region ?_
        refine OpsJ.put rfl (OpJ.pure (OpP.move rfl) ?_)
        refine OpsJ.put rfl (OpJ.pure (OpP.add64 rfl rfl) ?_)
        refine OpsJ.put rfl (OpJ.pure (OpP.assign rfl) ?_)
        refine OpsJ.nil ?_
        obtain rfl := Option.some.inj h206
        exact ⟨_, _, _, _, rfl, ⟨A207, c208, (cs124 ++ ([.bool true, .string ByteArray.empty] : List Value)), hr209, rfl, rfl⟩, IM.le_refl _, (SubE.cons rfl (SubE.cons rfl (SubE.cons rfl (SubE.cons rfl (SubE.nil _))))), (SubL.p0 (SubL.nil _))⟩
      · rw [if_neg hc200] at h196
        refine QuietJ.guard_y rfl rfl rfl rfl (Bool.eq_false_iff.2 hc200) ?_
        refine QuietJ.put rfl (OpQ.pure (OpP.move rfl) ?_)
        refine QuietJ.guard_y rfl rfl rfl rfl (Bool.eq_false_iff.2 hc200) ?_
        refine QuietJ.put rfl (OpQ.pure (OpP.move rfl) ?_)
        refine QuietJ.guard_y rfl rfl rfl rfl (Bool.eq_false_iff.2 hc200) ?_
        refine QuietJ.put rfl (OpQ.pure (OpP.len rfl) ?_)
        refine QuietJ.guard_y rfl rfl rfl rfl (Bool.eq_false_iff.2 hc200) ?_
        refine QuietJ.put rfl (OpQ.pure (OpP.lss rfl rfl) ?_)
        refine QuietJ.guard_y rfl rfl rfl rfl (Bool.eq_false_iff.2 hc200) ?_
        refine QuietJ.put rfl (OpQ.pure (OpP.move rfl) ?_)
        by_cases hc211 : i_127 < ((p1_l.length : Nat) : Int)
        · rw [if_pos hc211] at h196
          refine QuietJ.guard_y rfl rfl rfl rfl (decide_eq_true hc211) ?_
          refine QuietJ.put rfl (OpQ.pure (OpP.fldAddr_lit rfl (by exact rfl)) ?_)
          refine QuietJ.guard_y rfl rfl rfl rfl (decide_eq_true hc211) ?_
          refine QuietJ.put rfl (OpQ.pure (OpP.load_blk (by exact rfl) rfl (List.Mem.head _) rfl) ?_)
          refine QuietJ.guard_y rfl rfl rfl rfl (decide_eq_true hc211) ?_
          refine QuietJ.put rfl (OpQ.pure (OpP.move rfl) ?_)
          refine QuietJ.guard_y rfl rfl rfl rfl (decide_eq_true hc211) ?_
          refine QuietJ.put rfl (OpQ.pure (OpP.move rfl) ?_)
          refine QuietJ.guard_y rfl rfl rfl rfl (decide_eq_true hc211) ?_
          obtain ⟨x212, hx213, h214⟩ := bind_ok h196
          clear h196
          have hE215 : RC _ (some ((adr A1_).add (Int.toNat i_127 * Dat.size (Int × ByteArray)))) [.int .i64 x212.1, .string x212.2] := SlR.getF (α := Int × ByteArray) hA1_ hx213
          refine QuietJ.put rfl (OpQ.pure (OpP.ixR hA1_ rfl hx213 (by exact rfl) (by exact rfl) rfl rfl) ?_)
          refine QuietJ.guard_y rfl rfl rfl rfl (decide_eq_true hc211) ?_
          refine QuietJ.put rfl (OpQ.pure (OpP.fldAddr rfl (by exact rfl)) ?_)
          refine QuietJ.guard_y rfl rfl rfl rfl (decide_eq_true hc211) ?_
          refine QuietJ.put rfl (OpQ.pure (OpP.ldR (by exact rfl) hE215 (IM.le_refl _) rfl rfl) ?_)
          refine QuietJ.guard_y rfl rfl rfl rfl (decide_eq_true hc211) ?_
          refine QuietJ.put rfl (OpQ.pure (OpP.neqS rfl rfl) ?_)
          refine QuietJ.guard_y rfl rfl rfl rfl (Bool.eq_false_iff.2 hc200) ?_
          refine QuietJ.put rfl (OpQ.pure (OpP.pick_t rfl (decide_eq_true hc211) rfl) ?_)
          refine QuietJ.put rfl (OpQ.pure (OpP.pick_f rfl (Bool.eq_false_iff.2 hc200) rfl) ?_)
          refine QuietJ.nil ?_
          by_cases hc216 : x194.2 ≠ x212.2
          · rw [if_pos hc216] at h214
            refine CodeJ.cond_t rfl (decide_eq_true hc216) ?_
            refine CodeJ.region ?_
            refine OpsJ.put rfl (OpJ.pure (OpP.buildC (cs := [.bool true, .string ByteArray.empty]) rfl (by exact rfl) (by exact rfl)) ?_)
            refine OpsJ.act (OpJ.storeC (us := [.bool true, .string ByteArray.empty]) (cs := [.bool true, .string ByteArray.empty]) rfl rfl rfl (List.Perm.refl _) (by exact rfl) rfl rfl rfl ?_)
            refine OpsJ.nil ?_
            refine CodeJ.region ?_
            refine OpsJ.put rfl (OpJ.pure (OpP.move rfl) ?_)
            refine OpsJ.put rfl (OpJ.pure (OpP.loadN_blk (by exact rfl) rfl (List.Mem.head _) (by exact rfl)) ?_)
            have hr218 : repL IM.nil [.bool true, .string ByteArray.empty] ([(true, ByteArray.empty)] : List (Bool × ByteArray)) := (repL_cons (c1 := [.bool true, .string ByteArray.empty]) (show Dat.rep _ _ (true, ByteArray.empty) from ⟨[.bool true], [.string ByteArray.empty], rfl, rfl, rfl⟩) (repL_nil _))
            refine OpsJ.put rfl (OpJ.buildSliceC (cs := [.bool true, .string ByteArray.empty]) rfl rfl (by exact rfl) (by exact rfl) (by exact rfl) (by exact rfl) (fun g217 => ?_))
            obtain ⟨q220, hq221, h222⟩ := bind_ok h214
            clear h214
            have hr225 : repL IM.nil (cs124 ++ ([.bool true, .string ByteArray.empty] : List Value)) q220 := app_rep hq221 hr125 hr218
            refine OpsJ.put rfl (OpJ.appW hq221 rfl rfl (Src.ofRow (List.Mem.head _)) hr218 (by exact rfl) (permm2 _ _ _ _) (by exact rfl) (by exact rfl) (by exact rfl) rfl rfl (fun A223 c224 => ?_))
            refine OpsJ.put rfl (OpJ.pure (OpP.assign rfl) ?_)
            refine OpsJ.nil ?_
            refine CodeJ.region ?_
            refine OpsJ.put rfl (OpJ.pure (OpP.move rfl) ?_)
            refine OpsJ.put rfl (OpJ.pure (OpP.add64 rfl rfl) ?_)
            refine OpsJ.put rfl (OpJ.pure (OpP.assign rfl) ?_)
            refine OpsJ.nil ?_
            obtain rfl := Option.some.inj h222
            exact ⟨_, _, _, _, rfl, ⟨A223, c224, (cs124 ++ ([.bool true, .string ByteArray.empty] : List Value)), hr225, rfl, rfl⟩, IM.le_refl _, (SubE.cons rfl (SubE.cons rfl (SubE.cons rfl (SubE.cons rfl (SubE.nil _))))), (SubL.p0 (SubL.nil _))⟩
          · rw [if_neg hc216] at h214
            refine CodeJ.cond_f rfl (decide_eq_false hc216) ?_
            refine CodeJ.skip ?_
            refine CodeJ.region ?_
            refine OpsJ.put rfl (OpJ.pure (OpP.move rfl) ?_)
            refine OpsJ.put rfl (OpJ.pure (OpP.loadN_blk (by exact rfl) rfl (List.Mem.head _) (by exact rfl)) ?_)
            have hr228 : repL IM.nil [.bool x194.1, .string x194.2] ([(x194.1, x194.2)] : List (Bool × ByteArray)) := (repL_cons (c1 := [.bool x194.1, .string x194.2]) (show Dat.rep _ _ (x194.1, x194.2) from ⟨[.bool x194.1], [.string x194.2], rfl, rfl, rfl⟩) (repL_nil _))
            refine OpsJ.put rfl (OpJ.buildSliceC (cs := [.bool x194.1, .string x194.2]) rfl rfl (by exact rfl) (by exact rfl) (by exact rfl) (by exact rfl) (fun g227 => ?_))
            obtain ⟨q230, hq231, h232⟩ := bind_ok h214
            clear h214
            have hr235 : repL IM.nil (cs124 ++ ([.bool x194.1, .string x194.2] : List Value)) q230 := app_rep hq231 hr125 hr228
            refine OpsJ.put rfl (OpJ.appW hq231 rfl rfl (Src.ofRow (List.Mem.head _)) hr228 (by exact rfl) (permm2 _ _ _ _) (by exact rfl) (by exact rfl) (by exact rfl) rfl rfl (fun A233 c234 => ?_))
            refine OpsJ.put rfl (OpJ.pure (OpP.assign rfl) ?_)
            refine OpsJ.nil ?_
            refine CodeJ.region ?_
            refine OpsJ.put rfl (OpJ.pure (OpP.move rfl) ?_)
            refine OpsJ.put rfl (OpJ.pure (OpP.add64 rfl rfl) ?_)
            refine OpsJ.put rfl (OpJ.pure (OpP.assign rfl) ?_)
            refine OpsJ.nil ?_
            obtain rfl := Option.some.inj h232
            exact ⟨_, _, _, _, rfl, ⟨A233, c234, (cs124 ++ ([.bool x194.1, .string x194.2] : List Value)), hr235, rfl, rfl⟩, IM.le_refl _, (SubE.cons rfl (SubE.cons rfl (SubE.cons rfl (SubE.cons rfl (SubE.nil _))))), (SubL.p0 (SubL.nil _))⟩
        · rw [if_neg hc211] at h196
          refine QuietJ.guard_n rfl rfl rfl rfl (decide_eq_false hc211) ?_
          refine QuietJ.guard_n rfl rfl rfl rfl (decide_eq_false hc211) ?_
          refine QuietJ.guard_n rfl rfl rfl rfl (decide_eq_false hc211) ?_
          refine QuietJ.guard_n rfl rfl rfl rfl (decide_eq_false hc211) ?_
          refine QuietJ.guard_n rfl rfl rfl rfl (decide_eq_false hc211) ?_
          refine QuietJ.guard_n rfl rfl rfl rfl (decide_eq_false hc211) ?_
          refine QuietJ.guard_n rfl rfl rfl rfl (decide_eq_false hc211) ?_
          refine QuietJ.guard_n rfl rfl rfl rfl (decide_eq_false hc211) ?_
          refine QuietJ.guard_y rfl rfl rfl rfl (Bool.eq_false_iff.2 hc200) ?_
          refine QuietJ.put rfl (OpQ.pure (OpP.pick_f rfl (decide_eq_false hc211) rfl) ?_)
          refine QuietJ.put rfl (OpQ.pure (OpP.pick_f rfl (Bool.eq_false_iff.2 hc200) rfl) ?_)
          refine QuietJ.nil ?_
          refine CodeJ.cond_f rfl rfl ?_
          refine CodeJ.skip ?_
          refine CodeJ.region ?_
          refine OpsJ.put rfl (OpJ.pure (OpP.move rfl) ?_)
          refine OpsJ.put rfl (OpJ.pure (OpP.loadN_blk (by exact rfl) rfl (List.Mem.head _) (by exact rfl)) ?_)
          have hr238 : repL IM.nil [.bool x194.1, .string x194.2] ([(x194.1, x194.2)] : List (Bool × ByteArray)) := (repL_cons (c1 := [.bool x194.1, .string x194.2]) (show Dat.rep _ _ (x194.1, x194.2) from ⟨[.bool x194.1], [.string x194.2], rfl, rfl, rfl⟩) (repL_nil _))
          refine OpsJ.put rfl (OpJ.buildSliceC (cs := [.bool x194.1, .string x194.2]) rfl rfl (by exact rfl) (by exact rfl) (by exact rfl) (by exact rfl) (fun g237 => ?_))
          obtain ⟨q240, hq241, h242⟩ := bind_ok h196
          clear h196
          have hr245 : repL IM.nil (cs124 ++ ([.bool x194.1, .string x194.2] : List Value)) q240 := app_rep hq241 hr125 hr238
          refine OpsJ.put rfl (OpJ.appW hq241 rfl rfl (Src.ofRow (List.Mem.head _)) hr238 (by exact rfl) (permm2 _ _ _ _) (by exact rfl) (by exact rfl) (by exact rfl) rfl rfl (fun A243 c244 => ?_))
          refine OpsJ.put rfl (OpJ.pure (OpP.assign rfl) ?_)
          refine OpsJ.nil ?_
          refine CodeJ.region ?_
          refine OpsJ.put rfl (OpJ.pure (OpP.move rfl) ?_)
          refine OpsJ.put rfl (OpJ.pure (OpP.add64 rfl rfl) ?_)
          refine OpsJ.put rfl (OpJ.pure (OpP.assign rfl) ?_)
          refine OpsJ.nil ?_
          obtain rfl := Option.some.inj h242
          exact ⟨_, _, _, _, rfl, ⟨A243, c244, (cs124 ++ ([.bool x194.1, .string x194.2] : List Value)), hr245, rfl, rfl⟩, IM.le_refl _, (SubE.cons rfl (SubE.cons rfl (SubE.cons rfl (SubE.cons rfl (SubE.nil _))))), (SubL.p0 (SubL.nil _))⟩
    · rw [if_neg hc193] at h188
      refine CodeJ.cond_f rfl (decide_eq_false hc193) ?_
      refine CodeJ.exit rfl ?_
      obtain rfl := Option.some.inj h188
      have ht247 := hne189 _ rfl
      exact ⟨_, _, _, ⟨A122, c123, cs124, m_121, ht247, hr125, rfl, rfl⟩, IM.le_refl _, (SubE.cons rfl (SubE.nil _)), (SubL.p0 (SubL.nil _))⟩
  · rintro _ _ ⟨A183, c184, cs185, m_182, rfl, hr186, rfl, rfl⟩
    (try dsimp only at h192)
    refine CodeJ.seq' ?_
    refine CodeJ.region ?_
    refine OpsJ.put rfl (OpJ.pure (OpP.move rfl) ?_)
    refine OpsJ.put rfl (OpJ.pure (OpP.assign rfl) ?_)
    refine OpsJ.nil ?_
    refine CodeJ.ret' ?_
    obtain rfl := Option.some.inj h192
    exact Ret.mk0 ⟨A183, c184, cs185, rfl, hr186, rfl⟩ (ResJ.one Try.results35 rfl) (IM.le_refl _) (SubL.p0 (SubL.nil _))
theorem winnowerlaw14_texts_w (R : IM) (A0_ : Option Addr) (n0_ c0_ : Nat) (p0_a : List ByteArray) (hA0_ : SlR R A0_ p0_a) (hn0_ : p0_a.length = n0_) (hc0_ : n0_ ≤ c0_) (A1_ : Option Addr) (n1_ c1_ : Nat) (p1_b : List ByteArray) (hA1_ : SlR R A1_ p1_b) (hn1_ : p1_b.length = n1_) (hc1_ : n1_ ≤ c1_) (y : Bool) (h : winnowerlaw14_texts p0_a p1_b = some y) :
    CallJ Try.prog 36 #[.slice A0_ n0_ c0_, .slice A1_ n1_ c1_] ⟨R, []⟩ (fun v D hs' => v = .bool y ∧ hs' = []) := by
  subst hn0_
  subst hn1_
  unfold winnowerlaw14_texts at h
  refine CallJ.of2 Try.func36 rfl Try.ntmps36 rfl (fun W0 => ?_)
  refine CodeJ.seq' ?_
  refine CodeJ.region ?_
  refine OpsJ.put rfl (OpJ.pure (OpP.assign rfl) ?_)
  refine OpsJ.nil ?_
  refine CodeJ.seq' ?_
  refine CodeJ.seq' ?_
  refine CodeJ.region ?_
  refine OpsJ.put rfl (OpJ.pure (OpP.move rfl) ?_)
  refine OpsJ.put rfl (OpJ.pure (OpP.len rfl) ?_)
  refine OpsJ.put rfl (OpJ.pure (OpP.move rfl) ?_)
  refine OpsJ.put rfl (OpJ.pure (OpP.len rfl) ?_)
  refine OpsJ.put rfl (OpJ.pure (OpP.neq rfl rfl) ?_)
  refine OpsJ.nil ?_
  by_cases hc1 : ((p0_a.length : Nat) : Int) ≠ ((p1_b.length : Nat) : Int)
  · rw [if_pos hc1] at h
    refine CodeJ.cond_t rfl (decide_eq_true hc1) ?_
    refine CodeJ.seq' ?_
    refine CodeJ.region ?_
    refine OpsJ.put rfl (OpJ.pure (OpP.assign rfl) ?_)
    refine OpsJ.nil ?_
    refine CodeJ.ret' ?_
    obtain rfl := Option.some.inj h
    exact Ret.mk0 ⟨rfl, rfl⟩ (ResJ.one Try.results36 rfl) (IM.le_refl _) (SubL.nil _)
  · rw [if_neg hc1] at h
    refine CodeJ.cond_f rfl (decide_eq_false hc1) ?_
    refine CodeJ.skip ?_
    refine CodeJ.seq' ?_
    refine CodeJ.seq' ?_
    refine CodeJ.region ?_
    refine OpsJ.put rfl (OpJ.pure (OpP.assign rfl) ?_)
    refine OpsJ.nil ?_
    obtain ⟨t38, hl39, h40⟩ := bind_ok h
    clear h
    refine CodeJ.mid (fun e s => .inr () = t38 ∧ e = [] ∧ s = ⟨R, []⟩) ?_ ?_
    · refine CodeJ.block ?_
      refine CodeJ.loopM hl39 (fun i_25 e s => e = [(0, .slice A0_ p0_a.length c0_), (1, .slice A1_ p1_b.length c1_), (5, .int .i64 i_25)] ∧ s = ⟨R, []⟩) ⟨rfl, rfl⟩ (SubE.cons rfl (SubE.cons rfl (SubE.cons rfl (SubE.nil _)))) (SubL.nil _) ?_
      rintro i_25 _ _ _ ⟨rfl, rfl⟩ h36 hne37
      (try dsimp only at h36); unfold winnowerlaw14_texts_l0 at h36
      refine CodeJ.seq' ?_
      refine CodeJ.seq' ?_
      refine CodeJ.region ?_
      refine OpsJ.put rfl (OpJ.pure (OpP.move rfl) ?_)
      refine OpsJ.put rfl (OpJ.pure (OpP.move rfl) ?_)
      refine OpsJ.put rfl (OpJ.pure (OpP.len rfl) ?_)
      refine OpsJ.put rfl (OpJ.pure (OpP.lss rfl rfl) ?_)
      refine OpsJ.nil ?_
      by_cases hc41 : i_25 < ((p0_a.length : Nat) : Int)
      · rw [if_pos hc41] at h36
        refine CodeJ.cond_t rfl (decide_eq_true hc41) ?_
        refine CodeJ.skip ?_
        refine CodeJ.seq' ?_
        refine CodeJ.block ?_
        refine CodeJ.seq' ?_
        refine CodeJ.drawn (by kernel_rfl) (by kernel_rfl) ?_
        refine QuietJ.put rfl (OpQ.pure (OpP.move rfl) ?_)
        refine QuietJ.put rfl (OpQ.pure (OpP.move rfl) ?_)
        obtain ⟨x42, hx43, h44⟩ := bind_ok h36
        clear h36
        have hE45 : RC _ (some ((adr A0_).add (Int.toNat i_25 * Dat.size ByteArray))) [.string x42] := SlR.getF (α := ByteArray) hA0_ hx43
        refine QuietJ.put rfl (OpQ.pure (OpP.ixR hA0_ rfl hx43 (by exact rfl) (by exact rfl) rfl rfl) ?_)
        refine QuietJ.put rfl (OpQ.pure (OpP.ldR0 (by exact rfl) hE45 (IM.le_refl _) rfl rfl) ?_)
        refine QuietJ.put rfl (OpQ.pure (OpP.move rfl) ?_)
        refine QuietJ.put rfl (OpQ.pure (OpP.move rfl) ?_)
        obtain ⟨x46, hx47, h48⟩ := bind_ok h44
        clear h44
        have hE49 : RC _ (some ((adr A1_).add (Int.toNat i_25 * Dat.size ByteArray))) [.string x46] := SlR.getF (α := ByteArray) hA1_ hx47
        refine QuietJ.put rfl (OpQ.pure (OpP.ixR hA1_ rfl hx47 (by exact rfl) (by exact rfl) rfl rfl) ?_)
        refine QuietJ.put rfl (OpQ.pure (OpP.ldR0 (by exact rfl) hE49 (IM.le_refl _) rfl rfl) ?_)
        refine QuietJ.put rfl (OpQ.pure (OpP.neqS rfl rfl) ?_)
        refine QuietJ.nil ?_
        by_cases hc50 : x42 ≠ x46
        · rw [if_pos hc50] at h48
          refine CodeJ.cond_t rfl (decide_eq_true hc50) ?_
          refine CodeJ.seq' ?_
          refine CodeJ.region ?_
          refine OpsJ.put rfl (OpJ.pure (OpP.assign rfl) ?_)
          refine OpsJ.nil ?_
          obtain rfl := Option.some.inj h48
          have ht51 := hne37 _ rfl
          subst ht51
          simp only [Sum.elim_inl] at h40
          refine CodeJ.ret' ?_
          obtain rfl := Option.some.inj h40
          exact Ret.mk0 ⟨rfl, rfl⟩ (ResJ.one Try.results36 rfl) (IM.le_refl _) (SubL.nil _)
        · rw [if_neg hc50] at h48
          refine CodeJ.cond_f rfl (decide_eq_false hc50) ?_
          refine CodeJ.skip ?_
          refine CodeJ.region ?_
          refine OpsJ.put rfl (OpJ.pure (OpP.move rfl) ?_)
          refine OpsJ.put rfl (OpJ.pure (OpP.add64 rfl rfl) ?_)
          refine OpsJ.put rfl (OpJ.pure (OpP.assign rfl) ?_)
          refine OpsJ.nil ?_
          obtain rfl := Option.some.inj h48
          exact ⟨_, _, _, _, rfl, ⟨rfl, rfl⟩, IM.le_refl _, (SubE.cons rfl (SubE.cons rfl (SubE.cons rfl (SubE.nil _)))), (SubL.nil _)⟩
      · rw [if_neg hc41] at h36
        refine CodeJ.cond_f rfl (decide_eq_false hc41) ?_
        refine CodeJ.exit rfl ?_
        obtain rfl := Option.some.inj h36
        have ht54 := hne37 _ rfl
        exact ⟨_, _, _, ⟨ht54, rfl, rfl⟩, IM.le_refl _, (SubE.nil _), (SubL.nil _)⟩
    · rintro _ _ ⟨rfl, rfl, rfl⟩
      simp only [Sum.elim_inr] at h40
      refine CodeJ.seq' ?_
      refine CodeJ.region ?_
      refine OpsJ.put rfl (OpJ.pure (OpP.assign rfl) ?_)
      refine OpsJ.nil ?_
      refine CodeJ.ret' ?_
      obtain rfl := Option.some.inj h40
      exact Ret.mk0 ⟨rfl, rfl⟩ (ResJ.one Try.results36 rfl) (IM.le_refl _) (SubL.nil _)
theorem part_Vars_w (R : IM) (A0_ : Option Addr) (n0_ c0_ : Nat) (p0_t : List (Bool × ByteArray)) (hA0_ : SlR R A0_ p0_t) (hn0_ : p0_t.length = n0_) (hc0_ : n0_ ≤ c0_) (A1_ : Option Addr) (n1_ c1_ : Nat) (p1_tokens : List (Int × ByteArray)) (hA1_ : SlR R A1_ p1_tokens) (hn1_ : p1_tokens.length = n1_) (hc1_ : n1_ ≤ c1_) (y : (List ByteArray)) (h : part_Vars p0_t p1_tokens = some y) :
    CallJ Try.prog 37 #[.slice A0_ n0_ c0_, .slice A1_ n1_ c1_] ⟨R, []⟩ (fun v D hs' => ∃ (B1 : Option Addr) (d2 : Nat) (ds3 : List Value), v = .slice B1 y.length d2 ∧ repL IM.nil ds3 y ∧ hs' = [.row 9 1 B1 y.length d2 ds3]) := by
  subst hn0_
  subst hn1_
  unfold part_Vars at h
  refine CallJ.of2 Try.func37 rfl Try.ntmps37 rfl (fun W0 => ?_)
  refine CodeJ.seq' ?_
  refine CodeJ.region ?_
  refine OpsJ.put rfl (OpJ.pure (OpP.assign rfl) ?_)
  refine OpsJ.nil ?_
  refine CodeJ.seq' ?_
  refine CodeJ.region ?_
  refine OpsJ.put rfl (OpJ.pure (OpP.assign rfl) ?_)
  refine OpsJ.nil ?_
  refine CodeJ.seq' ?_
  refine CodeJ.seq' ?_
  refine CodeJ.region ?_
  refine OpsJ.put rfl (OpJ.pure (OpP.move rfl) ?_)
  refine OpsJ.put rfl (OpJ.pure (OpP.len rfl) ?_)
  refine OpsJ.put rfl (OpJ.pure (OpP.move rfl) ?_)
  refine OpsJ.nil ?_
  refine CodeJ.nilrow 9 1 ?_
  obtain ⟨t94, hl95, h96⟩ := bind_ok h
  clear h
  refine CodeJ.mid (fun e s => ∃ (A87 : Option Addr) (c88 : Nat) (cs89 : List Value) (l_86 : List ByteArray), l_86 = t94 ∧ repL IM.nil cs89 l_86 ∧ e = [(5, .slice A87 l_86.length c88)] ∧ s = ⟨R, [.row 9 1 A87 l_86.length c88 cs89]⟩) ?_ ?_
  · refine CodeJ.block ?_
    refine CodeJ.loopM hl95 (fun (l_56, v62) e s => ∃ (A57 : Option Addr) (c58 : Nat) (cs59 : List Value), repL IM.nil cs59 l_56 ∧ e = [(1, .slice A1_ p1_tokens.length c1_), (5, .slice A57 l_56.length c58), (8, .slice A0_ p0_t.length c0_), (9, .int .i64 ((p0_t.length : Nat) : Int)), (10, .int .i64 v62)] ∧ s = ⟨R, [.row 9 1 A57 l_56.length c58 cs59]⟩) ⟨none, 0, ([] : List Value), (repL_nil IM.nil), rfl, rfl⟩ (SubE.cons rfl (SubE.cons rfl (SubE.cons rfl (SubE.cons rfl (SubE.cons rfl (SubE.nil _)))))) (SubL.p0 (SubL.nil _)) ?_
    rintro ⟨l_56, v62⟩ _ _ _ ⟨A57, c58, cs59, hr60, rfl, rfl⟩ h92 hne93
    (try dsimp only at h92); unfold part_Vars_l0 at h92
    refine CodeJ.seq' ?_
    refine CodeJ.region ?_
    refine OpsJ.put rfl (OpJ.pure (OpP.lss rfl rfl) ?_)
    refine OpsJ.nil ?_
    refine CodeJ.seq' ?_
    by_cases hc97 : v62 < ((p0_t.length : Nat) : Int)
    · rw [if_pos hc97] at h92
      refine CodeJ.cond_t rfl (decide_eq_true hc97) ?_
      refine CodeJ.skip ?_
      refine CodeJ.seq' ?_
      refine CodeJ.block ?_
      refine CodeJ.seq' ?_
      refine CodeJ.region ?_
      refine OpsJ.put rfl (OpJ.pure (OpP.move rfl) ?_)
      obtain ⟨x98, hx99, h100⟩ := bind_ok h92
      clear h92
      have hE101 : RC _ (some ((adr A0_).add (Int.toNat v62 * Dat.size (Bool × ByteArray)))) [.bool x98.1, .string x98.2] := SlR.getF (α := Bool × ByteArray) hA0_ hx99
      refine OpsJ.put rfl (OpJ.pure (OpP.ixR hA0_ rfl hx99 (by exact rfl) (by exact rfl) rfl rfl) ?_)
      refine OpsJ.put rfl (OpJ.pure (OpP.ldRN (by exact rfl) hE101 (IM.le_refl _) rfl (by exact rfl)) ?_)
      refine OpsJ.put rfl (OpJ.alloc (fun g102 => ?_))
      refine OpsJ.put rfl (OpJ.pure (OpP.assign rfl) ?_)
      refine OpsJ.act (OpJ.storeC (us := [.bool x98.1, .string x98.2]) (cs := [.bool x98.1, .string x98.2]) rfl rfl rfl (List.Perm.refl _) (by exact rfl) rfl rfl rfl ?_)
      refine OpsJ.nil ?_
      refine CodeJ.seq' ?_
      refine CodeJ.region ?_
      refine OpsJ.put rfl (OpJ.pure (OpP.fldAddr_lit rfl (by exact rfl)) ?_)
      refine OpsJ.put rfl (OpJ.pure (OpP.load_blk (by exact rfl) rfl (List.Mem.head _) rfl) ?_)
      refine OpsJ.put rfl (OpJ.pure (OpP.move rfl) ?_)
      by_cases hc104 : x98.1 = true
      · rw [if_pos hc104] at h100
        refine OpsJ.guard_y rfl rfl rfl rfl hc104 ?_
        refine OpsJ.put rfl (OpJ.pure (OpP.move rfl) ?_)
        refine OpsJ.guard_y rfl rfl rfl rfl hc104 ?_
        refine OpsJ.put rfl (OpJ.pure (OpP.move rfl) ?_)
        refine OpsJ.guard_y rfl rfl rfl rfl hc104 ?_
        refine OpsJ.put rfl (OpJ.pure (OpP.len rfl) ?_)
        refine OpsJ.guard_y rfl rfl rfl rfl hc104 ?_
        refine OpsJ.put rfl (OpJ.pure (OpP.lss rfl rfl) ?_)
        refine OpsJ.put rfl (OpJ.pure (OpP.pick_t rfl hc104 rfl) ?_)
        refine OpsJ.nil ?_
        by_cases hc105 : v62 < ((p1_tokens.length : Nat) : Int)
        · rw [if_pos hc105] at h100
          refine CodeJ.cond_t rfl (decide_eq_true hc105) ?_
          refine CodeJ.region ?_
          refine OpsJ.put rfl (OpJ.pure (OpP.move rfl) ?_)
          refine OpsJ.put rfl (OpJ.pure (OpP.move rfl) ?_)
          refine OpsJ.put rfl (OpJ.pure (OpP.move rfl) ?_)
          obtain ⟨x106, hx107, h108⟩ := bind_ok h100
          clear h100
          have hE109 : RC _ (some ((adr A1_).add (Int.toNat v62 * Dat.size (Int × ByteArray)))) [.int .i64 x106.1, .string x106.2] := SlR.getF (α := Int × ByteArray) hA1_ hx107
          refine OpsJ.put rfl (OpJ.pure (OpP.ixR hA1_ rfl hx107 (by exact rfl) (by exact rfl) rfl rfl) ?_)
          refine OpsJ.put rfl (OpJ.pure (OpP.fldAddr rfl (by exact rfl)) ?_)
          refine OpsJ.put rfl (OpJ.pure (OpP.ldR (by exact rfl) hE109 (IM.le_refl _) rfl rfl) ?_)
          have hr111 : repL IM.nil [.string x106.2] ([x106.2] : List ByteArray) := (repL_cons (c1 := [.string x106.2]) (show Dat.rep _ _ x106.2 from rfl) (repL_nil _))
          refine OpsJ.put rfl (OpJ.buildSliceC (cs := [.string x106.2]) rfl rfl (by exact rfl) (by exact rfl) (by exact rfl) (by exact rfl) (fun g110 => ?_))
          obtain ⟨q113, hq114, h115⟩ := bind_ok h108
          clear h108
          have hr118 : repL IM.nil (cs59 ++ ([.string x106.2] : List Value)) q113 := app_rep hq114 hr60 hr111
          refine OpsJ.put rfl (OpJ.appW hq114 rfl rfl (Src.ofRow (List.Mem.head _)) hr111 (by exact rfl) (permm2 _ _ _ _) (by exact rfl) (by exact rfl) (by exact rfl) rfl rfl (fun A116 c117 => ?_))
          refine OpsJ.put rfl (OpJ.pure (OpP.assign rfl) ?_)
          refine OpsJ.nil ?_
          refine CodeJ.region ?_
          refine OpsJ.put rfl (OpJ.pure (OpP.add64 rfl rfl) ?_)
          refine OpsJ.put rfl (OpJ.pure (OpP.move rfl) ?_)
          refine OpsJ.nil ?_
          obtain rfl := Option.some.inj h115
          exact ⟨_, _, _, _, rfl, ⟨A116, c117, (cs59 ++ ([.string x106.2] : List Value)), hr118, rfl, rfl⟩, IM.le_refl _, (SubE.cons rfl (SubE.cons rfl (SubE.cons rfl (SubE.cons rfl (SubE.cons rfl (SubE.nil _)))))), (SubL.p0 (SubL.nil _))⟩
        · rw [if_neg hc105] at h100
          refine CodeJ.cond_f rfl (decide_eq_false hc105) ?_
          refine CodeJ.skip ?_
          refine CodeJ.region ?_
          refine OpsJ.put rfl (OpJ.pure (OpP.add64 rfl rfl) ?_)
          refine OpsJ.put rfl (OpJ.pure (OpP.move rfl) ?_)
          refine OpsJ.nil ?_
          obtain rfl := Option.some.inj h100
          exact ⟨_, _, _, _, rfl, ⟨A57, c58, cs59, hr60, rfl, rfl⟩, IM.le_refl _, (SubE.cons rfl (SubE.cons rfl (SubE.cons rfl (SubE.cons rfl (SubE.cons rfl (SubE.nil _)))))), (SubL.p1 (SubL.nil _))⟩
      · rw [if_neg hc104] at h100
        refine OpsJ.guard_n rfl rfl rfl rfl (Bool.eq_false_iff.2 hc104) ?_
        refine OpsJ.guard_n rfl rfl rfl rfl (Bool.eq_false_iff.2 hc104) ?_
        refine OpsJ.guard_n rfl rfl rfl rfl (Bool.eq_false_iff.2 hc104) ?_
        refine OpsJ.guard_n rfl rfl rfl rfl (Bool.eq_false_iff.2 hc104) ?_
        refine OpsJ.put rfl (OpJ.pure (OpP.pick_f rfl (Bool.eq_false_iff.2 hc104) rfl) ?_)
        refine OpsJ.nil ?_
        refine CodeJ.cond_f rfl rfl ?_
        refine CodeJ.skip ?_
        refine CodeJ.region ?_
        refine OpsJ.put rfl (OpJ.pure (OpP.add64 rfl rfl) ?_)
        refine OpsJ.put rfl (OpJ.pure (OpP.move rfl) ?_)
        refine OpsJ.nil ?_
        obtain rfl := Option.some.inj h100
        exact ⟨_, _, _, _, rfl, ⟨A57, c58, cs59, hr60, rfl, rfl⟩, IM.le_refl _, (SubE.cons rfl (SubE.cons rfl (SubE.cons rfl (SubE.cons rfl (SubE.cons rfl (SubE.nil _)))))), (SubL.p1 (SubL.nil _))⟩
    · rw [if_neg hc97] at h92
      refine CodeJ.cond_f rfl (decide_eq_false hc97) ?_
      refine CodeJ.exit rfl ?_
      obtain rfl := Option.some.inj h92
      have ht120 := hne93 _ rfl
      exact ⟨_, _, _, ⟨A57, c58, cs59, l_56, ht120, hr60, rfl, rfl⟩, IM.le_refl _, (SubE.cons rfl (SubE.nil _)), (SubL.p0 (SubL.nil _))⟩
  · rintro _ _ ⟨A87, c88, cs89, l_86, rfl, hr90, rfl, rfl⟩
    (try dsimp only at h96)
    refine CodeJ.seq' ?_
    refine CodeJ.region ?_
    refine OpsJ.put rfl (OpJ.pure (OpP.move rfl) ?_)
    refine OpsJ.put rfl (OpJ.pure (OpP.assign rfl) ?_)
    refine OpsJ.nil ?_
    refine CodeJ.ret' ?_
    obtain rfl := Option.some.inj h96
    exact Ret.mk0 ⟨A87, c88, cs89, rfl, hr90, rfl⟩ (ResJ.one Try.results37 rfl) (IM.le_refl _) (SubL.p0 (SubL.nil _))
theorem winnowerref14_Vars_w (R : IM) (A0_ : Option Addr) (n0_ c0_ : Nat) (p0_t : List (Bool × ByteArray)) (hA0_ : SlR R A0_ p0_t) (hn0_ : p0_t.length = n0_) (hc0_ : n0_ ≤ c0_) (A1_ : Option Addr) (n1_ c1_ : Nat) (p1_l : List (Int × ByteArray)) (hA1_ : SlR R A1_ p1_l) (hn1_ : p1_l.length = n1_) (hc1_ : n1_ ≤ c1_) (y : (List ByteArray)) (h : winnowerref14_Vars p0_t p1_l = some y) :
    CallJ Try.prog 38 #[.slice A0_ n0_ c0_, .slice A1_ n1_ c1_] ⟨R, []⟩ (fun v D hs' => ∃ (B1 : Option Addr) (d2 : Nat) (ds3 : List Value), v = .slice B1 y.length d2 ∧ repL IM.nil ds3 y ∧ hs' = [.row 9 1 B1 y.length d2 ds3]) := by
  subst hn0_
  subst hn1_
  unfold winnowerref14_Vars at h
  refine CallJ.of2 Try.func38 rfl Try.ntmps38 rfl (fun W0 => ?_)
  refine CodeJ.seq' ?_
  refine CodeJ.region ?_
  refine OpsJ.put rfl (OpJ.pure (OpP.assign rfl) ?_)
  refine OpsJ.nil ?_
  refine CodeJ.seq' ?_
  refine CodeJ.region ?_
  refine OpsJ.put rfl (OpJ.pure (OpP.assign rfl) ?_)
  refine OpsJ.nil ?_
  refine CodeJ.seq' ?_
  refine CodeJ.seq' ?_
  refine CodeJ.region ?_
  refine OpsJ.put rfl (OpJ.pure (OpP.assign rfl) ?_)
  refine OpsJ.nil ?_
  refine CodeJ.nilrow 9 1 ?_
  obtain ⟨t88, hl89, h90⟩ := bind_ok h
  clear h
  refine CodeJ.mid (fun e s => ∃ (A81 : Option Addr) (c82 : Nat) (cs83 : List Value) (v_80 : List ByteArray), v_80 = t88 ∧ repL IM.nil cs83 v_80 ∧ e = [(5, .slice A81 v_80.length c82)] ∧ s = ⟨R, [.row 9 1 A81 v_80.length c82 cs83]⟩) ?_ ?_
  · refine CodeJ.block ?_
    refine CodeJ.loopM hl89 (fun (v_52, i_58) e s => ∃ (A53 : Option Addr) (c54 : Nat) (cs55 : List Value), repL IM.nil cs55 v_52 ∧ e = [(0, .slice A0_ p0_t.length c0_), (1, .slice A1_ p1_l.length c1_), (5, .slice A53 v_52.length c54), (6, .int .i64 i_58)] ∧ s = ⟨R, [.row 9 1 A53 v_52.length c54 cs55]⟩) ⟨none, 0, ([] : List Value), (repL_nil IM.nil), rfl, rfl⟩ (SubE.cons rfl (SubE.cons rfl (SubE.cons rfl (SubE.cons rfl (SubE.nil _))))) (SubL.p0 (SubL.nil _)) ?_
    rintro ⟨v_52, i_58⟩ _ _ _ ⟨A53, c54, cs55, hr56, rfl, rfl⟩ h86 hne87
    (try dsimp only at h86); unfold winnowerref14_Vars_l0 at h86
    refine CodeJ.seq' ?_
    refine CodeJ.seq' ?_
    refine CodeJ.region ?_
    refine OpsJ.put rfl (OpJ.pure (OpP.move rfl) ?_)
    refine OpsJ.put rfl (OpJ.pure (OpP.move rfl) ?_)
    refine OpsJ.put rfl (OpJ.pure (OpP.len rfl) ?_)
    refine OpsJ.put rfl (OpJ.pure (OpP.lss rfl rfl) ?_)
    refine OpsJ.put rfl (OpJ.pure (OpP.move rfl) ?_)
    by_cases hc91 : i_58 < ((p0_t.length : Nat) : Int)
    · rw [if_pos hc91] at h86
      refine OpsJ.guard_y rfl rfl rfl rfl (decide_eq_true hc91) ?_
      refine OpsJ.put rfl (OpJ.pure (OpP.move rfl) ?_)
      refine OpsJ.guard_y rfl rfl rfl rfl (decide_eq_true hc91) ?_
      refine OpsJ.put rfl (OpJ.pure (OpP.move rfl) ?_)
      refine OpsJ.guard_y rfl rfl rfl rfl (decide_eq_true hc91) ?_
      refine OpsJ.put rfl (OpJ.pure (OpP.len rfl) ?_)
      refine OpsJ.guard_y rfl rfl rfl rfl (decide_eq_true hc91) ?_
      refine OpsJ.put rfl (OpJ.pure (OpP.lss rfl rfl) ?_)
      refine OpsJ.put rfl (OpJ.pure (OpP.pick_t rfl (decide_eq_true hc91) rfl) ?_)
      refine OpsJ.nil ?_
      by_cases hc92 : i_58 < ((p1_l.length : Nat) : Int)
      · rw [if_pos hc92] at h86
        refine CodeJ.cond_t rfl (decide_eq_true hc92) ?_
        refine CodeJ.skip ?_
        refine CodeJ.seq' ?_
        refine CodeJ.block ?_
        refine CodeJ.seq' ?_
        refine CodeJ.region ?_
        refine OpsJ.put rfl (OpJ.pure (OpP.move rfl) ?_)
        refine OpsJ.put rfl (OpJ.pure (OpP.move rfl) ?_)
        obtain ⟨x93, hx94, h95⟩ := bind_ok h86
        clear h86
        have hE96 : RC _ (some ((adr A0_).add (Int.toNat i_58 * Dat.size (Bool × ByteArray)))) [.bool x93.1, .string x93.2] := SlR.getF (α := Bool × ByteArray) hA0_ hx94
        refine OpsJ.put rfl (OpJ.pure (OpP.ixR hA0_ rfl hx94 (by exact rfl) (by exact rfl) rfl rfl) ?_)
        refine OpsJ.put rfl (OpJ.pure (OpP.fldAddr rfl (by exact rfl)) ?_)
        refine OpsJ.put rfl (OpJ.pure (OpP.ldR (by exact rfl) hE96 (IM.le_refl _) rfl rfl) ?_)
        refine OpsJ.nil ?_
        by_cases hc97 : x93.1 = true
        · rw [if_pos hc97] at h95
          refine CodeJ.cond_t rfl hc97 ?_
          refine CodeJ.region ?_
          refine OpsJ.put rfl (OpJ.pure (OpP.move rfl) ?_)
          refine OpsJ.put rfl (OpJ.pure (OpP.move rfl) ?_)
          refine OpsJ.put rfl (OpJ.pure (OpP.move rfl) ?_)
          obtain ⟨x98, hx99, h100⟩ := bind_ok h95
          clear h95
          have hE101 : RC _ (some ((adr A1_).add (Int.toNat i_58 * Dat.size (Int × ByteArray)))) [.int .i64 x98.1, .string x98.2] := SlR.getF (α := Int × ByteArray) hA1_ hx99
          refine OpsJ.put rfl (OpJ.pure (OpP.ixR hA1_ rfl hx99 (by exact rfl) (by exact rfl) rfl rfl) ?_)
          refine OpsJ.put rfl (OpJ.pure (OpP.fldAddr rfl (by exact rfl)) ?_)
          refine OpsJ.put rfl (OpJ.pure (OpP.ldR (by exact rfl) hE101 (IM.le_refl _) rfl rfl) ?_)
          have hr103 : repL IM.nil [.string x98.2] ([x98.2] : List ByteArray) := (repL_cons (c1 := [.string x98.2]) (show Dat.rep _ _ x98.2 from rfl) (repL_nil _))
          refine OpsJ.put rfl (OpJ.buildSliceC (cs := [.string x98.2]) rfl rfl (by exact rfl) (by exact rfl) (by exact rfl) (by exact rfl) (fun g102 => ?_))
          obtain ⟨q105, hq106, h107⟩ := bind_ok h100
          clear h100
          have hr110 : repL IM.nil (cs55 ++ ([.string x98.2] : List Value)) q105 := app_rep hq106 hr56 hr103
          refine OpsJ.put rfl (OpJ.appW hq106 rfl rfl (Src.ofRow (List.Mem.head _)) hr103 (by exact rfl) (List.Perm.swap _ _ _) (by exact rfl) (by exact rfl) (by exact rfl) rfl rfl (fun A108 c109 => ?_))
          refine OpsJ.put rfl (OpJ.pure (OpP.assign rfl) ?_)
          refine OpsJ.nil ?_
          refine CodeJ.region ?_
          refine OpsJ.put rfl (OpJ.pure (OpP.move rfl) ?_)
          refine OpsJ.put rfl (OpJ.pure (OpP.add64 rfl rfl) ?_)
          refine OpsJ.put rfl (OpJ.pure (OpP.assign rfl) ?_)
          refine OpsJ.nil ?_
          obtain rfl := Option.some.inj h107
          exact ⟨_, _, _, _, rfl, ⟨A108, c109, (cs55 ++ ([.string x98.2] : List Value)), hr110, rfl, rfl⟩, IM.le_refl _, (SubE.cons rfl (SubE.cons rfl (SubE.cons rfl (SubE.cons rfl (SubE.nil _))))), (SubL.p0 (SubL.nil _))⟩
        · rw [if_neg hc97] at h95
          refine CodeJ.cond_f rfl (Bool.eq_false_iff.2 hc97) ?_
          refine CodeJ.skip ?_
          refine CodeJ.region ?_
          refine OpsJ.put rfl (OpJ.pure (OpP.move rfl) ?_)
          refine OpsJ.put rfl (OpJ.pure (OpP.add64 rfl rfl) ?_)
          refine OpsJ.put rfl (OpJ.pure (OpP.assign rfl) ?_)
          refine OpsJ.nil ?_
          obtain rfl := Option.some.inj h95
          exact ⟨_, _, _, _, rfl, ⟨A53, c54, cs55, hr56, rfl, rfl⟩, IM.le_refl _, (SubE.cons rfl (SubE.cons rfl (SubE.cons rfl (SubE.cons rfl (SubE.nil _))))), (SubL.p0 (SubL.nil _))⟩
      · rw [if_neg hc92] at h86
        refine CodeJ.cond_f rfl (decide_eq_false hc92) ?_
        refine CodeJ.exit rfl ?_
        obtain rfl := Option.some.inj h86
        have ht112 := hne87 _ rfl
        exact ⟨_, _, _, ⟨A53, c54, cs55, v_52, ht112, hr56, rfl, rfl⟩, IM.le_refl _, (SubE.cons rfl (SubE.nil _)), (SubL.p0 (SubL.nil _))⟩
    · rw [if_neg hc91] at h86
      refine OpsJ.guard_n rfl rfl rfl rfl (decide_eq_false hc91) ?_
      refine OpsJ.guard_n rfl rfl rfl rfl (decide_eq_false hc91) ?_
      refine OpsJ.guard_n rfl rfl rfl rfl (decide_eq_false hc91) ?_
      refine OpsJ.guard_n rfl rfl rfl rfl (decide_eq_false hc91) ?_
      refine OpsJ.put rfl (OpJ.pure (OpP.pick_f rfl (decide_eq_false hc91) rfl) ?_)
      refine OpsJ.nil ?_
      refine CodeJ.cond_f rfl rfl ?_
      refine CodeJ.exit rfl ?_
      obtain rfl := Option.some.inj h86
      have ht113 := hne87 _ rfl
      exact ⟨_, _, _, ⟨A53, c54, cs55, v_52, ht113, hr56, rfl, rfl⟩, IM.le_refl _, (SubE.cons rfl (SubE.nil _)), (SubL.p0 (SubL.nil _))⟩
  · rintro _ _ ⟨A81, c82, cs83, v_80, rfl, hr84, rfl, rfl⟩
    (try dsimp only at h90)
    refine CodeJ.seq' ?_
    refine CodeJ.region ?_
    refine OpsJ.put rfl (OpJ.pure (OpP.move rfl) ?_)
    refine OpsJ.put rfl (OpJ.pure (OpP.assign rfl) ?_)
    refine OpsJ.nil ?_
    refine CodeJ.ret' ?_
    obtain rfl := Option.some.inj h90
    exact Ret.mk0 ⟨A81, c82, cs83, rfl, hr84, rfl⟩ (ResJ.one Try.results38 rfl) (IM.le_refl _) (SubL.p0 (SubL.nil _))
theorem winnowerref14_Wild_w (R : IM) (A0_ : Option Addr) (n0_ c0_ : Nat) (p0_t : List (Bool × ByteArray)) (hA0_ : SlR R A0_ p0_t) (hn0_ : p0_t.length = n0_) (hc0_ : n0_ ≤ c0_) (y : Int) (h : winnowerref14_Wild p0_t = some y) :
    CallJ Try.prog 39 #[.slice A0_ n0_ c0_] ⟨R, []⟩ (fun v D hs' => v = .int .i64 y ∧ hs' = []) := by
  subst hn0_
  unfold winnowerref14_Wild at h
  refine CallJ.of1 Try.func39 rfl Try.ntmps39 rfl (fun W0 => ?_)
  refine CodeJ.seq' ?_
  refine CodeJ.region ?_
  refine OpsJ.put rfl (OpJ.pure (OpP.assign rfl) ?_)
  refine OpsJ.nil ?_
  refine CodeJ.seq' ?_
  refine CodeJ.region ?_
  refine OpsJ.put rfl (OpJ.pure (OpP.assign rfl) ?_)
  refine OpsJ.nil ?_
  refine CodeJ.seq' ?_
  refine CodeJ.seq' ?_
  refine CodeJ.region ?_
  refine OpsJ.put rfl (OpJ.pure (OpP.assign rfl) ?_)
  refine OpsJ.nil ?_
  obtain ⟨t26, hl27, h28⟩ := bind_ok h
  clear h
  refine CodeJ.mid (fun e s => ∃ (n_23 : Int), n_23 = t26 ∧ e = [(3, .int .i64 n_23)] ∧ s = ⟨R, []⟩) ?_ ?_
  · refine CodeJ.block ?_
    refine CodeJ.loopM hl27 (fun (n_15, i_16) e s => e = [(0, .slice A0_ p0_t.length c0_), (3, .int .i64 n_15), (4, .int .i64 i_16)] ∧ s = ⟨R, []⟩) ⟨rfl, rfl⟩ (SubE.cons rfl (SubE.cons rfl (SubE.cons rfl (SubE.nil _)))) (SubL.nil _) ?_
    rintro ⟨n_15, i_16⟩ _ _ _ ⟨rfl, rfl⟩ h24 hne25
    (try dsimp only at h24); unfold winnowerref14_Wild_l0 at h24
    refine CodeJ.seq' ?_
    refine CodeJ.seq' ?_
    refine CodeJ.region ?_
    refine OpsJ.put rfl (OpJ.pure (OpP.move rfl) ?_)
    refine OpsJ.put rfl (OpJ.pure (OpP.move rfl) ?_)
    refine OpsJ.put rfl (OpJ.pure (OpP.len rfl) ?_)
    refine OpsJ.put rfl (OpJ.pure (OpP.lss rfl rfl) ?_)
    refine OpsJ.nil ?_
    by_cases hc29 : i_16 < ((p0_t.length : Nat) : Int)
    · rw [if_pos hc29] at h24
      refine CodeJ.cond_t rfl (decide_eq_true hc29) ?_
      refine CodeJ.skip ?_
      refine CodeJ.seq' ?_
      refine CodeJ.block ?_
      refine CodeJ.seq' ?_
      refine CodeJ.region ?_
      refine OpsJ.put rfl (OpJ.pure (OpP.move rfl) ?_)
      refine OpsJ.put rfl (OpJ.pure (OpP.move rfl) ?_)
      obtain ⟨x30, hx31, h32⟩ := bind_ok h24
      clear h24
      have hE33 : RC _ (some ((adr A0_).add (Int.toNat i_16 * Dat.size (Bool × ByteArray)))) [.bool x30.1, .string x30.2] := SlR.getF (α := Bool × ByteArray) hA0_ hx31
      refine OpsJ.put rfl (OpJ.pure (OpP.ixR hA0_ rfl hx31 (by exact rfl) (by exact rfl) rfl rfl) ?_)
      refine OpsJ.put rfl (OpJ.pure (OpP.fldAddr rfl (by exact rfl)) ?_)
      refine OpsJ.put rfl (OpJ.pure (OpP.ldR (by exact rfl) hE33 (IM.le_refl _) rfl rfl) ?_)
      refine OpsJ.nil ?_
      by_cases hc34 : x30.1 = true
      · rw [if_pos hc34] at h32
        refine CodeJ.cond_t rfl hc34 ?_
        refine CodeJ.region ?_
        refine OpsJ.put rfl (OpJ.pure (OpP.move rfl) ?_)
        refine OpsJ.put rfl (OpJ.pure (OpP.add64 rfl rfl) ?_)
        refine OpsJ.put rfl (OpJ.pure (OpP.assign rfl) ?_)
        refine OpsJ.nil ?_
        refine CodeJ.region ?_
        refine OpsJ.put rfl (OpJ.pure (OpP.move rfl) ?_)
        refine OpsJ.put rfl (OpJ.pure (OpP.add64 rfl rfl) ?_)
        refine OpsJ.put rfl (OpJ.pure (OpP.assign rfl) ?_)
        refine OpsJ.nil ?_
        obtain rfl := Option.some.inj h32
        exact ⟨_, _, _, _, rfl, ⟨rfl, rfl⟩, IM.le_refl _, (SubE.cons rfl (SubE.cons rfl (SubE.cons rfl (SubE.nil _)))), (SubL.nil _)⟩
      · rw [if_neg hc34] at h32
        refine CodeJ.cond_f rfl (Bool.eq_false_iff.2 hc34) ?_
        refine CodeJ.skip ?_
        refine CodeJ.region ?_
        refine OpsJ.put rfl (OpJ.pure (OpP.move rfl) ?_)
        refine OpsJ.put rfl (OpJ.pure (OpP.add64 rfl rfl) ?_)
        refine OpsJ.put rfl (OpJ.pure (OpP.assign rfl) ?_)
        refine OpsJ.nil ?_
        obtain rfl := Option.some.inj h32
        exact ⟨_, _, _, _, rfl, ⟨rfl, rfl⟩, IM.le_refl _, (SubE.cons rfl (SubE.cons rfl (SubE.cons rfl (SubE.nil _)))), (SubL.nil _)⟩
    · rw [if_neg hc29] at h24
      refine CodeJ.cond_f rfl (decide_eq_false hc29) ?_
      refine CodeJ.exit rfl ?_
      obtain rfl := Option.some.inj h24
      have ht35 := hne25 _ rfl
      exact ⟨_, _, _, ⟨n_15, ht35, rfl, rfl⟩, IM.le_refl _, (SubE.cons rfl (SubE.nil _)), (SubL.nil _)⟩
  · rintro _ _ ⟨n_23, rfl, rfl, rfl⟩
    (try dsimp only at h28)
    refine CodeJ.seq' ?_
    refine CodeJ.region ?_
    refine OpsJ.put rfl (OpJ.pure (OpP.move rfl) ?_)
    refine OpsJ.put rfl (OpJ.pure (OpP.assign rfl) ?_)
    refine OpsJ.nil ?_
    refine CodeJ.ret' ?_
    obtain rfl := Option.some.inj h28
    exact Ret.mk0 ⟨rfl, rfl⟩ (ResJ.one Try.results39 rfl) (IM.le_refl _) (SubL.nil _)
theorem winnowerref13_Join_w (R : IM) (A0_ : Option Addr) (n0_ c0_ : Nat) (p0_l : List (Int × ByteArray)) (hA0_ : SlR R A0_ p0_l) (hn0_ : p0_l.length = n0_) (hc0_ : n0_ ≤ c0_) (y : ByteArray) (h : winnowerref13_Join p0_l = some y) :
    CallJ Try.prog 41 #[.slice A0_ n0_ c0_] ⟨R, []⟩ (fun v D hs' => v = .string y ∧ hs' = []) := by
  subst hn0_
  unfold winnowerref13_Join at h
  refine CallJ.of1 Try.func41 rfl Try.ntmps41 rfl (fun W0 => ?_)
  refine CodeJ.seq' ?_
  refine CodeJ.region ?_
  refine OpsJ.put rfl (OpJ.pure (OpP.assign rfl) ?_)
  refine OpsJ.nil ?_
  refine CodeJ.seq' ?_
  refine CodeJ.region ?_
  refine OpsJ.put rfl (OpJ.pure (OpP.assign rfl) ?_)
  refine OpsJ.nil ?_
  refine CodeJ.seq' ?_
  refine CodeJ.seq' ?_
  refine CodeJ.region ?_
  refine OpsJ.put rfl (OpJ.pure (OpP.assign rfl) ?_)
  refine OpsJ.nil ?_
  obtain ⟨t32, hl33, h34⟩ := bind_ok h
  clear h
  refine CodeJ.mid (fun e s => ∃ (s_29 : ByteArray), s_29 = t32 ∧ e = [(3, .string s_29)] ∧ s = ⟨R, []⟩) ?_ ?_
  · refine CodeJ.block ?_
    refine CodeJ.loopM hl33 (fun (s_19, i_20) e s => e = [(0, .slice A0_ p0_l.length c0_), (3, .string s_19), (4, .int .i64 i_20)] ∧ s = ⟨R, []⟩) ⟨rfl, rfl⟩ (SubE.cons rfl (SubE.cons rfl (SubE.cons rfl (SubE.nil _)))) (SubL.nil _) ?_
    rintro ⟨s_19, i_20⟩ _ _ _ ⟨rfl, rfl⟩ h30 hne31
    (try dsimp only at h30); unfold winnowerref13_Join_l0 at h30
    refine CodeJ.seq' ?_
    refine CodeJ.seq' ?_
    refine CodeJ.region ?_
    refine OpsJ.put rfl (OpJ.pure (OpP.move rfl) ?_)
    refine OpsJ.put rfl (OpJ.pure (OpP.move rfl) ?_)
    refine OpsJ.put rfl (OpJ.pure (OpP.len rfl) ?_)
    refine OpsJ.put rfl (OpJ.pure (OpP.lss rfl rfl) ?_)
    refine OpsJ.nil ?_
    by_cases hc35 : i_20 < ((p0_l.length : Nat) : Int)
    · rw [if_pos hc35] at h30
      refine CodeJ.cond_t rfl (decide_eq_true hc35) ?_
      refine CodeJ.skip ?_
      refine CodeJ.seq' ?_
      refine CodeJ.block ?_
      refine CodeJ.region ?_
      refine OpsJ.put rfl (OpJ.pure (OpP.move rfl) ?_)
      refine OpsJ.put rfl (OpJ.pure (OpP.move rfl) ?_)
      refine OpsJ.put rfl (OpJ.pure (OpP.move rfl) ?_)
      obtain ⟨x36, hx37, h38⟩ := bind_ok h30
      clear h30
      have hE39 : RC _ (some ((adr A0_).add (Int.toNat i_20 * Dat.size (Int × ByteArray)))) [.int .i64 x36.1, .string x36.2] := SlR.getF (α := Int × ByteArray) hA0_ hx37
      refine OpsJ.put rfl (OpJ.pure (OpP.ixR hA0_ rfl hx37 (by exact rfl) (by exact rfl) rfl rfl) ?_)
      refine OpsJ.put rfl (OpJ.pure (OpP.fldAddr rfl (by exact rfl)) ?_)
      refine OpsJ.put rfl (OpJ.pure (OpP.ldR (by exact rfl) hE39 (IM.le_refl _) rfl rfl) ?_)
      obtain ⟨q40, hq41, h42⟩ := bind_ok h38
      clear h38
      refine OpsJ.put rfl (OpJ.pure (OpP.catS hq41 rfl rfl) ?_)
      refine OpsJ.put rfl (OpJ.pure (OpP.assign rfl) ?_)
      refine OpsJ.nil ?_
      refine CodeJ.region ?_
      refine OpsJ.put rfl (OpJ.pure (OpP.move rfl) ?_)
      refine OpsJ.put rfl (OpJ.pure (OpP.add64 rfl rfl) ?_)
      refine OpsJ.put rfl (OpJ.pure (OpP.assign rfl) ?_)
      refine OpsJ.nil ?_
      obtain rfl := Option.some.inj h42
      exact ⟨_, _, _, _, rfl, ⟨rfl, rfl⟩, IM.le_refl _, (SubE.cons rfl (SubE.cons rfl (SubE.cons rfl (SubE.nil _)))), (SubL.nil _)⟩
    · rw [if_neg hc35] at h30
      refine CodeJ.cond_f rfl (decide_eq_false hc35) ?_
      refine CodeJ.exit rfl ?_
      obtain rfl := Option.some.inj h30
      have ht43 := hne31 _ rfl
      exact ⟨_, _, _, ⟨s_19, ht43, rfl, rfl⟩, IM.le_refl _, (SubE.cons rfl (SubE.nil _)), (SubL.nil _)⟩
  · rintro _ _ ⟨s_29, rfl, rfl, rfl⟩
    (try dsimp only at h34)
    refine CodeJ.seq' ?_
    refine CodeJ.region ?_
    refine OpsJ.put rfl (OpJ.pure (OpP.move rfl) ?_)
    refine OpsJ.put rfl (OpJ.pure (OpP.assign rfl) ?_)
    refine OpsJ.nil ?_
    refine CodeJ.ret' ?_
    obtain rfl := Option.some.inj h34
    exact Ret.mk0 ⟨rfl, rfl⟩ (ResJ.one Try.results41 rfl) (IM.le_refl _) (SubL.nil _)
theorem slices_Clone_Part_w (R : IM) (A0_ : Option Addr) (n0_ c0_ : Nat) (p0 : List (Bool × ByteArray)) (hA0_ : SlR R A0_ p0) (hn0_ : p0.length = n0_) (hc0_ : n0_ ≤ c0_) (y : List (Bool × ByteArray)) (h : slices_Clone_Part p0 = some y) :
    CallJ Try.prog 42 #[.slice A0_ n0_ c0_] ⟨R, []⟩ (fun v D hs' => ∃ (A0 : Option Addr) (c0 : Nat) (cs0 : List Value), v = .slice A0 y.length c0 ∧ repL IM.nil cs0 y ∧ hs' = [.row 41 2 A0 y.length c0 cs0]) := by
  subst hn0_
  unfold slices_Clone_Part at h
  refine CallJ.of1 Try.func42 rfl Try.ntmps42 rfl (fun W0 => ?_)
  refine CodeJ.seq' ?_
  refine CodeJ.region ?_
  refine OpsJ.put rfl (OpJ.pure (OpP.assign rfl) ?_)
  refine OpsJ.nil ?_
  refine CodeJ.seq' ?_
  refine CodeJ.seq' ?_
  refine CodeJ.region ?_
  refine OpsJ.put rfl (OpJ.pure (OpP.move rfl) ?_)
  refine OpsJ.put rfl (OpJ.pure (OpP.eql_nil_slice rfl rfl) ?_)
  refine OpsJ.nil ?_
  cases A0_ with
  | none =>
    have hp : p0 = [] := SlR.none_nil hA0_ (by exact rfl)
    subst hp
    obtain ⟨_, rfl⟩ := app?_ok h
    refine CodeJ.cond_t rfl rfl ?_
    refine CodeJ.seq' ?_
    refine CodeJ.region ?_
    refine OpsJ.put rfl (OpJ.pure (OpP.assign rfl) ?_)
    refine OpsJ.nil ?_
    refine CodeJ.nilrow 41 2 ?_
    refine CodeJ.ret' ?_
    exact Ret.mk0 ⟨none, 0, [], rfl, repL_nil _, rfl⟩ (ResJ.one Try.results42 rfl) (IM.le_refl _) (SubL.p0 (SubL.nil _))
  | some a0 =>
    refine CodeJ.cond_f rfl rfl ?_
    refine CodeJ.skip ?_
    refine CodeJ.seq' ?_
    refine CodeJ.region ?_
    refine OpsJ.put rfl (OpJ.buildSliceC (cs := []) rfl rfl (by exact rfl) (by exact rfl) (by exact rfl) (by exact rfl) (fun g => ?_))
    refine OpsJ.put rfl (OpJ.pure (OpP.move rfl) ?_)
    obtain ⟨es, hs, hp⟩ := SlR.out hA0_
    have hr : repL IM.nil ([] ++ es) y := app_rep h (repL_nil _) (flat_rep hp)
    refine OpsJ.put rfl (OpJ.appW h rfl rfl (Src.ofR hs) hp (by exact rfl) (List.Perm.refl _) (by exact rfl) (by exact rfl) (by exact rfl) rfl rfl (fun A2 c2 => ?_))
    refine OpsJ.put rfl (OpJ.pure (OpP.assign rfl) ?_)
    refine OpsJ.nil ?_
    refine CodeJ.ret' ?_
    exact Ret.mk0 ⟨A2, c2, _, rfl, hr, rfl⟩ (ResJ.one Try.results42 rfl) (IM.le_refl _) (SubL.p0 (SubL.nil _))
theorem part_is_w (R : IM) (p0_p : Bool × ByteArray) (p1_x : Int × ByteArray) (y : Bool) (h : part_is p0_p p1_x = some y) :
    CallJ Try.prog 43 #[.agg ([.bool p0_p.1, .string p0_p.2] : List Value).toArray, .agg ([.int .i64 p1_x.1, .string p1_x.2] : List Value).toArray] ⟨R, []⟩ (fun v D hs' => v = .bool y ∧ hs' = []) := by
  unfold part_is at h
  refine CallJ.of2 Try.func43 rfl Try.ntmps43 rfl (fun W0 => ?_)
  refine CodeJ.seq' ?_
  refine CodeJ.region ?_
  refine OpsJ.put rfl (OpJ.box (us := [.bool p0_p.1, .string p0_p.2]) rfl (by exact rfl) (fun g1 => ?_))
  refine OpsJ.put rfl (OpJ.box (us := [.int .i64 p1_x.1, .string p1_x.2]) rfl (by exact rfl) (fun g3 => ?_))
  refine OpsJ.put rfl (OpJ.pure (OpP.assign rfl) ?_)
  refine OpsJ.nil ?_
  refine CodeJ.seq' ?_
  refine CodeJ.region ?_
  refine OpsJ.put rfl (OpJ.pure (OpP.fldAddr_lit rfl (by exact rfl)) ?_)
  refine OpsJ.put rfl (OpJ.pure (OpP.load_blk (by exact rfl) rfl (List.Mem.tail _ (List.Mem.head _)) rfl) ?_)
  refine OpsJ.put rfl (OpJ.pure (OpP.move rfl) ?_)
  by_cases hc5 : p0_p.1 = true
  · rw [if_pos hc5] at h
    refine OpsJ.guard_n rfl rfl rfl rfl hc5 ?_
    refine OpsJ.guard_n rfl rfl rfl rfl hc5 ?_
    refine OpsJ.guard_n rfl rfl rfl rfl hc5 ?_
    refine OpsJ.guard_n rfl rfl rfl rfl hc5 ?_
    refine OpsJ.guard_n rfl rfl rfl rfl hc5 ?_
    refine OpsJ.put rfl (OpJ.pure (OpP.pick_t rfl hc5 rfl) ?_)
    refine OpsJ.put rfl (OpJ.pure (OpP.assign rfl) ?_)
    refine OpsJ.nil ?_
    refine CodeJ.ret' ?_
    obtain rfl := Option.some.inj h
    exact Ret.mk0 ⟨rfl, rfl⟩ (ResJ.one Try.results43 rfl) (IM.le_refl _) (SubL.nil _)
  · rw [if_neg hc5] at h
    refine OpsJ.guard_y rfl rfl rfl rfl (Bool.eq_false_iff.2 hc5) ?_
    refine OpsJ.put rfl (OpJ.pure (OpP.fldAddr_lit rfl (by exact rfl)) ?_)
    refine OpsJ.guard_y rfl rfl rfl rfl (Bool.eq_false_iff.2 hc5) ?_
    refine OpsJ.put rfl (OpJ.pure (OpP.load_blk (by exact rfl) rfl (List.Mem.tail _ (List.Mem.head _)) rfl) ?_)
    refine OpsJ.guard_y rfl rfl rfl rfl (Bool.eq_false_iff.2 hc5) ?_
    refine OpsJ.put rfl (OpJ.pure (OpP.fldAddr_lit rfl (by exact rfl)) ?_)
    refine OpsJ.guard_y rfl rfl rfl rfl (Bool.eq_false_iff.2 hc5) ?_
    refine OpsJ.put rfl (OpJ.pure (OpP.load_blk (by exact rfl) rfl (List.Mem.head _) rfl) ?_)
    refine OpsJ.guard_y rfl rfl rfl rfl (Bool.eq_false_iff.2 hc5) ?_
    refine OpsJ.put rfl (OpJ.pure (OpP.eql_string rfl rfl) ?_)
    refine OpsJ.put rfl (OpJ.pure (OpP.pick_f rfl (Bool.eq_false_iff.2 hc5) rfl) ?_)
    refine OpsJ.put rfl (OpJ.pure (OpP.assign rfl) ?_)
    refine OpsJ.nil ?_
    refine CodeJ.ret' ?_
    obtain rfl := Option.some.inj h
    exact Ret.mk0 ⟨rfl, rfl⟩ (ResJ.one Try.results43 rfl) (IM.le_refl _) (SubL.nil _)
theorem strings_Builder_String_w (R : IM) (g0_ : Nat) (p0_b : List UInt8) (q0_1_ : Option Addr) (hq0_2_ : (q0_1_ = none ∨ q0_1_ = some ⟨g0_, 0, none⟩)) (A0_3_ : Option Addr) (c0_4_ : Nat) (cs0_5_ : List Value) (hr0_6_ : repL IM.nil cs0_5_ p0_b) (y : ByteArray) (h : strings_Builder_String p0_b = some y) :
    CallJ Try.prog 47 #[.pointer (some ⟨g0_, 0, none⟩)] ⟨R, [.blk g0_ [.pointer q0_1_, .slice A0_3_ p0_b.length c0_4_] 78, .row 5 1 A0_3_ p0_b.length c0_4_ cs0_5_]⟩ (fun v D hs' => v = .string y ∧ hs' = []) := by
  unfold strings_Builder_String at h
  refine CallJ.of1 Try.func47 rfl Try.ntmps47 rfl (fun W0 => ?_)
  refine CodeJ.seq' ?_
  refine CodeJ.region ?_
  refine OpsJ.put rfl (OpJ.pure (OpP.assign rfl) ?_)
  refine OpsJ.nil ?_
  refine CodeJ.seq' ?_
  refine HoldJ.start [.blk g0_ [.pointer q0_1_, .slice A0_3_ p0_b.length c0_4_] 78] (by kernel_rfl) ?_
  refine HoldJ.take 0 rfl (by kernel_rfl) rfl (OpP.move rfl) ⟨(IM.le_refl _), (SubL.p0 (SubL.nil _))⟩ ?_
  refine HoldJ.take 1 rfl (by kernel_rfl) rfl (OpP.nilCheck rfl) ⟨(IM.le_refl _), (SubL.p0 (SubL.nil _))⟩ ?_
  refine HoldJ.take 2 rfl (by kernel_rfl) rfl (OpP.fldAddr_lit rfl (by exact rfl)) ⟨(IM.le_refl _), (SubL.p0 (SubL.nil _))⟩ ?_
  refine HoldJ.take 3 rfl (by kernel_rfl) rfl (OpP.load_blk (by exact rfl) rfl (List.Mem.head _) rfl) ⟨(IM.le_refl _), (SubL.p0 (SubL.nil _))⟩ ?_
  refine HoldJ.take 5 rfl (by kernel_rfl) rfl (OpP.move rfl) ⟨(IM.le_refl _), (SubL.p0 (SubL.nil _))⟩ ?_
  refine HoldJ.take 6 rfl (by kernel_rfl) rfl (OpP.nilCheck rfl) ⟨(IM.le_refl _), (SubL.p0 (SubL.nil _))⟩ ?_
  refine HoldJ.take 7 rfl (by kernel_rfl) rfl (OpP.fldAddr_lit rfl (by exact rfl)) ⟨(IM.le_refl _), (SubL.p0 (SubL.nil _))⟩ ?_
  refine HoldJ.take 8 rfl (by kernel_rfl) rfl (OpP.load_blk (by exact rfl) rfl (List.Mem.head _) rfl) ⟨(IM.le_refl _), (SubL.p0 (SubL.nil _))⟩ ?_
  refine HoldJ.take 9 rfl (by kernel_rfl) rfl (OpP.len rfl) ⟨(IM.le_refl _), (SubL.p0 (SubL.nil _))⟩ ?_
  refine HoldJ.step 4 rfl (by kernel_rfl) rfl (OpJ.usd Try.underlying87 (List.Mem.tail _ (List.Mem.head _)) rfl (fun p7 hp8 => ?_))
  refine ⟨⟨(IM.le_refl _), (SubL.p0 (SubL.nil _))⟩, ?_⟩
  refine HoldJ.step 10 rfl (by kernel_rfl) rfl (OpJ.ustr Try.underlying87 hr0_6_ rfl hp8 (List.Perm.swap _ _ _) rfl rfl ?_)
  refine ⟨⟨(IM.le_refl _), (SubL.p0 (SubL.nil _))⟩, ?_⟩
  refine HoldJ.take 11 rfl (by kernel_rfl) rfl (OpP.assign rfl) ⟨(IM.le_refl _), (SubL.p0 (SubL.nil _))⟩ ?_
  refine HoldJ.fin (by kernel_rfl) ?_
  refine CodeJ.ret' ?_
  obtain rfl := Option.some.inj h
  exact Ret.mk0 ⟨rfl, rfl⟩ (ResJ.one Try.results47 rfl) (IM.le_refl _) (SubL.nil _)
theorem part_isAny_w (R : IM) (p0_kind : Int) (y : Bool) (h : part_isAny p0_kind = some y) :
    CallJ Try.prog 48 #[.int .i64 p0_kind] ⟨R, []⟩ (fun v D hs' => v = .bool y ∧ hs' = []) := by
  unfold part_isAny at h
  refine CallJ.of1 Try.func48 rfl Try.ntmps48 rfl (fun W0 => ?_)
  refine CodeJ.seq' ?_
  refine CodeJ.region ?_
  refine OpsJ.put rfl (OpJ.pure (OpP.assign rfl) ?_)
  refine OpsJ.nil ?_
  refine CodeJ.seq' ?_
  refine CodeJ.seq' ?_
  refine CodeJ.region ?_
  refine OpsJ.put rfl (OpJ.pure (OpP.move rfl) ?_)
  refine OpsJ.nil ?_
  refine CodeJ.block ?_
  refine CodeJ.seq' ?_
  refine CodeJ.seq' ?_
  refine CodeJ.region ?_
  refine OpsJ.put rfl (OpJ.pure (OpP.eql rfl rfl) ?_)
  refine OpsJ.put rfl (OpJ.pure (OpP.assign rfl) ?_)
  refine OpsJ.nil ?_
  by_cases hc1 : p0_kind = 0
  · rw [if_pos hc1] at h
    refine CodeJ.cond_t rfl (decide_eq_true hc1) ?_
    refine CodeJ.skip ?_
    refine CodeJ.cond_t rfl (decide_eq_true hc1) ?_
    refine CodeJ.seq' ?_
    refine CodeJ.region ?_
    refine OpsJ.put rfl (OpJ.pure (OpP.assign rfl) ?_)
    refine OpsJ.nil ?_
    refine CodeJ.ret' ?_
    obtain rfl := Option.some.inj h
    exact Ret.mk0 ⟨rfl, rfl⟩ (ResJ.one Try.results48 rfl) (IM.le_refl _) (SubL.nil _)
  · rw [if_neg hc1] at h
    refine CodeJ.cond_f rfl (decide_eq_false hc1) ?_
    refine CodeJ.seq' ?_
    refine CodeJ.region ?_
    refine OpsJ.put rfl (OpJ.pure (OpP.eql rfl rfl) ?_)
    refine OpsJ.put rfl (OpJ.pure (OpP.assign rfl) ?_)
    refine OpsJ.nil ?_
    by_cases hc4 : p0_kind = 1
    · rw [if_pos hc4] at h
      refine CodeJ.cond_t rfl (decide_eq_true hc4) ?_
      refine CodeJ.skip ?_
      refine CodeJ.cond_t rfl (decide_eq_true hc4) ?_
      refine CodeJ.seq' ?_
      refine CodeJ.region ?_
      refine OpsJ.put rfl (OpJ.pure (OpP.assign rfl) ?_)
      refine OpsJ.nil ?_
      refine CodeJ.ret' ?_
      obtain rfl := Option.some.inj h
      exact Ret.mk0 ⟨rfl, rfl⟩ (ResJ.one Try.results48 rfl) (IM.le_refl _) (SubL.nil _)
    · rw [if_neg hc4] at h
      refine CodeJ.cond_f rfl (decide_eq_false hc4) ?_
      refine CodeJ.seq' ?_
      refine CodeJ.region ?_
      refine OpsJ.put rfl (OpJ.pure (OpP.eql rfl rfl) ?_)
      refine OpsJ.put rfl (OpJ.pure (OpP.assign rfl) ?_)
      refine OpsJ.nil ?_
      by_cases hc7 : p0_kind = 2
      · rw [if_pos hc7] at h
        refine CodeJ.cond_t rfl (decide_eq_true hc7) ?_
        refine CodeJ.skip ?_
        refine CodeJ.cond_t rfl (decide_eq_true hc7) ?_
        refine CodeJ.seq' ?_
        refine CodeJ.region ?_
        refine OpsJ.put rfl (OpJ.pure (OpP.assign rfl) ?_)
        refine OpsJ.nil ?_
        refine CodeJ.ret' ?_
        obtain rfl := Option.some.inj h
        exact Ret.mk0 ⟨rfl, rfl⟩ (ResJ.one Try.results48 rfl) (IM.le_refl _) (SubL.nil _)
      · rw [if_neg hc7] at h
        refine CodeJ.cond_f rfl (decide_eq_false hc7) ?_
        refine CodeJ.seq' ?_
        refine CodeJ.region ?_
        refine OpsJ.put rfl (OpJ.pure (OpP.eql rfl rfl) ?_)
        refine OpsJ.put rfl (OpJ.pure (OpP.assign rfl) ?_)
        refine OpsJ.nil ?_
        by_cases hc10 : p0_kind = 3
        · rw [if_pos hc10] at h
          refine CodeJ.cond_t rfl (decide_eq_true hc10) ?_
          refine CodeJ.skip ?_
          refine CodeJ.cond_t rfl (decide_eq_true hc10) ?_
          refine CodeJ.seq' ?_
          refine CodeJ.region ?_
          refine OpsJ.put rfl (OpJ.pure (OpP.assign rfl) ?_)
          refine OpsJ.nil ?_
          refine CodeJ.ret' ?_
          obtain rfl := Option.some.inj h
          exact Ret.mk0 ⟨rfl, rfl⟩ (ResJ.one Try.results48 rfl) (IM.le_refl _) (SubL.nil _)
        · rw [if_neg hc10] at h
          refine CodeJ.cond_f rfl (decide_eq_false hc10) ?_
          refine CodeJ.seq' ?_
          refine CodeJ.region ?_
          refine OpsJ.put rfl (OpJ.pure (OpP.eql rfl rfl) ?_)
          refine OpsJ.put rfl (OpJ.pure (OpP.assign rfl) ?_)
          refine OpsJ.nil ?_
          by_cases hc13 : p0_kind = 4
          · rw [if_pos hc13] at h
            refine CodeJ.cond_t rfl (decide_eq_true hc13) ?_
            refine CodeJ.skip ?_
            refine CodeJ.cond_t rfl (decide_eq_true hc13) ?_
            refine CodeJ.seq' ?_
            refine CodeJ.region ?_
            refine OpsJ.put rfl (OpJ.pure (OpP.assign rfl) ?_)
            refine OpsJ.nil ?_
            refine CodeJ.ret' ?_
            obtain rfl := Option.some.inj h
            exact Ret.mk0 ⟨rfl, rfl⟩ (ResJ.one Try.results48 rfl) (IM.le_refl _) (SubL.nil _)
          · rw [if_neg hc13] at h
            refine CodeJ.cond_f rfl (decide_eq_false hc13) ?_
            refine CodeJ.region ?_
            refine OpsJ.put rfl (OpJ.pure (OpP.eql rfl rfl) ?_)
            refine OpsJ.put rfl (OpJ.pure (OpP.assign rfl) ?_)
            refine OpsJ.nil ?_
            by_cases hc16 : p0_kind = 5
            · rw [if_pos hc16] at h
              refine CodeJ.cond_t rfl (decide_eq_true hc16) ?_
              refine CodeJ.seq' ?_
              refine CodeJ.region ?_
              refine OpsJ.put rfl (OpJ.pure (OpP.assign rfl) ?_)
              refine OpsJ.nil ?_
              refine CodeJ.ret' ?_
              obtain rfl := Option.some.inj h
              exact Ret.mk0 ⟨rfl, rfl⟩ (ResJ.one Try.results48 rfl) (IM.le_refl _) (SubL.nil _)
            · rw [if_neg hc16] at h
              refine CodeJ.cond_f rfl (decide_eq_false hc16) ?_
              refine CodeJ.skip ?_
              refine CodeJ.seq' ?_
              refine CodeJ.region ?_
              refine OpsJ.put rfl (OpJ.pure (OpP.assign rfl) ?_)
              refine OpsJ.nil ?_
              refine CodeJ.ret' ?_
              obtain rfl := Option.some.inj h
              exact Ret.mk0 ⟨rfl, rfl⟩ (ResJ.one Try.results48 rfl) (IM.le_refl _) (SubL.nil _)
theorem winnowerref14_Varies_w (R : IM) (p0_kind : Int) (y : Bool) (h : winnowerref14_Varies p0_kind = some y) :
    CallJ Try.prog 49 #[.int .i64 p0_kind] ⟨R, []⟩ (fun v D hs' => v = .bool y ∧ hs' = []) := by
  unfold winnowerref14_Varies at h
  refine CallJ.of1 Try.func49 rfl Try.ntmps49 rfl (fun W0 => ?_)
  refine CodeJ.seq' ?_
  refine CodeJ.region ?_
  refine OpsJ.put rfl (OpJ.pure (OpP.assign rfl) ?_)
  refine OpsJ.nil ?_
  refine CodeJ.seq' ?_
  refine CodeJ.region ?_
  refine OpsJ.put rfl (OpJ.pure (OpP.move rfl) ?_)
  refine OpsJ.put rfl (OpJ.pure (OpP.geq rfl rfl) ?_)
  refine OpsJ.put rfl (OpJ.pure (OpP.move rfl) ?_)
  by_cases hc1 : p0_kind ≥ 0
  · rw [if_pos hc1] at h
    refine OpsJ.guard_y rfl rfl rfl rfl (decide_eq_true hc1) ?_
    refine OpsJ.put rfl (OpJ.pure (OpP.move rfl) ?_)
    refine OpsJ.guard_y rfl rfl rfl rfl (decide_eq_true hc1) ?_
    refine OpsJ.put rfl (OpJ.pure (OpP.leq rfl rfl) ?_)
    refine OpsJ.put rfl (OpJ.pure (OpP.pick_t rfl (decide_eq_true hc1) rfl) ?_)
    refine OpsJ.put rfl (OpJ.pure (OpP.assign rfl) ?_)
    refine OpsJ.nil ?_
    refine CodeJ.ret' ?_
    obtain rfl := Option.some.inj h
    exact Ret.mk0 ⟨rfl, rfl⟩ (ResJ.one Try.results49 rfl) (IM.le_refl _) (SubL.nil _)
  · rw [if_neg hc1] at h
    refine OpsJ.guard_n rfl rfl rfl rfl (decide_eq_false hc1) ?_
    refine OpsJ.guard_n rfl rfl rfl rfl (decide_eq_false hc1) ?_
    refine OpsJ.put rfl (OpJ.pure (OpP.pick_f rfl (decide_eq_false hc1) rfl) ?_)
    refine OpsJ.put rfl (OpJ.pure (OpP.assign rfl) ?_)
    refine OpsJ.nil ?_
    refine CodeJ.ret' ?_
    obtain rfl := Option.some.inj h
    exact Ret.mk0 ⟨rfl, rfl⟩ (ResJ.one Try.results49 rfl) (IM.le_refl _) (SubL.nil _)
theorem slices_Equal_Part_w (R : IM) (A0_ : Option Addr) (n0_ c0_ : Nat) (p0_s1 : List (Bool × ByteArray)) (hA0_ : SlR R A0_ p0_s1) (hn0_ : p0_s1.length = n0_) (hc0_ : n0_ ≤ c0_) (A1_ : Option Addr) (n1_ c1_ : Nat) (p1_s2 : List (Bool × ByteArray)) (hA1_ : SlR R A1_ p1_s2) (hn1_ : p1_s2.length = n1_) (hc1_ : n1_ ≤ c1_) (y : Bool) (h : slices_Equal_Part p0_s1 p1_s2 = some y) :
    CallJ Try.prog 50 #[.slice A0_ n0_ c0_, .slice A1_ n1_ c1_] ⟨R, []⟩ (fun v D hs' => v = .bool y ∧ hs' = []) := by
  subst hn0_
  subst hn1_
  unfold slices_Equal_Part at h
  refine CallJ.of2 Try.func50 rfl Try.ntmps50 rfl (fun W0 => ?_)
  refine CodeJ.seq' ?_
  refine CodeJ.region ?_
  refine OpsJ.put rfl (OpJ.pure (OpP.assign rfl) ?_)
  refine OpsJ.nil ?_
  refine CodeJ.seq' ?_
  refine CodeJ.seq' ?_
  refine CodeJ.region ?_
  refine OpsJ.put rfl (OpJ.pure (OpP.move rfl) ?_)
  refine OpsJ.put rfl (OpJ.pure (OpP.len rfl) ?_)
  refine OpsJ.put rfl (OpJ.pure (OpP.move rfl) ?_)
  refine OpsJ.put rfl (OpJ.pure (OpP.len rfl) ?_)
  refine OpsJ.put rfl (OpJ.pure (OpP.neq rfl rfl) ?_)
  refine OpsJ.nil ?_
  by_cases hc1 : ((p0_s1.length : Nat) : Int) ≠ ((p1_s2.length : Nat) : Int)
  · rw [if_pos hc1] at h
    refine CodeJ.cond_t rfl (decide_eq_true hc1) ?_
    refine CodeJ.seq' ?_
    refine CodeJ.region ?_
    refine OpsJ.put rfl (OpJ.pure (OpP.assign rfl) ?_)
    refine OpsJ.nil ?_
    refine CodeJ.ret' ?_
    obtain rfl := Option.some.inj h
    exact Ret.mk0 ⟨rfl, rfl⟩ (ResJ.one Try.results50 rfl) (IM.le_refl _) (SubL.nil _)
  · rw [if_neg hc1] at h
    refine CodeJ.cond_f rfl (decide_eq_false hc1) ?_
    refine CodeJ.skip ?_
    refine CodeJ.seq' ?_
    refine CodeJ.seq' ?_
    refine CodeJ.region ?_
    refine OpsJ.put rfl (OpJ.pure (OpP.move rfl) ?_)
    refine OpsJ.put rfl (OpJ.pure (OpP.len rfl) ?_)
    refine OpsJ.put rfl (OpJ.pure (OpP.move rfl) ?_)
    refine OpsJ.nil ?_
    obtain ⟨t38, hl39, h40⟩ := bind_ok h
    clear h
    refine CodeJ.mid (fun e s => .inr () = t38 ∧ e = [] ∧ s = ⟨R, []⟩) ?_ ?_
    · refine CodeJ.block ?_
      refine CodeJ.loopM hl39 (fun v25 e s => e = [(0, .slice A0_ p0_s1.length c0_), (1, .slice A1_ p1_s2.length c1_), (12, .int .i64 ((p0_s1.length : Nat) : Int)), (13, .int .i64 v25)] ∧ s = ⟨R, []⟩) ⟨rfl, rfl⟩ (SubE.cons rfl (SubE.cons rfl (SubE.cons rfl (SubE.cons rfl (SubE.nil _))))) (SubL.nil _) ?_
      rintro v25 _ _ _ ⟨rfl, rfl⟩ h36 hne37
      (try dsimp only at h36); unfold slices_Equal_Part_l0 at h36
      refine CodeJ.seq' ?_
      refine CodeJ.region ?_
      refine OpsJ.put rfl (OpJ.pure (OpP.lss rfl rfl) ?_)
      refine OpsJ.nil ?_
      refine CodeJ.seq' ?_
      by_cases hc41 : v25 < ((p0_s1.length : Nat) : Int)
      · rw [if_pos hc41] at h36
        refine CodeJ.cond_t rfl (decide_eq_true hc41) ?_
        refine CodeJ.skip ?_
        refine CodeJ.seq' ?_
        refine CodeJ.block ?_
        refine CodeJ.seq' ?_
        refine CodeJ.region ?_
        refine OpsJ.put rfl (OpJ.pure (OpP.move rfl) ?_)
        refine OpsJ.put rfl (OpJ.pure (OpP.assign rfl) ?_)
        refine OpsJ.nil ?_
        refine CodeJ.seq' ?_
        refine CodeJ.drawn (by kernel_rfl) (by kernel_rfl) ?_
        refine QuietJ.put rfl (OpQ.pure (OpP.move rfl) ?_)
        refine QuietJ.put rfl (OpQ.pure (OpP.move rfl) ?_)
        obtain ⟨x42, hx43, h44⟩ := bind_ok h36
        clear h36
        have hE45 : RC _ (some ((adr A0_).add (Int.toNat v25 * Dat.size (Bool × ByteArray)))) [.bool x42.1, .string x42.2] := SlR.getF (α := Bool × ByteArray) hA0_ hx43
        refine QuietJ.put rfl (OpQ.pure (OpP.ixR hA0_ rfl hx43 (by exact rfl) (by exact rfl) rfl rfl) ?_)
        refine QuietJ.put rfl (OpQ.pure (OpP.ldRN (by exact rfl) hE45 (IM.le_refl _) rfl (by exact rfl)) ?_)
        refine QuietJ.put rfl (OpQ.pure (OpP.move rfl) ?_)
        refine QuietJ.put rfl (OpQ.pure (OpP.move rfl) ?_)
        obtain ⟨x46, hx47, h48⟩ := bind_ok h44
        clear h44
        have hE49 : RC _ (some ((adr A1_).add (Int.toNat v25 * Dat.size (Bool × ByteArray)))) [.bool x46.1, .string x46.2] := SlR.getF (α := Bool × ByteArray) hA1_ hx47
        refine QuietJ.put rfl (OpQ.pure (OpP.ixR hA1_ rfl hx47 (by exact rfl) (by exact rfl) rfl rfl) ?_)
        refine QuietJ.put rfl (OpQ.pure (OpP.ldRN (by exact rfl) hE49 (IM.le_refl _) rfl (by exact rfl)) ?_)
        refine QuietJ.put rfl (OpQ.pure (OpP.neqA (x42.1, x42.2) (x46.1, x46.2) rfl rfl) ?_)
        refine QuietJ.nil ?_
        by_cases hc50 : (x42.1, x42.2) ≠ (x46.1, x46.2)
        · rw [if_pos hc50] at h48
          refine CodeJ.cond_t rfl (decide_eq_true hc50) ?_
          refine CodeJ.seq' ?_
          refine CodeJ.region ?_
          refine OpsJ.put rfl (OpJ.pure (OpP.assign rfl) ?_)
          refine OpsJ.nil ?_
          obtain rfl := Option.some.inj h48
          have ht51 := hne37 _ rfl
          subst ht51
          simp only [Sum.elim_inl] at h40
          refine CodeJ.ret' ?_
          obtain rfl := Option.some.inj h40
          exact Ret.mk0 ⟨rfl, rfl⟩ (ResJ.one Try.results50 rfl) (IM.le_refl _) (SubL.nil _)
        · rw [if_neg hc50] at h48
          refine CodeJ.cond_f rfl (decide_eq_false hc50) ?_
          refine CodeJ.skip ?_
          refine CodeJ.region ?_
          refine OpsJ.put rfl (OpJ.pure (OpP.add64 rfl rfl) ?_)
          refine OpsJ.put rfl (OpJ.pure (OpP.move rfl) ?_)
          refine OpsJ.nil ?_
          obtain rfl := Option.some.inj h48
          exact ⟨_, _, _, _, rfl, ⟨rfl, rfl⟩, IM.le_refl _, (SubE.cons rfl (SubE.cons rfl (SubE.cons rfl (SubE.cons rfl (SubE.nil _))))), (SubL.nil _)⟩
      · rw [if_neg hc41] at h36
        refine CodeJ.cond_f rfl (decide_eq_false hc41) ?_
        refine CodeJ.exit rfl ?_
        obtain rfl := Option.some.inj h36
        have ht54 := hne37 _ rfl
        exact ⟨_, _, _, ⟨ht54, rfl, rfl⟩, IM.le_refl _, (SubE.nil _), (SubL.nil _)⟩
    · rintro _ _ ⟨rfl, rfl, rfl⟩
      simp only [Sum.elim_inr] at h40
      refine CodeJ.seq' ?_
      refine CodeJ.region ?_
      refine OpsJ.put rfl (OpJ.pure (OpP.assign rfl) ?_)
      refine OpsJ.nil ?_
      refine CodeJ.ret' ?_
      obtain rfl := Option.some.inj h40
      exact Ret.mk0 ⟨rfl, rfl⟩ (ResJ.one Try.results50 rfl) (IM.le_refl _) (SubL.nil _)
theorem strings_Builder_copyCheck_w (R : IM) (g0_ : Nat) (p0_b : List UInt8) (q0_1_ : Option Addr) (hq0_2_ : (q0_1_ = none ∨ q0_1_ = some ⟨g0_, 0, none⟩)) (A0_3_ : Option Addr) (c0_4_ : Nat) (cs0_5_ : List Value) (hr0_6_ : repL IM.nil cs0_5_ p0_b) (y : (List UInt8)) (h : strings_Builder_copyCheck p0_b = some y) :
    CallJ Try.prog 52 #[.pointer (some ⟨g0_, 0, none⟩)] ⟨R, [.blk g0_ [.pointer q0_1_, .slice A0_3_ p0_b.length c0_4_] 78, .row 5 1 A0_3_ p0_b.length c0_4_ cs0_5_]⟩ (fun v D hs' => ∃ (qq1 : Option Addr) (B3 : Option Addr) (d4 : Nat) (ds5 : List Value), v = .tuple #[] ∧ (qq1 = none ∨ qq1 = some ⟨g0_, 0, none⟩) ∧ repL IM.nil ds5 y ∧ hs' = [.blk g0_ [.pointer qq1, .slice B3 y.length d4] 78, .row 5 1 B3 y.length d4 ds5]) := by
  unfold strings_Builder_copyCheck at h
  refine CallJ.of1 Try.func52 rfl Try.ntmps52 rfl (fun W0 => ?_)
  refine CodeJ.tail ?_
  refine CodeJ.seq' ?_
  refine CodeJ.region ?_
  refine OpsJ.put rfl (OpJ.pure (OpP.move rfl) ?_)
  refine OpsJ.put rfl (OpJ.pure (OpP.nilCheck rfl) ?_)
  refine OpsJ.put rfl (OpJ.pure (OpP.fldAddr_lit rfl (by exact rfl)) ?_)
  refine OpsJ.put rfl (OpJ.pure (OpP.load_blk (by exact rfl) rfl (List.Mem.head _) rfl) ?_)
  rcases hq0_2_ with rfl | rfl
  · refine OpsJ.put rfl (OpJ.pure (OpP.eql_nil rfl rfl) ?_)
    refine OpsJ.nil ?_
    refine CodeJ.cond_t rfl rfl ?_
    refine CodeJ.region ?_
    refine OpsJ.put rfl (OpJ.pure (OpP.move rfl) ?_)
    refine OpsJ.put rfl (OpJ.pure (OpP.move rfl) ?_)
    refine OpsJ.put rfl (OpJ.pure (OpP.toUns Try.underlying75 Try.underlying88 rfl (List.Mem.head _) rfl rfl) ?_)
    refine OpsJ.put rfl (OpJ.pure (OpP.noEscape Try.func53 (by kernel_rfl) (by kernel_rfl) (by kernel_rfl) (by kernel_rfl) rfl) ?_)
    refine OpsJ.put rfl (OpJ.pure (OpP.fromUns Try.underlying88 Try.underlying75 (List.Mem.head _) (by kernel_rfl) rfl) ?_)
    refine OpsJ.put rfl (OpJ.pure (OpP.nilCheck rfl) ?_)
    refine OpsJ.put rfl (OpJ.pure (OpP.fldAddr_lit rfl (by exact rfl)) ?_)
    refine OpsJ.act (OpJ.storeC (us := [.pointer (some ⟨g0_, 0, none⟩)]) (cs := [.pointer (some ⟨g0_, 0, none⟩), .slice A0_3_ p0_b.length c0_4_]) rfl rfl rfl (List.Perm.refl _) (by exact rfl) rfl rfl rfl ?_)
    refine OpsJ.nil ?_
    refine FinJ.ret' ?_
    obtain rfl := Option.some.inj h
    exact Ret.mk0 ⟨(some ⟨g0_, 0, none⟩), A0_3_, c0_4_, cs0_5_, rfl, (.inr rfl), hr0_6_, rfl⟩ (ResJ.none Try.results52) (IM.le_refl _) (SubL.p0 (SubL.p0 (SubL.nil _)))
  · refine OpsJ.put rfl (OpJ.pure (OpP.eql_nil rfl rfl) ?_)
    refine OpsJ.nil ?_
    refine CodeJ.cond_f rfl rfl ?_
    refine CodeJ.seq' ?_
    refine CodeJ.region ?_
    refine OpsJ.put rfl (OpJ.pure (OpP.move rfl) ?_)
    refine OpsJ.put rfl (OpJ.pure (OpP.nilCheck rfl) ?_)
    refine OpsJ.put rfl (OpJ.pure (OpP.fldAddr_lit rfl (by exact rfl)) ?_)
    refine OpsJ.put rfl (OpJ.pure (OpP.load_blk (by exact rfl) rfl (List.Mem.head _) rfl) ?_)
    refine OpsJ.put rfl (OpJ.pure (OpP.move rfl) ?_)
    refine OpsJ.put rfl (OpJ.pure (OpP.neq_same rfl rfl) ?_)
    refine OpsJ.nil ?_
    refine CodeJ.cond_f rfl rfl ?_
    refine CodeJ.skip ?_
    refine FinJ.ret' ?_
    obtain rfl := Option.some.inj h
    exact Ret.mk0 ⟨(some ⟨g0_, 0, none⟩), A0_3_, c0_4_, cs0_5_, rfl, (.inr rfl), hr0_6_, rfl⟩ (ResJ.none Try.results52) (IM.le_refl _) (SubL.p0 (SubL.p0 (SubL.nil _)))
theorem part_Merge_w (R : IM) (A0_ : Option Addr) (n0_ c0_ : Nat) (p0_t : List (Bool × ByteArray)) (hA0_ : SlR R A0_ p0_t) (hn0_ : p0_t.length = n0_) (hc0_ : n0_ ≤ c0_) (A1_ : Option Addr) (n1_ c1_ : Nat) (p1_tokens : List (Int × ByteArray)) (hA1_ : SlR R A1_ p1_tokens) (hn1_ : p1_tokens.length = n1_) (hc1_ : n1_ ≤ c1_) (y : (List (Bool × ByteArray))) (h : part_Merge p0_t p1_tokens = some y) :
    CallJ Try.prog 19 #[.slice A0_ n0_ c0_, .slice A1_ n1_ c1_] ⟨R, []⟩ (fun v D hs' => ∃ (B1 : Option Addr) (d2 : Nat) (ds3 : List Value), v = .slice B1 y.length d2 ∧ repL IM.nil ds3 y ∧ hs' = [.row 41 2 B1 y.length d2 ds3]) := by
  subst hn0_
  subst hn1_
  unfold part_Merge at h
  refine CallJ.of2 Try.func19 rfl Try.ntmps19 rfl (fun W0 => ?_)
  refine CodeJ.seq' ?_
  refine CodeJ.region ?_
  refine OpsJ.put rfl (OpJ.pure (OpP.assign rfl) ?_)
  refine OpsJ.nil ?_
  refine CodeJ.seq' ?_
  refine CodeJ.region ?_
  refine OpsJ.put rfl (OpJ.pure (OpP.move rfl) ?_)
  obtain ⟨y4, hy5, h6⟩ := bind_ok h
  clear h
  refine OpsJ.put rfl (OpJ.callP Split.nil rfl (fun R1 hle2 hin3 => slices_Clone_Part_w R1 A0_ p0_t.length c0_ p0_t (SlR.mono hA0_ (IM.le_trans (IM.le_refl _) hle2)) rfl hc0_  _ hy5) ?_)
  rintro _ _ _ ⟨A7, c8, cs9, rfl, hr10, rfl⟩
  refine OpsJ.put rfl (OpJ.pure (OpP.assign rfl) ?_)
  refine OpsJ.nil ?_
  refine CodeJ.seq' ?_
  refine CodeJ.seq' ?_
  refine CodeJ.region ?_
  refine OpsJ.put rfl (OpJ.pure (OpP.move rfl) ?_)
  refine OpsJ.put rfl (OpJ.pure (OpP.len rfl) ?_)
  refine OpsJ.put rfl (OpJ.pure (OpP.move rfl) ?_)
  refine OpsJ.nil ?_
  obtain ⟨t154, hl155, h156⟩ := bind_ok h6
  clear h6
  refine CodeJ.mid (fun e s => ∃ (cs149 : List Value) (l148 : List (Bool × ByteArray)), l148 = t154 ∧ repL IM.nil cs149 l148 ∧ l148.length = y4.length ∧ e = [(5, .slice A7 y4.length c8)] ∧ s = ⟨R, [.row 41 2 A7 y4.length c8 cs149]⟩) ?_ ?_
  · refine CodeJ.block ?_
    refine CodeJ.loopM hl155 (fun (v101, l102) e s => ∃ (cs103 : List Value), repL IM.nil cs103 l102 ∧ l102.length = y4.length ∧ e = [(1, .slice A1_ p1_tokens.length c1_), (5, .slice A7 y4.length c8), (10, .slice A7 y4.length c8), (11, .int .i64 ((y4.length : Nat) : Int)), (12, .int .i64 v101)] ∧ s = ⟨R, [.row 41 2 A7 y4.length c8 cs103]⟩) ⟨cs9, hr10, rfl, rfl, rfl⟩ (SubE.cons rfl (SubE.cons rfl (SubE.cons rfl (SubE.cons rfl (SubE.cons rfl (SubE.nil _)))))) (SubL.p0 (SubL.nil _)) ?_
    rintro ⟨v101, l102⟩ _ _ _ ⟨cs103, hr104, hn105, rfl, rfl⟩ h152 hne153
    (try dsimp only at h152); unfold part_Merge_l0 at h152
    refine CodeJ.seq' ?_
    refine CodeJ.region ?_
    refine OpsJ.put rfl (OpJ.pure (OpP.lss rfl rfl) ?_)
    refine OpsJ.nil ?_
    refine CodeJ.seq' ?_
    by_cases hc157 : v101 < ((y4.length : Nat) : Int)
    · rw [if_pos hc157] at h152
      refine CodeJ.cond_t rfl (decide_eq_true hc157) ?_
      refine CodeJ.skip ?_
      refine CodeJ.seq' ?_
      refine CodeJ.block ?_
      refine CodeJ.seq' ?_
      refine CodeJ.region ?_
      refine OpsJ.put rfl (OpJ.pure (OpP.move rfl) ?_)
      obtain ⟨x158, hx159, h160⟩ := bind_ok h152
      clear h152
      have hE161 : ∀ j v, ([.bool x158.1, .string x158.2] : List Value)[j]? = some v → (cs103)[Int.toNat v101 * Dat.size (Bool × ByteArray) + j]? = some v := row_getF (α := Bool × ByteArray) hr104 hx159
      refine OpsJ.put rfl (OpJ.pure (OpP.ixW (List.Mem.head _) hr104 hn105 hx159 (by exact rfl) (by exact rfl) rfl rfl) ?_)
      refine OpsJ.put rfl (OpJ.pure (OpP.ldWN (by exact rfl) (List.Mem.head _) hE161 rfl (by exact rfl)) ?_)
      refine OpsJ.put rfl (OpJ.alloc (fun g162 => ?_))
      refine OpsJ.put rfl (OpJ.pure (OpP.assign rfl) ?_)
      refine OpsJ.act (OpJ.storeC (us := [.bool x158.1, .string x158.2]) (cs := [.bool x158.1, .string x158.2]) rfl rfl rfl (List.Perm.refl _) (by exact rfl) rfl rfl rfl ?_)
      refine OpsJ.nil ?_
      refine CodeJ.seq' ?_
      refine HoldJ.start [.blk g162 [.bool x158.1, .string x158.2] 41, .row 41 2 A7 y4.length c8 cs103] (by kernel_rfl) ?_
      refine HoldJ.take 0 rfl (by kernel_rfl) rfl (OpP.fldAddr_lit rfl (by exact rfl)) ⟨(IM.le_refl _), (SubL.p0 (SubL.p0 (SubL.nil _)))⟩ ?_
      refine HoldJ.take 1 rfl (by kernel_rfl) rfl (OpP.load_blk (by exact rfl) rfl (List.Mem.head _) rfl) ⟨(IM.le_refl _), (SubL.p0 (SubL.p0 (SubL.nil _)))⟩ ?_
      refine HoldJ.take 2 rfl (by kernel_rfl) rfl (OpP.move rfl) ⟨(IM.le_refl _), (SubL.p0 (SubL.p0 (SubL.nil _)))⟩ ?_
      by_cases hc176 : x158.1 = true
      · rw [if_pos hc176] at h160
        refine HoldJ.take_n 3 rfl (by kernel_rfl) rfl rfl rfl rfl hc176 ⟨(IM.le_refl _), (SubL.p0 (SubL.p0 (SubL.nil _)))⟩ ?_
        refine HoldJ.take_n 4 rfl (by kernel_rfl) rfl rfl rfl rfl hc176 ⟨(IM.le_refl _), (SubL.p0 (SubL.p0 (SubL.nil _)))⟩ ?_
        refine HoldJ.take_n 5 rfl (by kernel_rfl) rfl rfl rfl rfl hc176 ⟨(IM.le_refl _), (SubL.p0 (SubL.p0 (SubL.nil _)))⟩ ?_
        refine HoldJ.take_n 6 rfl (by kernel_rfl) rfl rfl rfl rfl hc176 ⟨(IM.le_refl _), (SubL.p0 (SubL.p0 (SubL.nil _)))⟩ ?_
        refine HoldJ.take_n 7 rfl (by kernel_rfl) rfl rfl rfl rfl hc176 ⟨(IM.le_refl _), (SubL.p0 (SubL.p0 (SubL.nil _)))⟩ ?_
        refine HoldJ.take_u 8 rfl (by kernel_rfl) rfl rfl rfl rfl ⟨(IM.le_refl _), (SubL.p0 (SubL.p0 (SubL.nil _)))⟩ ?_
        refine HoldJ.take_u 9 rfl (by kernel_rfl) rfl rfl rfl rfl ⟨(IM.le_refl _), (SubL.p0 (SubL.p0 (SubL.nil _)))⟩ ?_
        refine HoldJ.take_u 10 rfl (by kernel_rfl) rfl rfl rfl rfl ⟨(IM.le_refl _), (SubL.p0 (SubL.p0 (SubL.nil _)))⟩ ?_
        refine HoldJ.take_u 11 rfl (by kernel_rfl) rfl rfl rfl rfl ⟨(IM.le_refl _), (SubL.p0 (SubL.p0 (SubL.nil _)))⟩ ?_
        refine HoldJ.take_u 12 rfl (by kernel_rfl) rfl rfl rfl rfl ⟨(IM.le_refl _), (SubL.p0 (SubL.p0 (SubL.nil _)))⟩ ?_
        refine HoldJ.take_u 13 rfl (by kernel_rfl) rfl rfl rfl rfl ⟨(IM.le_refl _), (SubL.p0 (SubL.p0 (SubL.nil _)))⟩ ?_
        refine HoldJ.take_u 14 rfl (by kernel_rfl) rfl rfl rfl rfl ⟨(IM.le_refl _), (SubL.p0 (SubL.p0 (SubL.nil _)))⟩ ?_
        refine HoldJ.take_n 15 rfl (by kernel_rfl) rfl rfl rfl rfl hc176 ⟨(IM.le_refl _), (SubL.p0 (SubL.p0 (SubL.nil _)))⟩ ?_
        refine HoldJ.take 16 rfl (by kernel_rfl) rfl (OpP.pick_t rfl hc176 rfl) ⟨(IM.le_refl _), (SubL.p0 (SubL.p0 (SubL.nil _)))⟩ ?_
        refine HoldJ.fin (by kernel_rfl) ?_
        refine CodeJ.cond_t rfl rfl ?_
        refine CodeJ.region ?_
        refine OpsJ.put rfl (OpJ.pure (OpP.move rfl) ?_)
        refine OpsJ.put rfl (OpJ.pure (OpP.move rfl) ?_)
        refine OpsJ.put rfl (OpJ.pure (OpP.buildC (cs := [.bool true, .string ByteArray.empty]) rfl (by exact rfl) (by exact rfl)) ?_)
        have hE177 : ∀ j v, ([.bool x158.1, .string x158.2] : List Value)[j]? = some v → (cs103)[Int.toNat v101 * Dat.size (Bool × ByteArray) + j]? = some v := row_getF (α := Bool × ByteArray) hr104 hx159
        refine OpsJ.put rfl (OpJ.pure (OpP.ixW (List.Mem.tail _ (List.Mem.head _)) hr104 hn105 hx159 (by exact rfl) (by exact rfl) rfl rfl) ?_)
        obtain ⟨q178, hq179, h181⟩ := bind_ok h160
        clear h160
        have hr180 : repL IM.nil (lsplice cs103 (Int.toNat v101 * Dat.size (Bool × ByteArray)) [.bool true, .string ByteArray.empty]) q178 := set_rep hq179 hr104 (show Dat.rep IM.nil [.bool true, .string ByteArray.empty] (true, ByteArray.empty) from ⟨[.bool true], [.string ByteArray.empty], rfl, rfl, rfl⟩)
        refine OpsJ.act (OpJ.stW hq179 hr104 (show Dat.rep IM.nil [.bool true, .string ByteArray.empty] (true, ByteArray.empty) from ⟨[.bool true], [.string ByteArray.empty], rfl, rfl, rfl⟩) (by exact rfl) (by exact rfl) rfl (List.Perm.swap _ _ _) rfl rfl ?_)
        refine OpsJ.nil ?_
        refine CodeJ.region ?_
        refine OpsJ.put rfl (OpJ.pure (OpP.add64 rfl rfl) ?_)
        refine OpsJ.put rfl (OpJ.pure (OpP.move rfl) ?_)
        refine OpsJ.nil ?_
        obtain rfl := Option.some.inj h181
        exact ⟨_, _, _, _, rfl, ⟨(lsplice cs103 (Int.toNat v101 * Dat.size (Bool × ByteArray)) [.bool true, .string ByteArray.empty]), hr180, (set_len hq179 hn105), rfl, rfl⟩, IM.le_refl _, (SubE.cons rfl (SubE.cons rfl (SubE.cons rfl (SubE.cons rfl (SubE.cons rfl (SubE.nil _)))))), (SubL.p0 (SubL.nil _))⟩
      · rw [if_neg hc176] at h160
        refine HoldJ.take_y 3 rfl (by kernel_rfl) rfl rfl rfl rfl (Bool.eq_false_iff.2 hc176) (OpP.move rfl) ⟨(IM.le_refl _), (SubL.p0 (SubL.p0 (SubL.nil _)))⟩ ?_
        refine HoldJ.take_y 4 rfl (by kernel_rfl) rfl rfl rfl rfl (Bool.eq_false_iff.2 hc176) (OpP.move rfl) ⟨(IM.le_refl _), (SubL.p0 (SubL.p0 (SubL.nil _)))⟩ ?_
        refine HoldJ.take_y 5 rfl (by kernel_rfl) rfl rfl rfl rfl (Bool.eq_false_iff.2 hc176) (OpP.len rfl) ⟨(IM.le_refl _), (SubL.p0 (SubL.p0 (SubL.nil _)))⟩ ?_
        refine HoldJ.take_y 6 rfl (by kernel_rfl) rfl rfl rfl rfl (Bool.eq_false_iff.2 hc176) (OpP.lss rfl rfl) ⟨(IM.le_refl _), (SubL.p0 (SubL.p0 (SubL.nil _)))⟩ ?_
        refine HoldJ.take_y 7 rfl (by kernel_rfl) rfl rfl rfl rfl (Bool.eq_false_iff.2 hc176) (OpP.move rfl) ⟨(IM.le_refl _), (SubL.p0 (SubL.p0 (SubL.nil _)))⟩ ?_
        by_cases hc182 : v101 < ((p1_tokens.length : Nat) : Int)
        · rw [if_pos hc182] at h160
          refine HoldJ.take_y 8 rfl (by kernel_rfl) rfl rfl rfl rfl (decide_eq_true hc182) (OpP.loadN_blk (by exact rfl) rfl (List.Mem.head _) (by exact rfl)) ⟨(IM.le_refl _), (SubL.p0 (SubL.p0 (SubL.nil _)))⟩ ?_
          refine HoldJ.take_y 9 rfl (by kernel_rfl) rfl rfl rfl rfl (decide_eq_true hc182) (OpP.move rfl) ⟨(IM.le_refl _), (SubL.p0 (SubL.p0 (SubL.nil _)))⟩ ?_
          refine HoldJ.take_y 10 rfl (by kernel_rfl) rfl rfl rfl rfl (decide_eq_true hc182) (OpP.move rfl) ⟨(IM.le_refl _), (SubL.p0 (SubL.p0 (SubL.nil _)))⟩ ?_
          obtain ⟨x183, hx184, h185⟩ := bind_ok h160
          clear h160
          have hE186 : RC _ (some ((adr A1_).add (Int.toNat v101 * Dat.size (Int × ByteArray)))) [.int .i64 x183.1, .string x183.2] := SlR.getF (α := Int × ByteArray) hA1_ hx184
          refine HoldJ.take_y 11 rfl (by kernel_rfl) rfl rfl rfl rfl (decide_eq_true hc182) (OpP.ixR hA1_ rfl hx184 (by exact rfl) (by exact rfl) rfl rfl) ⟨(IM.le_refl _), (SubL.p0 (SubL.p0 (SubL.nil _)))⟩ ?_
          refine HoldJ.take_y 12 rfl (by kernel_rfl) rfl rfl rfl rfl (decide_eq_true hc182) (OpP.ldRN (by exact rfl) hE186 (IM.le_refl _) rfl (by exact rfl)) ⟨(IM.le_refl _), (SubL.p0 (SubL.p0 (SubL.nil _)))⟩ ?_
          obtain ⟨y190, hy191, h192⟩ := bind_ok h185
          clear h185
          refine HoldJ.step_y 13 rfl (by kernel_rfl) rfl rfl rfl rfl (decide_eq_true hc182) (OpJ.call0 rfl (fun R187 hle188 hin189 => part_is_w R187 (x158.1, x158.2) (x183.1, x183.2)  _ hy191) ?_)
          rintro _ _ _ ⟨rfl, rfl⟩
          refine ⟨⟨(IM.le_refl _), (SubL.p0 (SubL.p0 (SubL.nil _)))⟩, ?_⟩
          refine HoldJ.take_y 14 rfl (by kernel_rfl) rfl rfl rfl rfl (decide_eq_true hc182) (OpP.not rfl) ⟨(IM.le_refl _), (SubL.p0 (SubL.p0 (SubL.nil _)))⟩ ?_
          refine HoldJ.take_y 15 rfl (by kernel_rfl) rfl rfl rfl rfl (Bool.eq_false_iff.2 hc176) (OpP.pick_t rfl (decide_eq_true hc182) rfl) ⟨(IM.le_refl _), (SubL.p0 (SubL.p0 (SubL.nil _)))⟩ ?_
          refine HoldJ.take 16 rfl (by kernel_rfl) rfl (OpP.pick_f rfl (Bool.eq_false_iff.2 hc176) rfl) ⟨(IM.le_refl _), (SubL.p0 (SubL.p0 (SubL.nil _)))⟩ ?_
          refine HoldJ.fin (by kernel_rfl) ?_
          by_cases hc193 : y190 = true
          · rw [if_pos hc193] at h192
            refine CodeJ.cond_f rfl (congrArg Bool.not hc193) ?_
            refine CodeJ.skip ?_
            refine CodeJ.region ?_
            refine OpsJ.put rfl (OpJ.pure (OpP.add64 rfl rfl) ?_)
            refine OpsJ.put rfl (OpJ.pure (OpP.move rfl) ?_)
            refine OpsJ.nil ?_
            obtain rfl := Option.some.inj h192
            exact ⟨_, _, _, _, rfl, ⟨cs103, hr104, hn105, rfl, rfl⟩, IM.le_refl _, (SubE.cons rfl (SubE.cons rfl (SubE.cons rfl (SubE.cons rfl (SubE.cons rfl (SubE.nil _)))))), (SubL.p1 (SubL.nil _))⟩
          · rw [if_neg hc193] at h192
            refine CodeJ.cond_t rfl (congrArg Bool.not (Bool.eq_false_iff.2 hc193)) ?_
            refine CodeJ.region ?_
            refine OpsJ.put rfl (OpJ.pure (OpP.move rfl) ?_)
            refine OpsJ.put rfl (OpJ.pure (OpP.move rfl) ?_)
            refine OpsJ.put rfl (OpJ.pure (OpP.buildC (cs := [.bool true, .string ByteArray.empty]) rfl (by exact rfl) (by exact rfl)) ?_)
            have hE194 : ∀ j v, ([.bool x158.1, .string x158.2] : List Value)[j]? = some v → (cs103)[Int.toNat v101 * Dat.size (Bool × ByteArray) + j]? = some v := row_getF (α := Bool × ByteArray) hr104 hx159
            refine OpsJ.put rfl (OpJ.pure (OpP.ixW (List.Mem.tail _ (List.Mem.head _)) hr104 hn105 hx159 (by exact rfl) (by exact rfl) rfl rfl) ?_)
            obtain ⟨q195, hq196, h198⟩ := bind_ok h192
            clear h192
            have hr197 : repL IM.nil (lsplice cs103 (Int.toNat v101 * Dat.size (Bool × ByteArray)) [.bool true, .string ByteArray.empty]) q195 := set_rep hq196 hr104 (show Dat.rep IM.nil [.bool true, .string ByteArray.empty] (true, ByteArray.empty) from ⟨[.bool true], [.string ByteArray.empty], rfl, rfl, rfl⟩)
            refine OpsJ.act (OpJ.stW hq196 hr104 (show Dat.rep IM.nil [.bool true, .string ByteArray.empty] (true, ByteArray.empty) from ⟨[.bool true], [.string ByteArray.empty], rfl, rfl, rfl⟩) (by exact rfl) (by exact rfl) rfl (List.Perm.swap _ _ _) rfl rfl ?_)
            refine OpsJ.nil ?_
            refine CodeJ.region ?_
            refine OpsJ.put rfl (OpJ.pure (OpP.add64 rfl rfl) ?_)
            refine OpsJ.put rfl (OpJ.pure (OpP.move rfl) ?_)
            refine OpsJ.nil ?_
            obtain rfl := Option.some.inj h198
            exact ⟨_, _, _, _, rfl, ⟨(lsplice cs103 (Int.toNat v101 * Dat.size (Bool × ByteArray)) [.bool true, .string ByteArray.empty]), hr197, (set_len hq196 hn105), rfl, rfl⟩, IM.le_refl _, (SubE.cons rfl (SubE.cons rfl (SubE.cons rfl (SubE.cons rfl (SubE.cons rfl (SubE.nil _)))))), (SubL.p0 (SubL.nil _))⟩
        · rw [if_neg hc182] at h160
          refine HoldJ.take_n 8 rfl (by kernel_rfl) rfl rfl rfl rfl (decide_eq_false hc182) ⟨(IM.le_refl _), (SubL.p0 (SubL.p0 (SubL.nil _)))⟩ ?_
          refine HoldJ.take_n 9 rfl (by kernel_rfl) rfl rfl rfl rfl (decide_eq_false hc182) ⟨(IM.le_refl _), (SubL.p0 (SubL.p0 (SubL.nil _)))⟩ ?_
          refine HoldJ.take_n 10 rfl (by kernel_rfl) rfl rfl rfl rfl (decide_eq_false hc182) ⟨(IM.le_refl _), (SubL.p0 (SubL.p0 (SubL.nil _)))⟩ ?_
          refine HoldJ.take_n 11 rfl (by kernel_rfl) rfl rfl rfl rfl (decide_eq_false hc182) ⟨(IM.le_refl _), (SubL.p0 (SubL.p0 (SubL.nil _)))⟩ ?_
          refine HoldJ.take_n 12 rfl (by kernel_rfl) rfl rfl rfl rfl (decide_eq_false hc182) ⟨(IM.le_refl _), (SubL.p0 (SubL.p0 (SubL.nil _)))⟩ ?_
          refine HoldJ.take_n 13 rfl (by kernel_rfl) rfl rfl rfl rfl (decide_eq_false hc182) ⟨(IM.le_refl _), (SubL.p0 (SubL.p0 (SubL.nil _)))⟩ ?_
          refine HoldJ.take_n 14 rfl (by kernel_rfl) rfl rfl rfl rfl (decide_eq_false hc182) ⟨(IM.le_refl _), (SubL.p0 (SubL.p0 (SubL.nil _)))⟩ ?_
          refine HoldJ.take_y 15 rfl (by kernel_rfl) rfl rfl rfl rfl (Bool.eq_false_iff.2 hc176) (OpP.pick_f rfl (decide_eq_false hc182) rfl) ⟨(IM.le_refl _), (SubL.p0 (SubL.p0 (SubL.nil _)))⟩ ?_
          refine HoldJ.take 16 rfl (by kernel_rfl) rfl (OpP.pick_f rfl (Bool.eq_false_iff.2 hc176) rfl) ⟨(IM.le_refl _), (SubL.p0 (SubL.p0 (SubL.nil _)))⟩ ?_
          refine HoldJ.fin (by kernel_rfl) ?_
          refine CodeJ.cond_f rfl rfl ?_
          refine CodeJ.skip ?_
          refine CodeJ.region ?_
          refine OpsJ.put rfl (OpJ.pure (OpP.add64 rfl rfl) ?_)
          refine OpsJ.put rfl (OpJ.pure (OpP.move rfl) ?_)
          refine OpsJ.nil ?_
          obtain rfl := Option.some.inj h160
          exact ⟨_, _, _, _, rfl, ⟨cs103, hr104, hn105, rfl, rfl⟩, IM.le_refl _, (SubE.cons rfl (SubE.cons rfl (SubE.cons rfl (SubE.cons rfl (SubE.cons rfl (SubE.nil _)))))), (SubL.p1 (SubL.nil _))⟩
    · rw [if_neg hc157] at h152
      refine CodeJ.cond_f rfl (decide_eq_false hc157) ?_
      refine CodeJ.exit rfl ?_
      obtain rfl := Option.some.inj h152
      have ht199 := hne153 _ rfl
      exact ⟨_, _, _, ⟨cs103, l102, ht199, hr104, hn105, rfl, rfl⟩, IM.le_refl _, (SubE.cons rfl (SubE.nil _)), (SubL.p0 (SubL.nil _))⟩
  · rintro _ _ ⟨cs149, l148, rfl, hr150, hn151, rfl, rfl⟩
    (try dsimp only at h156)
    refine CodeJ.seq' ?_
    refine CodeJ.region ?_
    refine OpsJ.put rfl (OpJ.pure (OpP.move rfl) ?_)
    refine OpsJ.put rfl (OpJ.pure (OpP.assign rfl) ?_)
    refine OpsJ.nil ?_
    refine CodeJ.ret' ?_
    obtain rfl := Option.some.inj h156
    exact Ret.mk0 (v := .slice A7 y4.length c8) (hs2 := [.row 41 2 A7 y4.length c8 cs149]) ⟨A7, c8, cs149, (by simp only [hn151]), hr150, (by simp only [hn151])⟩ (ResJ.one Try.results19 rfl) (IM.le_refl _) (SubL.p0 (SubL.nil _))
theorem winnowerref14_Render_w (R : IM) (A0_ : Option Addr) (n0_ c0_ : Nat) (p0_t : List (Bool × ByteArray)) (hA0_ : SlR R A0_ p0_t) (hn0_ : p0_t.length = n0_) (hc0_ : n0_ ≤ c0_) (A1_ : Option Addr) (n1_ c1_ : Nat) (p1_vars : List ByteArray) (hA1_ : SlR R A1_ p1_vars) (hn1_ : p1_vars.length = n1_) (hc1_ : n1_ ≤ c1_) (y : ByteArray × Int) (h : winnowerref14_Render p0_t p1_vars = some y) :
    CallJ Try.prog 27 #[.slice A0_ n0_ c0_, .slice A1_ n1_ c1_] ⟨R, []⟩ (fun v D hs' => v = .tuple #[.string y.1, .int .i64 y.2] ∧ hs' = []) := by
  subst hn0_
  subst hn1_
  unfold winnowerref14_Render at h
  refine CallJ.of2 Try.func27 rfl Try.ntmps27 rfl (fun W0 => ?_)
  refine CodeJ.seq' ?_
  refine CodeJ.region ?_
  refine OpsJ.put rfl (OpJ.pure (OpP.assign rfl) ?_)
  refine OpsJ.put rfl (OpJ.pure (OpP.assign rfl) ?_)
  refine OpsJ.nil ?_
  refine CodeJ.seq' ?_
  refine CodeJ.seq' ?_
  refine CodeJ.region ?_
  refine OpsJ.put rfl (OpJ.pure (OpP.move rfl) ?_)
  refine OpsJ.put rfl (OpJ.pure (OpP.len rfl) ?_)
  refine OpsJ.put rfl (OpJ.pure (OpP.move rfl) ?_)
  obtain ⟨y4, hy5, h6⟩ := bind_ok h
  clear h
  refine OpsJ.put rfl (OpJ.call0 rfl (fun R1 hle2 hin3 => winnowerref14_Wild_w R1 A0_ p0_t.length c0_ p0_t (SlR.mono hA0_ (IM.le_trans (IM.le_refl _) hle2)) rfl hc0_  _ hy5) ?_)
  rintro _ _ _ ⟨rfl, rfl⟩
  refine OpsJ.put rfl (OpJ.pure (OpP.neq rfl rfl) ?_)
  refine OpsJ.nil ?_
  by_cases hc7 : ((p1_vars.length : Nat) : Int) ≠ y4
  · rw [if_pos hc7] at h6
    refine CodeJ.cond_t rfl (decide_eq_true hc7) ?_
    refine CodeJ.seq' ?_
    refine CodeJ.region ?_
    refine OpsJ.put rfl (OpJ.pure (OpP.assign rfl) ?_)
    refine OpsJ.put rfl (OpJ.pure (OpP.assign rfl) ?_)
    refine OpsJ.nil ?_
    refine CodeJ.ret' ?_
    obtain rfl := Option.some.inj h6
    exact Ret.mk0 ⟨rfl, rfl⟩ (ResJ.two Try.results27 rfl rfl) (IM.le_refl _) (SubL.nil _)
  · rw [if_neg hc7] at h6
    refine CodeJ.cond_f rfl (decide_eq_false hc7) ?_
    refine CodeJ.skip ?_
    refine CodeJ.seq' ?_
    refine CodeJ.region ?_
    refine OpsJ.put rfl (OpJ.pure (OpP.assign rfl) ?_)
    refine OpsJ.nil ?_
    refine CodeJ.seq' ?_
    refine CodeJ.region ?_
    refine OpsJ.put rfl (OpJ.pure (OpP.assign rfl) ?_)
    refine OpsJ.nil ?_
    refine CodeJ.seq' ?_
    refine CodeJ.seq' ?_
    refine CodeJ.region ?_
    refine OpsJ.put rfl (OpJ.pure (OpP.assign rfl) ?_)
    refine OpsJ.nil ?_
    obtain ⟨t70, hl71, h72⟩ := bind_ok h6
    clear h6
    refine CodeJ.mid (fun e s => ∃ (s_67 : ByteArray), s_67 = t70 ∧ e = [(6, .string s_67)] ∧ s = ⟨R, []⟩) ?_ ?_
    · refine CodeJ.block ?_
      refine CodeJ.loopM hl71 (fun (s_47, k_48, i_49) e s => e = [(0, .slice A0_ p0_t.length c0_), (1, .slice A1_ p1_vars.length c1_), (6, .string s_47), (7, .int .i64 k_48), (8, .int .i64 i_49)] ∧ s = ⟨R, []⟩) ⟨rfl, rfl⟩ (SubE.cons rfl (SubE.cons rfl (SubE.cons rfl (SubE.cons rfl (SubE.cons rfl (SubE.nil _)))))) (SubL.nil _) ?_
      rintro ⟨s_47, k_48, i_49⟩ _ _ _ ⟨rfl, rfl⟩ h68 hne69
      (try dsimp only at h68); unfold winnowerref14_Render_l0 at h68
      refine CodeJ.seq' ?_
      refine CodeJ.seq' ?_
      refine CodeJ.region ?_
      refine OpsJ.put rfl (OpJ.pure (OpP.move rfl) ?_)
      refine OpsJ.put rfl (OpJ.pure (OpP.move rfl) ?_)
      refine OpsJ.put rfl (OpJ.pure (OpP.len rfl) ?_)
      refine OpsJ.put rfl (OpJ.pure (OpP.lss rfl rfl) ?_)
      refine OpsJ.nil ?_
      by_cases hc73 : i_49 < ((p0_t.length : Nat) : Int)
      · rw [if_pos hc73] at h68
        refine CodeJ.cond_t rfl (decide_eq_true hc73) ?_
        refine CodeJ.skip ?_
        refine CodeJ.seq' ?_
        refine CodeJ.block ?_
        refine CodeJ.seq' ?_
        refine CodeJ.region ?_
        refine OpsJ.put rfl (OpJ.pure (OpP.move rfl) ?_)
        refine OpsJ.put rfl (OpJ.pure (OpP.move rfl) ?_)
        obtain ⟨x74, hx75, h76⟩ := bind_ok h68
        clear h68
        have hE77 : RC _ (some ((adr A0_).add (Int.toNat i_49 * Dat.size (Bool × ByteArray)))) [.bool x74.1, .string x74.2] := SlR.getF (α := Bool × ByteArray) hA0_ hx75
        refine OpsJ.put rfl (OpJ.pure (OpP.ixR hA0_ rfl hx75 (by exact rfl) (by exact rfl) rfl rfl) ?_)
        refine OpsJ.put rfl (OpJ.pure (OpP.fldAddr rfl (by exact rfl)) ?_)
        refine OpsJ.put rfl (OpJ.pure (OpP.ldR (by exact rfl) hE77 (IM.le_refl _) rfl rfl) ?_)
        refine OpsJ.nil ?_
        by_cases hc78 : x74.1 = true
        · rw [if_pos hc78] at h76
          refine CodeJ.cond_t rfl hc78 ?_
          refine CodeJ.seq' ?_
          refine CodeJ.region ?_
          refine OpsJ.put rfl (OpJ.pure (OpP.move rfl) ?_)
          refine OpsJ.put rfl (OpJ.pure (OpP.move rfl) ?_)
          refine OpsJ.put rfl (OpJ.pure (OpP.move rfl) ?_)
          obtain ⟨x79, hx80, h81⟩ := bind_ok h76
          clear h76
          have hE82 : RC _ (some ((adr A1_).add (Int.toNat k_48 * Dat.size ByteArray))) [.string x79] := SlR.getF (α := ByteArray) hA1_ hx80
          refine OpsJ.put rfl (OpJ.pure (OpP.ixR hA1_ rfl hx80 (by exact rfl) (by exact rfl) rfl rfl) ?_)
          refine OpsJ.put rfl (OpJ.pure (OpP.ldR0 (by exact rfl) hE82 (IM.le_refl _) rfl rfl) ?_)
          obtain ⟨q83, hq84, h85⟩ := bind_ok h81
          clear h81
          refine OpsJ.put rfl (OpJ.pure (OpP.catS hq84 rfl rfl) ?_)
          refine OpsJ.put rfl (OpJ.pure (OpP.assign rfl) ?_)
          refine OpsJ.nil ?_
          refine CodeJ.region ?_
          refine OpsJ.put rfl (OpJ.pure (OpP.move rfl) ?_)
          refine OpsJ.put rfl (OpJ.pure (OpP.add64 rfl rfl) ?_)
          refine OpsJ.put rfl (OpJ.pure (OpP.assign rfl) ?_)
          refine OpsJ.nil ?_
          refine CodeJ.region ?_
          refine OpsJ.put rfl (OpJ.pure (OpP.move rfl) ?_)
          refine OpsJ.put rfl (OpJ.pure (OpP.add64 rfl rfl) ?_)
          refine OpsJ.put rfl (OpJ.pure (OpP.assign rfl) ?_)
          refine OpsJ.nil ?_
          obtain rfl := Option.some.inj h85
          exact ⟨_, _, _, _, rfl, ⟨rfl, rfl⟩, IM.le_refl _, (SubE.cons rfl (SubE.cons rfl (SubE.cons rfl (SubE.cons rfl (SubE.cons rfl (SubE.nil _)))))), (SubL.nil _)⟩
        · rw [if_neg hc78] at h76
          refine CodeJ.cond_f rfl (Bool.eq_false_iff.2 hc78) ?_
          refine CodeJ.region ?_
          refine OpsJ.put rfl (OpJ.pure (OpP.move rfl) ?_)
          refine OpsJ.put rfl (OpJ.pure (OpP.move rfl) ?_)
          refine OpsJ.put rfl (OpJ.pure (OpP.move rfl) ?_)
          have hE86 : RC _ (some ((adr A0_).add (Int.toNat i_49 * Dat.size (Bool × ByteArray)))) [.bool x74.1, .string x74.2] := SlR.getF (α := Bool × ByteArray) hA0_ hx75
          refine OpsJ.put rfl (OpJ.pure (OpP.ixR hA0_ rfl hx75 (by exact rfl) (by exact rfl) rfl rfl) ?_)
          refine OpsJ.put rfl (OpJ.pure (OpP.fldAddr rfl (by exact rfl)) ?_)
          refine OpsJ.put rfl (OpJ.pure (OpP.ldR (by exact rfl) hE86 (IM.le_refl _) rfl rfl) ?_)
          obtain ⟨q87, hq88, h89⟩ := bind_ok h76
          clear h76
          refine OpsJ.put rfl (OpJ.pure (OpP.catS hq88 rfl rfl) ?_)
          refine OpsJ.put rfl (OpJ.pure (OpP.assign rfl) ?_)
          refine OpsJ.nil ?_
          refine CodeJ.region ?_
          refine OpsJ.put rfl (OpJ.pure (OpP.move rfl) ?_)
          refine OpsJ.put rfl (OpJ.pure (OpP.add64 rfl rfl) ?_)
          refine OpsJ.put rfl (OpJ.pure (OpP.assign rfl) ?_)
          refine OpsJ.nil ?_
          obtain rfl := Option.some.inj h89
          exact ⟨_, _, _, _, rfl, ⟨rfl, rfl⟩, IM.le_refl _, (SubE.cons rfl (SubE.cons rfl (SubE.cons rfl (SubE.cons rfl (SubE.cons rfl (SubE.nil _)))))), (SubL.nil _)⟩
      · rw [if_neg hc73] at h68
        refine CodeJ.cond_f rfl (decide_eq_false hc73) ?_
        refine CodeJ.exit rfl ?_
        obtain rfl := Option.some.inj h68
        have ht90 := hne69 _ rfl
        exact ⟨_, _, _, ⟨s_47, ht90, rfl, rfl⟩, IM.le_refl _, (SubE.cons rfl (SubE.nil _)), (SubL.nil _)⟩
    · rintro _ _ ⟨s_67, rfl, rfl, rfl⟩
      (try dsimp only at h72)
      refine CodeJ.seq' ?_
      refine CodeJ.region ?_
      refine OpsJ.put rfl (OpJ.pure (OpP.move rfl) ?_)
      refine OpsJ.put rfl (OpJ.pure (OpP.assign rfl) ?_)
      refine OpsJ.put rfl (OpJ.pure (OpP.assign rfl) ?_)
      refine OpsJ.nil ?_
      refine CodeJ.ret' ?_
      obtain rfl := Option.some.inj h72
      exact Ret.mk0 ⟨rfl, rfl⟩ (ResJ.two Try.results27 rfl rfl) (IM.le_refl _) (SubL.nil _)
theorem part_Of_w (R : IM) (A0_ : Option Addr) (n0_ c0_ : Nat) (p0_tokens : List (Int × ByteArray)) (hA0_ : SlR R A0_ p0_tokens) (hn0_ : p0_tokens.length = n0_) (hc0_ : n0_ ≤ c0_) (y : (List (Bool × ByteArray))) (h : part_Of p0_tokens = some y) :
    CallJ Try.prog 32 #[.slice A0_ n0_ c0_] ⟨R, []⟩ (fun v D hs' => ∃ (B1 : Option Addr) (d2 : Nat) (ds3 : List Value), v = .slice B1 y.length d2 ∧ repL IM.nil ds3 y ∧ hs' = [.row 41 2 B1 y.length d2 ds3]) := by
  subst hn0_
  unfold part_Of at h
  refine CallJ.of1 Try.func32 rfl Try.ntmps32 rfl (fun W0 => ?_)
  refine CodeJ.seq' ?_
  refine CodeJ.region ?_
  refine OpsJ.put rfl (OpJ.pure (OpP.assign rfl) ?_)
  refine OpsJ.nil ?_
  refine CodeJ.seq' ?_
  refine CodeJ.region ?_
  refine OpsJ.put rfl (OpJ.pure (OpP.assign rfl) ?_)
  refine OpsJ.nil ?_
  refine CodeJ.seq' ?_
  refine CodeJ.seq' ?_
  refine CodeJ.region ?_
  refine OpsJ.put rfl (OpJ.pure (OpP.move rfl) ?_)
  refine OpsJ.put rfl (OpJ.pure (OpP.len rfl) ?_)
  refine OpsJ.put rfl (OpJ.pure (OpP.move rfl) ?_)
  refine OpsJ.nil ?_
  refine CodeJ.nilrow 41 2 ?_
  obtain ⟨t128, hl129, h130⟩ := bind_ok h
  clear h
  refine CodeJ.mid (fun e s => ∃ (A121 : Option Addr) (c122 : Nat) (cs123 : List Value) (t_120 : List (Bool × ByteArray)), t_120 = t128 ∧ repL IM.nil cs123 t_120 ∧ e = [(3, .slice A121 t_120.length c122)] ∧ s = ⟨R, [.row 41 2 A121 t_120.length c122 cs123]⟩) ?_ ?_
  · refine CodeJ.block ?_
    refine CodeJ.loopM hl129 (fun (t_79, v85) e s => ∃ (A80 : Option Addr) (c81 : Nat) (cs82 : List Value), repL IM.nil cs82 t_79 ∧ e = [(3, .slice A80 t_79.length c81), (6, .slice A0_ p0_tokens.length c0_), (7, .int .i64 ((p0_tokens.length : Nat) : Int)), (8, .int .i64 v85)] ∧ s = ⟨R, [.row 41 2 A80 t_79.length c81 cs82]⟩) ⟨none, 0, ([] : List Value), (repL_nil IM.nil), rfl, rfl⟩ (SubE.cons rfl (SubE.cons rfl (SubE.cons rfl (SubE.cons rfl (SubE.nil _))))) (SubL.p0 (SubL.nil _)) ?_
    rintro ⟨t_79, v85⟩ _ _ _ ⟨A80, c81, cs82, hr83, rfl, rfl⟩ h126 hne127
    (try dsimp only at h126); unfold part_Of_l0 at h126
    refine CodeJ.seq' ?_
    refine CodeJ.region ?_
    refine OpsJ.put rfl (OpJ.pure (OpP.lss rfl rfl) ?_)
    refine OpsJ.nil ?_
    refine CodeJ.seq' ?_
    by_cases hc131 : v85 < ((p0_tokens.length : Nat) : Int)
    · rw [if_pos hc131] at h126
      refine CodeJ.cond_t rfl (decide_eq_true hc131) ?_
      refine CodeJ.skip ?_
      refine CodeJ.seq' ?_
      refine CodeJ.block ?_
      refine CodeJ.seq' ?_
      refine CodeJ.region ?_
      obtain ⟨x132, hx133, h134⟩ := bind_ok h126
      clear h126
      have hE135 : RC _ (some ((adr A0_).add (Int.toNat v85 * Dat.size (Int × ByteArray)))) [.int .i64 x132.1, .string x132.2] := SlR.getF (α := Int × ByteArray) hA0_ hx133
      refine OpsJ.put rfl (OpJ.pure (OpP.ixR hA0_ rfl hx133 (by exact rfl) (by exact rfl) rfl rfl) ?_)
      refine OpsJ.put rfl (OpJ.pure (OpP.ldRN (by exact rfl) hE135 (IM.le_refl _) rfl (by exact rfl)) ?_)
      refine OpsJ.put rfl (OpJ.alloc (fun g136 => ?_))
      refine OpsJ.act (OpJ.storeC (us := [.int .i64 x132.1, .string x132.2]) (cs := [.int .i64 x132.1, .string x132.2]) rfl rfl rfl (List.Perm.refl _) (by exact rfl) rfl rfl rfl ?_)
      refine OpsJ.nil ?_
      refine CodeJ.seq' ?_
      refine CodeJ.region ?_
      refine OpsJ.put rfl (OpJ.pure (OpP.fldAddr_lit rfl (by exact rfl)) ?_)
      refine OpsJ.put rfl (OpJ.pure (OpP.load_blk (by exact rfl) rfl (List.Mem.head _) rfl) ?_)
      obtain ⟨y141, hy142, h143⟩ := bind_ok h134
      clear h134
      refine OpsJ.put rfl (OpJ.call0 rfl (fun R138 hle139 hin140 => part_isAny_w R138 x132.1  _ hy142) ?_)
      rintro _ _ _ ⟨rfl, rfl⟩
      refine OpsJ.nil ?_
      by_cases hc144 : y141 = true
      · rw [if_pos hc144] at h143
        refine CodeJ.cond_t rfl hc144 ?_
        refine CodeJ.region ?_
        refine OpsJ.put rfl (OpJ.pure (OpP.move rfl) ?_)
        refine OpsJ.put rfl (OpJ.pure (OpP.buildC (cs := [.bool true, .string ByteArray.empty]) rfl (by exact rfl) (by exact rfl)) ?_)
        have hr146 : repL IM.nil [.bool true, .string ByteArray.empty] ([(true, ByteArray.empty)] : List (Bool × ByteArray)) := (repL_cons (c1 := [.bool true, .string ByteArray.empty]) (show Dat.rep _ _ (true, ByteArray.empty) from ⟨[.bool true], [.string ByteArray.empty], rfl, rfl, rfl⟩) (repL_nil _))
        refine OpsJ.put rfl (OpJ.buildSliceC (cs := [.bool true, .string ByteArray.empty]) rfl rfl (by exact rfl) (by exact rfl) (by exact rfl) (by exact rfl) (fun g145 => ?_))
        obtain ⟨q148, hq149, h150⟩ := bind_ok h143
        clear h143
        have hr153 : repL IM.nil (cs82 ++ ([.bool true, .string ByteArray.empty] : List Value)) q148 := app_rep hq149 hr83 hr146
        refine OpsJ.put rfl (OpJ.appW hq149 rfl rfl (Src.ofRow (List.Mem.head _)) hr146 (by exact rfl) (permm2 _ _ _ _) (by exact rfl) (by exact rfl) (by exact rfl) rfl rfl (fun A151 c152 => ?_))
        refine OpsJ.put rfl (OpJ.pure (OpP.assign rfl) ?_)
        refine OpsJ.nil ?_
        refine CodeJ.region ?_
        refine OpsJ.put rfl (OpJ.pure (OpP.add64 rfl rfl) ?_)
        refine OpsJ.put rfl (OpJ.pure (OpP.move rfl) ?_)
        refine OpsJ.nil ?_
        obtain rfl := Option.some.inj h150
        exact ⟨_, _, _, _, rfl, ⟨A151, c152, (cs82 ++ ([.bool true, .string ByteArray.empty] : List Value)), hr153, rfl, rfl⟩, IM.le_refl _, (SubE.cons rfl (SubE.cons rfl (SubE.cons rfl (SubE.cons rfl (SubE.nil _))))), (SubL.p0 (SubL.nil _))⟩
      · rw [if_neg hc144] at h143
        refine CodeJ.cond_f rfl (Bool.eq_false_iff.2 hc144) ?_
        refine CodeJ.region ?_
        refine OpsJ.put rfl (OpJ.pure (OpP.move rfl) ?_)
        refine OpsJ.put rfl (OpJ.pure (OpP.fldAddr_lit rfl (by exact rfl)) ?_)
        refine OpsJ.put rfl (OpJ.pure (OpP.load_blk (by exact rfl) rfl (List.Mem.head _) rfl) ?_)
        refine OpsJ.put rfl (OpJ.pure (OpP.buildC (cs := [.bool false, .string x132.2]) rfl (by exact rfl) (by exact rfl)) ?_)
        have hr156 : repL IM.nil [.bool false, .string x132.2] ([(false, x132.2)] : List (Bool × ByteArray)) := (repL_cons (c1 := [.bool false, .string x132.2]) (show Dat.rep _ _ (false, x132.2) from ⟨[.bool false], [.string x132.2], rfl, rfl, rfl⟩) (repL_nil _))
        refine OpsJ.put rfl (OpJ.buildSliceC (cs := [.bool false, .string x132.2]) rfl rfl (by exact rfl) (by exact rfl) (by exact rfl) (by exact rfl) (fun g155 => ?_))
        obtain ⟨q158, hq159, h160⟩ := bind_ok h143
        clear h143
        have hr163 : repL IM.nil (cs82 ++ ([.bool false, .string x132.2] : List Value)) q158 := app_rep hq159 hr83 hr156
        refine OpsJ.put rfl (OpJ.appW hq159 rfl rfl (Src.ofRow (List.Mem.head _)) hr156 (by exact rfl) (permm2 _ _ _ _) (by exact rfl) (by exact rfl) (by exact rfl) rfl rfl (fun A161 c162 => ?_))
        refine OpsJ.put rfl (OpJ.pure (OpP.assign rfl) ?_)
        refine OpsJ.nil ?_
        refine CodeJ.region ?_
        refine OpsJ.put rfl (OpJ.pure (OpP.add64 rfl rfl) ?_)
        refine OpsJ.put rfl (OpJ.pure (OpP.move rfl) ?_)
        refine OpsJ.nil ?_
        obtain rfl := Option.some.inj h160
        exact ⟨_, _, _, _, rfl, ⟨A161, c162, (cs82 ++ ([.bool false, .string x132.2] : List Value)), hr163, rfl, rfl⟩, IM.le_refl _, (SubE.cons rfl (SubE.cons rfl (SubE.cons rfl (SubE.cons rfl (SubE.nil _))))), (SubL.p0 (SubL.nil _))⟩
    · rw [if_neg hc131] at h126
      refine CodeJ.cond_f rfl (decide_eq_false hc131) ?_
      refine CodeJ.exit rfl ?_
      obtain rfl := Option.some.inj h126
      have ht165 := hne127 _ rfl
      exact ⟨_, _, _, ⟨A80, c81, cs82, t_79, ht165, hr83, rfl, rfl⟩, IM.le_refl _, (SubE.cons rfl (SubE.nil _)), (SubL.p0 (SubL.nil _))⟩
  · rintro _ _ ⟨A121, c122, cs123, t_120, rfl, hr124, rfl, rfl⟩
    (try dsimp only at h130)
    refine CodeJ.seq' ?_
    refine CodeJ.region ?_
    refine OpsJ.put rfl (OpJ.pure (OpP.move rfl) ?_)
    refine OpsJ.put rfl (OpJ.pure (OpP.assign rfl) ?_)
    refine OpsJ.nil ?_
    refine CodeJ.ret' ?_
    obtain rfl := Option.some.inj h130
    exact Ret.mk0 ⟨A121, c122, cs123, rfl, hr124, rfl⟩ (ResJ.one Try.results32 rfl) (IM.le_refl _) (SubL.p0 (SubL.nil _))
theorem winnowerref14_Of_w (R : IM) (A0_ : Option Addr) (n0_ c0_ : Nat) (p0_l : List (Int × ByteArray)) (hA0_ : SlR R A0_ p0_l) (hn0_ : p0_l.length = n0_) (hc0_ : n0_ ≤ c0_) (y : (List (Bool × ByteArray))) (h : winnowerref14_Of p0_l = some y) :
    CallJ Try.prog 33 #[.slice A0_ n0_ c0_] ⟨R, []⟩ (fun v D hs' => ∃ (B1 : Option Addr) (d2 : Nat) (ds3 : List Value), v = .slice B1 y.length d2 ∧ repL IM.nil ds3 y ∧ hs' = [.row 41 2 B1 y.length d2 ds3]) := by
  subst hn0_
  unfold winnowerref14_Of at h
  refine CallJ.of1 Try.func33 rfl Try.ntmps33 rfl (fun W0 => ?_)
  refine CodeJ.seq' ?_
  refine CodeJ.region ?_
  refine OpsJ.put rfl (OpJ.pure (OpP.assign rfl) ?_)
  refine OpsJ.nil ?_
  refine CodeJ.seq' ?_
  refine CodeJ.region ?_
  refine OpsJ.put rfl (OpJ.pure (OpP.assign rfl) ?_)
  refine OpsJ.nil ?_
  refine CodeJ.seq' ?_
  refine CodeJ.seq' ?_
  refine CodeJ.region ?_
  refine OpsJ.put rfl (OpJ.pure (OpP.assign rfl) ?_)
  refine OpsJ.nil ?_
  refine CodeJ.nilrow 41 2 ?_
  obtain ⟨t125, hl126, h127⟩ := bind_ok h
  clear h
  refine CodeJ.mid (fun e s => ∃ (A118 : Option Addr) (c119 : Nat) (cs120 : List Value) (t_117 : List (Bool × ByteArray)), t_117 = t125 ∧ repL IM.nil cs120 t_117 ∧ e = [(3, .slice A118 t_117.length c119)] ∧ s = ⟨R, [.row 41 2 A118 t_117.length c119 cs120]⟩) ?_ ?_
  · refine CodeJ.block ?_
    refine CodeJ.loopM hl126 (fun (t_77, i_83) e s => ∃ (A78 : Option Addr) (c79 : Nat) (cs80 : List Value), repL IM.nil cs80 t_77 ∧ e = [(0, .slice A0_ p0_l.length c0_), (3, .slice A78 t_77.length c79), (4, .int .i64 i_83)] ∧ s = ⟨R, [.row 41 2 A78 t_77.length c79 cs80]⟩) ⟨none, 0, ([] : List Value), (repL_nil IM.nil), rfl, rfl⟩ (SubE.cons rfl (SubE.cons rfl (SubE.cons rfl (SubE.nil _)))) (SubL.p0 (SubL.nil _)) ?_
    rintro ⟨t_77, i_83⟩ _ _ _ ⟨A78, c79, cs80, hr81, rfl, rfl⟩ h123 hne124
    (try dsimp only at h123); unfold winnowerref14_Of_l0 at h123
    refine CodeJ.seq' ?_
    refine CodeJ.seq' ?_
    refine CodeJ.region ?_
    refine OpsJ.put rfl (OpJ.pure (OpP.move rfl) ?_)
    refine OpsJ.put rfl (OpJ.pure (OpP.move rfl) ?_)
    refine OpsJ.put rfl (OpJ.pure (OpP.len rfl) ?_)
    refine OpsJ.put rfl (OpJ.pure (OpP.lss rfl rfl) ?_)
    refine OpsJ.nil ?_
    by_cases hc128 : i_83 < ((p0_l.length : Nat) : Int)
    · rw [if_pos hc128] at h123
      refine CodeJ.cond_t rfl (decide_eq_true hc128) ?_
      refine CodeJ.skip ?_
      refine CodeJ.seq' ?_
      refine CodeJ.block ?_
      refine CodeJ.seq' ?_
      refine CodeJ.region ?_
      refine OpsJ.put rfl (OpJ.pure (OpP.move rfl) ?_)
      refine OpsJ.put rfl (OpJ.pure (OpP.move rfl) ?_)
      obtain ⟨x129, hx130, h131⟩ := bind_ok h123
      clear h123
      have hE132 : RC _ (some ((adr A0_).add (Int.toNat i_83 * Dat.size (Int × ByteArray)))) [.int .i64 x129.1, .string x129.2] := SlR.getF (α := Int × ByteArray) hA0_ hx130
      refine OpsJ.put rfl (OpJ.pure (OpP.ixR hA0_ rfl hx130 (by exact rfl) (by exact rfl) rfl rfl) ?_)
      refine OpsJ.put rfl (OpJ.pure (OpP.fldAddr rfl (by exact rfl)) ?_)
      refine OpsJ.put rfl (OpJ.pure (OpP.ldR (by exact rfl) hE132 (IM.le_refl _) rfl rfl) ?_)
      obtain ⟨y136, hy137, h138⟩ := bind_ok h131
      clear h131
      refine OpsJ.put rfl (OpJ.call0 rfl (fun R133 hle134 hin135 => winnowerref14_Varies_w R133 x129.1  _ hy137) ?_)
      rintro _ _ _ ⟨rfl, rfl⟩
      refine OpsJ.nil ?_
      by_cases hc139 : y136 = true
      · rw [if_pos hc139] at h138
        refine CodeJ.cond_t rfl hc139 ?_
        refine CodeJ.region ?_
        refine OpsJ.put rfl (OpJ.pure (OpP.move rfl) ?_)
        refine OpsJ.put rfl (OpJ.pure (OpP.buildC (cs := [.bool true, .string ByteArray.empty]) rfl (by exact rfl) (by exact rfl)) ?_)
        have hr141 : repL IM.nil [.bool true, .string ByteArray.empty] ([(true, ByteArray.empty)] : List (Bool × ByteArray)) := (repL_cons (c1 := [.bool true, .string ByteArray.empty]) (show Dat.rep _ _ (true, ByteArray.empty) from ⟨[.bool true], [.string ByteArray.empty], rfl, rfl, rfl⟩) (repL_nil _))
        refine OpsJ.put rfl (OpJ.buildSliceC (cs := [.bool true, .string ByteArray.empty]) rfl rfl (by exact rfl) (by exact rfl) (by exact rfl) (by exact rfl) (fun g140 => ?_))
        obtain ⟨q143, hq144, h145⟩ := bind_ok h138
        clear h138
        have hr148 : repL IM.nil (cs80 ++ ([.bool true, .string ByteArray.empty] : List Value)) q143 := app_rep hq144 hr81 hr141
        refine OpsJ.put rfl (OpJ.appW hq144 rfl rfl (Src.ofRow (List.Mem.head _)) hr141 (by exact rfl) (List.Perm.swap _ _ _) (by exact rfl) (by exact rfl) (by exact rfl) rfl rfl (fun A146 c147 => ?_))
        refine OpsJ.put rfl (OpJ.pure (OpP.assign rfl) ?_)
        refine OpsJ.nil ?_
        refine CodeJ.region ?_
        refine OpsJ.put rfl (OpJ.pure (OpP.move rfl) ?_)
        refine OpsJ.put rfl (OpJ.pure (OpP.add64 rfl rfl) ?_)
        refine OpsJ.put rfl (OpJ.pure (OpP.assign rfl) ?_)
        refine OpsJ.nil ?_
        obtain rfl := Option.some.inj h145
        exact ⟨_, _, _, _, rfl, ⟨A146, c147, (cs80 ++ ([.bool true, .string ByteArray.empty] : List Value)), hr148, rfl, rfl⟩, IM.le_refl _, (SubE.cons rfl (SubE.cons rfl (SubE.cons rfl (SubE.nil _)))), (SubL.p0 (SubL.nil _))⟩
      · rw [if_neg hc139] at h138
        refine CodeJ.cond_f rfl (Bool.eq_false_iff.2 hc139) ?_
        refine CodeJ.region ?_
        refine OpsJ.put rfl (OpJ.pure (OpP.move rfl) ?_)
        refine OpsJ.put rfl (OpJ.pure (OpP.move rfl) ?_)
        refine OpsJ.put rfl (OpJ.pure (OpP.move rfl) ?_)
        have hE150 : RC _ (some ((adr A0_).add (Int.toNat i_83 * Dat.size (Int × ByteArray)))) [.int .i64 x129.1, .string x129.2] := SlR.getF (α := Int × ByteArray) hA0_ hx130
        refine OpsJ.put rfl (OpJ.pure (OpP.ixR hA0_ rfl hx130 (by exact rfl) (by exact rfl) rfl rfl) ?_)
        refine OpsJ.put rfl (OpJ.pure (OpP.fldAddr rfl (by exact rfl)) ?_)
        refine OpsJ.put rfl (OpJ.pure (OpP.ldR (by exact rfl) hE150 (IM.le_refl _) rfl rfl) ?_)
        refine OpsJ.put rfl (OpJ.pure (OpP.buildC (cs := [.bool false, .string x129.2]) rfl (by exact rfl) (by exact rfl)) ?_)
        have hr152 : repL IM.nil [.bool false, .string x129.2] ([(false, x129.2)] : List (Bool × ByteArray)) := (repL_cons (c1 := [.bool false, .string x129.2]) (show Dat.rep _ _ (false, x129.2) from ⟨[.bool false], [.string x129.2], rfl, rfl, rfl⟩) (repL_nil _))
        refine OpsJ.put rfl (OpJ.buildSliceC (cs := [.bool false, .string x129.2]) rfl rfl (by exact rfl) (by exact rfl) (by exact rfl) (by exact rfl) (fun g151 => ?_))
        obtain ⟨q154, hq155, h156⟩ := bind_ok h138
        clear h138
        have hr159 : repL IM.nil (cs80 ++ ([.bool false, .string x129.2] : List Value)) q154 := app_rep hq155 hr81 hr152
        refine OpsJ.put rfl (OpJ.appW hq155 rfl rfl (Src.ofRow (List.Mem.head _)) hr152 (by exact rfl) (List.Perm.swap _ _ _) (by exact rfl) (by exact rfl) (by exact rfl) rfl rfl (fun A157 c158 => ?_))
        refine OpsJ.put rfl (OpJ.pure (OpP.assign rfl) ?_)
        refine OpsJ.nil ?_
        refine CodeJ.region ?_
        refine OpsJ.put rfl (OpJ.pure (OpP.move rfl) ?_)
        refine OpsJ.put rfl (OpJ.pure (OpP.add64 rfl rfl) ?_)
        refine OpsJ.put rfl (OpJ.pure (OpP.assign rfl) ?_)
        refine OpsJ.nil ?_
        obtain rfl := Option.some.inj h156
        exact ⟨_, _, _, _, rfl, ⟨A157, c158, (cs80 ++ ([.bool false, .string x129.2] : List Value)), hr159, rfl, rfl⟩, IM.le_refl _, (SubE.cons rfl (SubE.cons rfl (SubE.cons rfl (SubE.nil _)))), (SubL.p0 (SubL.nil _))⟩
    · rw [if_neg hc128] at h123
      refine CodeJ.cond_f rfl (decide_eq_false hc128) ?_
      refine CodeJ.exit rfl ?_
      obtain rfl := Option.some.inj h123
      have ht161 := hne124 _ rfl
      exact ⟨_, _, _, ⟨A78, c79, cs80, t_77, ht161, hr81, rfl, rfl⟩, IM.le_refl _, (SubE.cons rfl (SubE.nil _)), (SubL.p0 (SubL.nil _))⟩
  · rintro _ _ ⟨A118, c119, cs120, t_117, rfl, hr121, rfl, rfl⟩
    (try dsimp only at h127)
    refine CodeJ.seq' ?_
    refine CodeJ.region ?_
    refine OpsJ.put rfl (OpJ.pure (OpP.move rfl) ?_)
    refine OpsJ.put rfl (OpJ.pure (OpP.assign rfl) ?_)
    refine OpsJ.nil ?_
    refine CodeJ.ret' ?_
    obtain rfl := Option.some.inj h127
    exact Ret.mk0 ⟨A118, c119, cs120, rfl, hr121, rfl⟩ (ResJ.one Try.results33 rfl) (IM.le_refl _) (SubL.p0 (SubL.nil _))
theorem part_Alike_w (R : IM) (A0_ : Option Addr) (n0_ c0_ : Nat) (p0_t : List (Bool × ByteArray)) (hA0_ : SlR R A0_ p0_t) (hn0_ : p0_t.length = n0_) (hc0_ : n0_ ≤ c0_) (A1_ : Option Addr) (n1_ c1_ : Nat) (p1_tokens : List (Int × ByteArray)) (hA1_ : SlR R A1_ p1_tokens) (hn1_ : p1_tokens.length = n1_) (hc1_ : n1_ ≤ c1_) (y : Int) (h : part_Alike p0_t p1_tokens = some y) :
    CallJ Try.prog 34 #[.slice A0_ n0_ c0_, .slice A1_ n1_ c1_] ⟨R, []⟩ (fun v D hs' => v = .int .i64 y ∧ hs' = []) := by
  subst hn0_
  subst hn1_
  unfold part_Alike at h
  refine CallJ.of2 Try.func34 rfl Try.ntmps34 rfl (fun W0 => ?_)
  refine CodeJ.seq' ?_
  refine CodeJ.region ?_
  refine OpsJ.put rfl (OpJ.pure (OpP.assign rfl) ?_)
  refine OpsJ.nil ?_
  refine CodeJ.seq' ?_
  refine CodeJ.seq' ?_
  refine CodeJ.region ?_
  refine OpsJ.put rfl (OpJ.pure (OpP.move rfl) ?_)
  refine OpsJ.put rfl (OpJ.pure (OpP.len rfl) ?_)
  refine OpsJ.put rfl (OpJ.pure (OpP.move rfl) ?_)
  refine OpsJ.put rfl (OpJ.pure (OpP.len rfl) ?_)
  refine OpsJ.put rfl (OpJ.pure (OpP.neq rfl rfl) ?_)
  refine OpsJ.nil ?_
  by_cases hc1 : ((p0_t.length : Nat) : Int) ≠ ((p1_tokens.length : Nat) : Int)
  · rw [if_pos hc1] at h
    refine CodeJ.cond_t rfl (decide_eq_true hc1) ?_
    refine CodeJ.seq' ?_
    refine CodeJ.region ?_
    refine OpsJ.put rfl (OpJ.pure (OpP.assign rfl) ?_)
    refine OpsJ.nil ?_
    refine CodeJ.ret' ?_
    obtain rfl := Option.some.inj h
    exact Ret.mk0 ⟨rfl, rfl⟩ (ResJ.one Try.results34 rfl) (IM.le_refl _) (SubL.nil _)
  · rw [if_neg hc1] at h
    refine CodeJ.cond_f rfl (decide_eq_false hc1) ?_
    refine CodeJ.skip ?_
    refine CodeJ.seq' ?_
    refine CodeJ.region ?_
    refine OpsJ.put rfl (OpJ.pure (OpP.assign rfl) ?_)
    refine OpsJ.nil ?_
    refine CodeJ.seq' ?_
    refine CodeJ.seq' ?_
    refine CodeJ.region ?_
    refine OpsJ.put rfl (OpJ.pure (OpP.move rfl) ?_)
    refine OpsJ.put rfl (OpJ.pure (OpP.len rfl) ?_)
    refine OpsJ.put rfl (OpJ.pure (OpP.move rfl) ?_)
    refine OpsJ.nil ?_
    obtain ⟨t95, hl96, h97⟩ := bind_ok h
    clear h
    refine CodeJ.mid (fun e s => ∃ (n_92 : Int), n_92 = t95 ∧ e = [(5, .int .i64 n_92)] ∧ s = ⟨R, []⟩) ?_ ?_
    · refine CodeJ.block ?_
      refine CodeJ.loopM hl96 (fun (n_62, v63) e s => e = [(1, .slice A1_ p1_tokens.length c1_), (5, .int .i64 n_62), (13, .slice A0_ p0_t.length c0_), (14, .int .i64 ((p0_t.length : Nat) : Int)), (15, .int .i64 v63)] ∧ s = ⟨R, []⟩) ⟨rfl, rfl⟩ (SubE.cons rfl (SubE.cons rfl (SubE.cons rfl (SubE.cons rfl (SubE.cons rfl (SubE.nil _)))))) (SubL.nil _) ?_
      rintro ⟨n_62, v63⟩ _ _ _ ⟨rfl, rfl⟩ h93 hne94
      (try dsimp only at h93); unfold part_Alike_l0 at h93
      refine CodeJ.seq' ?_
      refine CodeJ.region ?_
      refine OpsJ.put rfl (OpJ.pure (OpP.lss rfl rfl) ?_)
      refine OpsJ.nil ?_
      refine CodeJ.seq' ?_
      by_cases hc98 : v63 < ((p0_t.length : Nat) : Int)
      · rw [if_pos hc98] at h93
        refine CodeJ.cond_t rfl (decide_eq_true hc98) ?_
        refine CodeJ.skip ?_
        refine CodeJ.seq' ?_
        refine CodeJ.block ?_
        refine CodeJ.seq' ?_
        refine CodeJ.region ?_
        refine OpsJ.put rfl (OpJ.pure (OpP.move rfl) ?_)
        obtain ⟨x99, hx100, h101⟩ := bind_ok h93
        clear h93
        have hE102 : RC _ (some ((adr A0_).add (Int.toNat v63 * Dat.size (Bool × ByteArray)))) [.bool x99.1, .string x99.2] := SlR.getF (α := Bool × ByteArray) hA0_ hx100
        refine OpsJ.put rfl (OpJ.pure (OpP.ixR hA0_ rfl hx100 (by exact rfl) (by exact rfl) rfl rfl) ?_)
        refine OpsJ.put rfl (OpJ.pure (OpP.ldRN (by exact rfl) hE102 (IM.le_refl _) rfl (by exact rfl)) ?_)
        refine OpsJ.put rfl (OpJ.alloc (fun g103 => ?_))
        refine OpsJ.put rfl (OpJ.pure (OpP.assign rfl) ?_)
        refine OpsJ.act (OpJ.storeC (us := [.bool x99.1, .string x99.2]) (cs := [.bool x99.1, .string x99.2]) rfl rfl rfl (List.Perm.refl _) (by exact rfl) rfl rfl rfl ?_)
        refine OpsJ.nil ?_
        refine CodeJ.seq' ?_
        refine HoldJ.start [.blk g103 [.bool x99.1, .string x99.2] 41] (by kernel_rfl) ?_
        refine HoldJ.take 0 rfl (by kernel_rfl) rfl (OpP.loadN_blk (by exact rfl) rfl (List.Mem.head _) (by exact rfl)) ⟨(IM.le_refl _), (SubL.p0 (SubL.nil _))⟩ ?_
        refine HoldJ.take 1 rfl (by kernel_rfl) rfl (OpP.move rfl) ⟨(IM.le_refl _), (SubL.p0 (SubL.nil _))⟩ ?_
        refine HoldJ.take 2 rfl (by kernel_rfl) rfl (OpP.move rfl) ⟨(IM.le_refl _), (SubL.p0 (SubL.nil _))⟩ ?_
        obtain ⟨x115, hx116, h117⟩ := bind_ok h101
        clear h101
        have hE118 : RC _ (some ((adr A1_).add (Int.toNat v63 * Dat.size (Int × ByteArray)))) [.int .i64 x115.1, .string x115.2] := SlR.getF (α := Int × ByteArray) hA1_ hx116
        refine HoldJ.take 3 rfl (by kernel_rfl) rfl (OpP.ixR hA1_ rfl hx116 (by exact rfl) (by exact rfl) rfl rfl) ⟨(IM.le_refl _), (SubL.p0 (SubL.nil _))⟩ ?_
        refine HoldJ.take 4 rfl (by kernel_rfl) rfl (OpP.ldRN (by exact rfl) hE118 (IM.le_refl _) rfl (by exact rfl)) ⟨(IM.le_refl _), (SubL.p0 (SubL.nil _))⟩ ?_
        obtain ⟨y122, hy123, h124⟩ := bind_ok h117
        clear h117
        refine HoldJ.step 5 rfl (by kernel_rfl) rfl (OpJ.call0 rfl (fun R119 hle120 hin121 => part_is_w R119 (x99.1, x99.2) (x115.1, x115.2)  _ hy123) ?_)
        rintro _ _ _ ⟨rfl, rfl⟩
        refine ⟨⟨(IM.le_refl _), (SubL.p0 (SubL.nil _))⟩, ?_⟩
        refine HoldJ.fin (by kernel_rfl) ?_
        by_cases hc125 : y122 = true
        · rw [if_pos hc125] at h124
          refine CodeJ.cond_t rfl hc125 ?_
          refine CodeJ.region ?_
          refine OpsJ.put rfl (OpJ.pure (OpP.move rfl) ?_)
          refine OpsJ.put rfl (OpJ.pure (OpP.add64 rfl rfl) ?_)
          refine OpsJ.put rfl (OpJ.pure (OpP.assign rfl) ?_)
          refine OpsJ.nil ?_
          refine CodeJ.region ?_
          refine OpsJ.put rfl (OpJ.pure (OpP.add64 rfl rfl) ?_)
          refine OpsJ.put rfl (OpJ.pure (OpP.move rfl) ?_)
          refine OpsJ.nil ?_
          obtain rfl := Option.some.inj h124
          exact ⟨_, _, _, _, rfl, ⟨rfl, rfl⟩, IM.le_refl _, (SubE.cons rfl (SubE.cons rfl (SubE.cons rfl (SubE.cons rfl (SubE.cons rfl (SubE.nil _)))))), (SubL.nil _)⟩
        · rw [if_neg hc125] at h124
          refine CodeJ.cond_f rfl (Bool.eq_false_iff.2 hc125) ?_
          refine CodeJ.skip ?_
          refine CodeJ.region ?_
          refine OpsJ.put rfl (OpJ.pure (OpP.add64 rfl rfl) ?_)
          refine OpsJ.put rfl (OpJ.pure (OpP.move rfl) ?_)
          refine OpsJ.nil ?_
          obtain rfl := Option.some.inj h124
          exact ⟨_, _, _, _, rfl, ⟨rfl, rfl⟩, IM.le_refl _, (SubE.cons rfl (SubE.cons rfl (SubE.cons rfl (SubE.cons rfl (SubE.cons rfl (SubE.nil _)))))), (SubL.nil _)⟩
      · rw [if_neg hc98] at h93
        refine CodeJ.cond_f rfl (decide_eq_false hc98) ?_
        refine CodeJ.exit rfl ?_
        obtain rfl := Option.some.inj h93
        have ht126 := hne94 _ rfl
        exact ⟨_, _, _, ⟨n_62, ht126, rfl, rfl⟩, IM.le_refl _, (SubE.cons rfl (SubE.nil _)), (SubL.nil _)⟩
    · rintro _ _ ⟨n_92, rfl, rfl, rfl⟩
      (try dsimp only at h97)
      refine CodeJ.seq' ?_
      refine CodeJ.region ?_
      refine OpsJ.put rfl (OpJ.pure (OpP.move rfl) ?_)
      refine OpsJ.put rfl (OpJ.pure (OpP.assign rfl) ?_)
      refine OpsJ.nil ?_
      refine CodeJ.ret' ?_
      obtain rfl := Option.some.inj h97
      exact Ret.mk0 ⟨rfl, rfl⟩ (ResJ.one Try.results34 rfl) (IM.le_refl _) (SubL.nil _)
theorem part_Same_w (R : IM) (A0_ : Option Addr) (n0_ c0_ : Nat) (p0_a : List (Bool × ByteArray)) (hA0_ : SlR R A0_ p0_a) (hn0_ : p0_a.length = n0_) (hc0_ : n0_ ≤ c0_) (A1_ : Option Addr) (n1_ c1_ : Nat) (p1_b : List (Bool × ByteArray)) (hA1_ : SlR R A1_ p1_b) (hn1_ : p1_b.length = n1_) (hc1_ : n1_ ≤ c1_) (y : Bool) (h : part_Same p0_a p1_b = some y) :
    CallJ Try.prog 40 #[.slice A0_ n0_ c0_, .slice A1_ n1_ c1_] ⟨R, []⟩ (fun v D hs' => v = .bool y ∧ hs' = []) := by
  subst hn0_
  subst hn1_
  unfold part_Same at h
  refine CallJ.of2 Try.func40 rfl Try.ntmps40 rfl (fun W0 => ?_)
  refine CodeJ.seq' ?_
  refine CodeJ.region ?_
  refine OpsJ.put rfl (OpJ.pure (OpP.assign rfl) ?_)
  refine OpsJ.nil ?_
  refine CodeJ.seq' ?_
  refine CodeJ.region ?_
  refine OpsJ.put rfl (OpJ.pure (OpP.move rfl) ?_)
  refine OpsJ.put rfl (OpJ.pure (OpP.move rfl) ?_)
  obtain ⟨y4, hy5, h6⟩ := bind_ok h
  clear h
  refine OpsJ.put rfl (OpJ.call0 rfl (fun R1 hle2 hin3 => slices_Equal_Part_w R1 A0_ p0_a.length c0_ p0_a (SlR.mono hA0_ (IM.le_trans (IM.le_refl _) hle2)) rfl hc0_ A1_ p1_b.length c1_ p1_b (SlR.mono hA1_ (IM.le_trans (IM.le_refl _) hle2)) rfl hc1_  _ hy5) ?_)
  rintro _ _ _ ⟨rfl, rfl⟩
  refine OpsJ.put rfl (OpJ.pure (OpP.assign rfl) ?_)
  refine OpsJ.nil ?_
  refine CodeJ.ret' ?_
  obtain rfl := Option.some.inj h6
  exact Ret.mk0 ⟨rfl, rfl⟩ (ResJ.one Try.results40 rfl) (IM.le_refl _) (SubL.nil _)
theorem strings_Builder_WriteString_w (R : IM) (g0_ : Nat) (p0_b : List UInt8) (q0_1_ : Option Addr) (hq0_2_ : (q0_1_ = none ∨ q0_1_ = some ⟨g0_, 0, none⟩)) (A0_3_ : Option Addr) (c0_4_ : Nat) (cs0_5_ : List Value) (hr0_6_ : repL IM.nil cs0_5_ p0_b) (p1_s : ByteArray) (y : (List UInt8) × Int) (h : strings_Builder_WriteString p0_b p1_s = some y) :
    CallJ Try.prog 46 #[.pointer (some ⟨g0_, 0, none⟩), .string p1_s] ⟨R, [.blk g0_ [.pointer q0_1_, .slice A0_3_ p0_b.length c0_4_] 78, .row 5 1 A0_3_ p0_b.length c0_4_ cs0_5_]⟩ (fun v D hs' => ∃ (qq1 : Option Addr) (B3 : Option Addr) (d4 : Nat) (ds5 : List Value), v = .tuple #[.int .i64 y.2, .nilIface] ∧ (qq1 = none ∨ qq1 = some ⟨g0_, 0, none⟩) ∧ repL IM.nil ds5 y.1 ∧ hs' = [.blk g0_ [.pointer qq1, .slice B3 y.1.length d4] 78, .row 5 1 B3 y.1.length d4 ds5]) := by
  unfold strings_Builder_WriteString at h
  refine CallJ.of2 Try.func46 rfl Try.ntmps46 rfl (fun W0 => ?_)
  refine CodeJ.seq' ?_
  refine CodeJ.region ?_
  refine OpsJ.put rfl (OpJ.pure (OpP.assign rfl) ?_)
  refine OpsJ.put rfl (OpJ.pure (OpP.assign rfl) ?_)
  refine OpsJ.nil ?_
  refine CodeJ.seq' ?_
  refine CodeJ.region ?_
  refine OpsJ.put rfl (OpJ.pure (OpP.move rfl) ?_)
  obtain ⟨y6, hy7, h8⟩ := bind_ok h
  clear h
  refine OpsJ.put rfl (OpJ.callP (Split.p0 (Split.p0 Split.nil)) rfl (fun R3 hle4 hin5 => strings_Builder_copyCheck_w R3 g0_ p0_b q0_1_ hq0_2_ A0_3_ c0_4_ cs0_5_ hr0_6_  _ hy7) ?_)
  rintro _ _ _ ⟨q9, A11, c12, cs13, rfl, hq10, hr14, rfl⟩
  refine OpsJ.nil ?_
  refine CodeJ.seq' ?_
  refine CodeJ.region ?_
  refine OpsJ.put rfl (OpJ.pure (OpP.move rfl) ?_)
  refine OpsJ.put rfl (OpJ.pure (OpP.move rfl) ?_)
  refine OpsJ.put rfl (OpJ.pure (OpP.nilCheck rfl) ?_)
  refine OpsJ.put rfl (OpJ.pure (OpP.fldAddr_lit rfl (by exact rfl)) ?_)
  refine OpsJ.put rfl (OpJ.pure (OpP.load_blk (by exact rfl) rfl (List.Mem.head _) rfl) ?_)
  refine OpsJ.put rfl (OpJ.pure (OpP.move rfl) ?_)
  obtain ⟨q16, hq17, h18⟩ := bind_ok h8
  clear h8
  refine OpsJ.put rfl (OpJ.appStr (by kernel_rfl) hq17 hr14 rfl (List.Perm.swap _ _ _) rfl rfl (fun A19 c20 cs21 hr22 => ?_))
  refine OpsJ.put rfl (OpJ.pure (OpP.nilCheck rfl) ?_)
  refine OpsJ.put rfl (OpJ.pure (OpP.fldAddr_lit rfl (by exact rfl)) ?_)
  refine OpsJ.act (OpJ.storeC (us := [.slice A19 q16.length c20]) (cs := [.pointer q9, .slice A19 q16.length c20]) rfl rfl rfl (List.Perm.swap _ _ _) (by exact rfl) rfl rfl rfl ?_)
  refine OpsJ.nil ?_
  refine CodeJ.seq' ?_
  refine CodeJ.region ?_
  refine OpsJ.put rfl (OpJ.pure (OpP.move rfl) ?_)
  refine OpsJ.put rfl (OpJ.pure (OpP.len_string rfl) ?_)
  refine OpsJ.put rfl (OpJ.pure (OpP.assign rfl) ?_)
  refine OpsJ.put rfl (OpJ.pure (OpP.assign rfl) ?_)
  refine OpsJ.nil ?_
  refine CodeJ.ret' ?_
  obtain rfl := Option.some.inj h18
  exact Ret.mk0 ⟨q9, A19, c20, cs21, rfl, hq10, hr22, rfl⟩ (ResJ.two Try.results46 rfl rfl) (IM.le_refl _) (SubL.p0 (SubL.p0 (SubL.nil _)))
theorem part_Fits_w (R : IM) (A0_ : Option Addr) (n0_ c0_ : Nat) (p0_t : List (Bool × ByteArray)) (hA0_ : SlR R A0_ p0_t) (hn0_ : p0_t.length = n0_) (hc0_ : n0_ ≤ c0_) (A1_ : Option Addr) (n1_ c1_ : Nat) (p1_tokens : List (Int × ByteArray)) (hA1_ : SlR R A1_ p1_tokens) (hn1_ : p1_tokens.length = n1_) (hc1_ : n1_ ≤ c1_) (y : Bool) (h : part_Fits p0_t p1_tokens = some y) :
    CallJ Try.prog 20 #[.slice A0_ n0_ c0_, .slice A1_ n1_ c1_] ⟨R, []⟩ (fun v D hs' => v = .bool y ∧ hs' = []) := by
  subst hn0_
  subst hn1_
  unfold part_Fits at h
  refine CallJ.of2 Try.func20 rfl Try.ntmps20 rfl (fun W0 => ?_)
  refine CodeJ.seq' ?_
  refine CodeJ.region ?_
  refine OpsJ.put rfl (OpJ.pure (OpP.assign rfl) ?_)
  refine OpsJ.nil ?_
  refine CodeJ.seq' ?_
  refine CodeJ.region ?_
  refine OpsJ.put rfl (OpJ.pure (OpP.move rfl) ?_)
  refine OpsJ.put rfl (OpJ.pure (OpP.move rfl) ?_)
  obtain ⟨y4, hy5, h6⟩ := bind_ok h
  clear h
  refine OpsJ.put rfl (OpJ.call0 rfl (fun R1 hle2 hin3 => part_Alike_w R1 A0_ p0_t.length c0_ p0_t (SlR.mono hA0_ (IM.le_trans (IM.le_refl _) hle2)) rfl hc0_ A1_ p1_tokens.length c1_ p1_tokens (SlR.mono hA1_ (IM.le_trans (IM.le_refl _) hle2)) rfl hc1_  _ hy5) ?_)
  rintro _ _ _ ⟨rfl, rfl⟩
  refine OpsJ.put rfl (OpJ.pure (OpP.move rfl) ?_)
  refine OpsJ.put rfl (OpJ.pure (OpP.len rfl) ?_)
  refine OpsJ.put rfl (OpJ.pure (OpP.eql rfl rfl) ?_)
  refine OpsJ.put rfl (OpJ.pure (OpP.assign rfl) ?_)
  refine OpsJ.nil ?_
  refine CodeJ.ret' ?_
  obtain rfl := Option.some.inj h6
  exact Ret.mk0 ⟨rfl, rfl⟩ (ResJ.one Try.results20 rfl) (IM.le_refl _) (SubL.nil _)
theorem winnowerlaw14_known_w (R : IM)  (y : Bool) (h : winnowerlaw14_known = some y) :
    CallJ Try.prog 22 #[] ⟨R, []⟩ (fun v D hs' => v = .bool y ∧ hs' = []) := by
  unfold winnowerlaw14_known at h
  refine CallJ.of0 Try.func22 rfl Try.ntmps22 (fun W0 => ?_)
  refine CodeJ.seq' ?_
  refine CodeJ.region ?_
  refine OpsJ.put rfl (OpJ.pure (OpP.assign rfl) ?_)
  refine OpsJ.nil ?_
  refine CodeJ.seq' ?_
  refine CodeJ.region ?_
  refine OpsJ.put rfl (OpJ.pure (OpP.buildC (cs := [.int .i64 6, .string (⟨#[117, 112]⟩ : ByteArray)]) rfl (by exact rfl) (by exact rfl)) ?_)
  refine OpsJ.put rfl (OpJ.pure (OpP.buildC (cs := [.int .i64 4, .string (⟨#[51]⟩ : ByteArray)]) rfl (by exact rfl) (by exact rfl)) ?_)
  have hr2 : repL IM.nil [.int .i64 6, .string (⟨#[117, 112]⟩ : ByteArray), .int .i64 4, .string (⟨#[51]⟩ : ByteArray)] ([(6, (⟨#[117, 112]⟩ : ByteArray)), (4, (⟨#[51]⟩ : ByteArray))] : List (Int × ByteArray)) := (repL_cons (c1 := [.int .i64 6, .string (⟨#[117, 112]⟩ : ByteArray)]) (show Dat.rep _ _ (6, (⟨#[117, 112]⟩ : ByteArray)) from ⟨[.int .i64 6], [.string (⟨#[117, 112]⟩ : ByteArray)], rfl, rfl, rfl⟩) (repL_cons (c1 := [.int .i64 4, .string (⟨#[51]⟩ : ByteArray)]) (show Dat.rep _ _ (4, (⟨#[51]⟩ : ByteArray)) from ⟨[.int .i64 4], [.string (⟨#[51]⟩ : ByteArray)], rfl, rfl, rfl⟩) (repL_nil _)))
  refine OpsJ.put rfl (OpJ.buildSliceC (cs := [.int .i64 6, .string (⟨#[117, 112]⟩ : ByteArray), .int .i64 4, .string (⟨#[51]⟩ : ByteArray)]) rfl rfl (by exact rfl) (by exact rfl) (by exact rfl) (by exact rfl) (fun g1 => ?_))
  refine OpsJ.put rfl (OpJ.pure (OpP.assign rfl) ?_)
  refine OpsJ.nil ?_
  refine CodeJ.seq' ?_
  refine CodeJ.region ?_
  refine OpsJ.put rfl (OpJ.pure (OpP.move rfl) ?_)
  refine OpsJ.rowle (List.Perm.refl _) (fun hcap4 _ => ?_)
  obtain ⟨y8, hy9, h10⟩ := bind_ok h
  clear h
  refine OpsJ.put rfl (OpJ.callP Split.nil rfl (fun R5 hle6 hin7 => part_Of_w R5 (some ⟨g1, 0, none⟩) 2 2 ([(6, (⟨#[117, 112]⟩ : ByteArray)), (4, (⟨#[51]⟩ : ByteArray))] : List (Int × ByteArray)) (SlR.of_row (inRow hin7 (List.Mem.head _)) hr2 (IM.le_nil _)) rfl hcap4  _ hy9) ?_)
  rintro _ _ _ ⟨A11, c12, cs13, rfl, hr14, rfl⟩
  refine OpsJ.put rfl (OpJ.pure (OpP.assign rfl) ?_)
  refine OpsJ.nil ?_
  refine CodeJ.seq' ?_
  refine CodeJ.region ?_
  refine OpsJ.put rfl (OpJ.pure (OpP.move rfl) ?_)
  refine OpsJ.put rfl (OpJ.pure (OpP.len rfl) ?_)
  refine OpsJ.put rfl (OpJ.pure (OpP.eql rfl rfl) ?_)
  refine OpsJ.put rfl (OpJ.pure (OpP.move rfl) ?_)
  by_cases hc16 : ((y8.length : Nat) : Int) = 2
  · rw [if_pos hc16] at h10
    refine OpsJ.guard_y rfl rfl rfl rfl (decide_eq_true hc16) ?_
    refine OpsJ.put rfl (OpJ.pure (OpP.move rfl) ?_)
    refine OpsJ.guard_y rfl rfl rfl rfl (decide_eq_true hc16) ?_
    obtain ⟨x17, hx18, h19⟩ := bind_ok h10
    clear h10
    have hE20 : ∀ j v, ([.bool x17.1, .string x17.2] : List Value)[j]? = some v → (cs13)[Int.toNat 0 * Dat.size (Bool × ByteArray) + j]? = some v := row_getF (α := Bool × ByteArray) hr14 hx18
    refine OpsJ.put rfl (OpJ.pure (OpP.ixW (List.Mem.head _) hr14 rfl hx18 (by exact rfl) (by exact rfl) rfl rfl) ?_)
    refine OpsJ.guard_y rfl rfl rfl rfl (decide_eq_true hc16) ?_
    refine OpsJ.put rfl (OpJ.pure (OpP.fldAddr rfl (by exact rfl)) ?_)
    refine OpsJ.guard_y rfl rfl rfl rfl (decide_eq_true hc16) ?_
    refine OpsJ.put rfl (OpJ.pure (OpP.ldW (by exact rfl) (List.Mem.head _) hE20 rfl rfl) ?_)
    refine OpsJ.guard_y rfl rfl rfl rfl (decide_eq_true hc16) ?_
    refine OpsJ.put rfl (OpJ.pure (OpP.eql_string rfl rfl) ?_)
    refine OpsJ.put rfl (OpJ.pure (OpP.pick_t rfl (decide_eq_true hc16) rfl) ?_)
    refine OpsJ.put rfl (OpJ.pure (OpP.move rfl) ?_)
    by_cases hc21 : x17.2 = (⟨#[117, 112]⟩ : ByteArray)
    · rw [if_pos hc21] at h19
      refine OpsJ.guard_y rfl rfl rfl rfl (decide_eq_true hc21) ?_
      refine OpsJ.put rfl (OpJ.pure (OpP.move rfl) ?_)
      refine OpsJ.guard_y rfl rfl rfl rfl (decide_eq_true hc21) ?_
      obtain ⟨x22, hx23, h24⟩ := bind_ok h19
      clear h19
      have hE25 : ∀ j v, ([.bool x22.1, .string x22.2] : List Value)[j]? = some v → (cs13)[Int.toNat 1 * Dat.size (Bool × ByteArray) + j]? = some v := row_getF (α := Bool × ByteArray) hr14 hx23
      refine OpsJ.put rfl (OpJ.pure (OpP.ixW (List.Mem.head _) hr14 rfl hx23 (by exact rfl) (by exact rfl) rfl rfl) ?_)
      refine OpsJ.guard_y rfl rfl rfl rfl (decide_eq_true hc21) ?_
      refine OpsJ.put rfl (OpJ.pure (OpP.fldAddr rfl (by exact rfl)) ?_)
      refine OpsJ.guard_y rfl rfl rfl rfl (decide_eq_true hc21) ?_
      refine OpsJ.put rfl (OpJ.pure (OpP.ldW (by exact rfl) (List.Mem.head _) hE25 rfl rfl) ?_)
      refine OpsJ.put rfl (OpJ.pure (OpP.pick_t rfl (decide_eq_true hc21) rfl) ?_)
      refine OpsJ.put rfl (OpJ.pure (OpP.move rfl) ?_)
      by_cases hc26 : x22.1 = true
      · rw [if_pos hc26] at h24
        refine OpsJ.guard_y rfl rfl rfl rfl hc26 ?_
        refine OpsJ.put rfl (OpJ.pure (OpP.move rfl) ?_)
        refine OpsJ.guard_y rfl rfl rfl rfl hc26 ?_
        refine OpsJ.rowle (List.Perm.refl _) (fun hcap27 _ => ?_)
        obtain ⟨y31, hy32, h33⟩ := bind_ok h24
        clear h24
        refine OpsJ.put rfl (OpJ.call0 rfl (fun R28 hle29 hin30 => part_Wild_w R28 A11 y8.length c12 y8 (SlR.of_row (inRow hin30 (List.Mem.head _)) hr14 (IM.le_nil _)) rfl hcap27  _ hy32) ?_)
        rintro _ _ _ ⟨rfl, rfl⟩
        refine OpsJ.guard_y rfl rfl rfl rfl hc26 ?_
        refine OpsJ.put rfl (OpJ.pure (OpP.eql rfl rfl) ?_)
        refine OpsJ.put rfl (OpJ.pure (OpP.pick_t rfl hc26 rfl) ?_)
        refine OpsJ.put rfl (OpJ.pure (OpP.move rfl) ?_)
        by_cases hc34 : y31 = 1
        · rw [if_pos hc34] at h33
          refine OpsJ.guard_y rfl rfl rfl rfl (decide_eq_true hc34) ?_
          refine OpsJ.put rfl (OpJ.pure (OpP.move rfl) ?_)
          refine OpsJ.guard_y rfl rfl rfl rfl (decide_eq_true hc34) ?_
          refine OpsJ.put rfl (OpJ.pure (OpP.move rfl) ?_)
          refine OpsJ.guard_y rfl rfl rfl rfl (decide_eq_true hc34) ?_
          refine OpsJ.rowle (List.Perm.refl _) (fun hcap35 _ => ?_)
          refine OpsJ.rowle (List.Perm.swap _ _ _) (fun hcap36 _ => ?_)
          obtain ⟨y40, hy41, h42⟩ := bind_ok h33
          clear h33
          refine OpsJ.put rfl (OpJ.call0 rfl (fun R37 hle38 hin39 => part_Fits_w R37 A11 y8.length c12 y8 (SlR.of_row (inRow hin39 (List.Mem.head _)) hr14 (IM.le_nil _)) rfl hcap35 (some ⟨g1, 0, none⟩) 2 2 ([(6, (⟨#[117, 112]⟩ : ByteArray)), (4, (⟨#[51]⟩ : ByteArray))] : List (Int × ByteArray)) (SlR.of_row (inRow hin39 (List.Mem.tail _ (List.Mem.head _))) hr2 (IM.le_nil _)) rfl hcap36  _ hy41) ?_)
          rintro _ _ _ ⟨rfl, rfl⟩
          refine OpsJ.put rfl (OpJ.pure (OpP.pick_t rfl (decide_eq_true hc34) rfl) ?_)
          refine OpsJ.put rfl (OpJ.pure (OpP.assign rfl) ?_)
          refine OpsJ.nil ?_
          refine CodeJ.ret' ?_
          obtain rfl := Option.some.inj h42
          exact Ret.mk0 ⟨rfl, rfl⟩ (ResJ.one Try.results22 rfl) (IM.le_refl _) (SubL.nil _)
        · rw [if_neg hc34] at h33
          refine OpsJ.guard_n rfl rfl rfl rfl (decide_eq_false hc34) ?_
          refine OpsJ.guard_n rfl rfl rfl rfl (decide_eq_false hc34) ?_
          refine OpsJ.guard_n rfl rfl rfl rfl (decide_eq_false hc34) ?_
          refine OpsJ.put rfl (OpJ.pure (OpP.pick_f rfl (decide_eq_false hc34) rfl) ?_)
          refine OpsJ.put rfl (OpJ.pure (OpP.assign rfl) ?_)
          refine OpsJ.nil ?_
          refine CodeJ.ret' ?_
          obtain rfl := Option.some.inj h33
          exact Ret.mk0 ⟨rfl, rfl⟩ (ResJ.one Try.results22 rfl) (IM.le_refl _) (SubL.nil _)
      · rw [if_neg hc26] at h24
        refine OpsJ.guard_n rfl rfl rfl rfl (Bool.eq_false_iff.2 hc26) ?_
        refine OpsJ.guard_n rfl rfl rfl rfl (Bool.eq_false_iff.2 hc26) ?_
        refine OpsJ.guard_n rfl rfl rfl rfl (Bool.eq_false_iff.2 hc26) ?_
        refine OpsJ.put rfl (OpJ.pure (OpP.pick_f rfl (Bool.eq_false_iff.2 hc26) rfl) ?_)
        refine OpsJ.put rfl (OpJ.pure (OpP.move rfl) ?_)
        refine OpsJ.guard_n rfl rfl rfl rfl rfl ?_
        refine OpsJ.guard_n rfl rfl rfl rfl rfl ?_
        refine OpsJ.guard_n rfl rfl rfl rfl rfl ?_
        refine OpsJ.put rfl (OpJ.pure (OpP.pick_f rfl rfl rfl) ?_)
        refine OpsJ.put rfl (OpJ.pure (OpP.assign rfl) ?_)
        refine OpsJ.nil ?_
        refine CodeJ.ret' ?_
        obtain rfl := Option.some.inj h24
        exact Ret.mk0 ⟨rfl, rfl⟩ (ResJ.one Try.results22 rfl) (IM.le_refl _) (SubL.nil _)
    · rw [if_neg hc21] at h19
      refine OpsJ.guard_n rfl rfl rfl rfl (decide_eq_false hc21) ?_
      refine OpsJ.guard_n rfl rfl rfl rfl (decide_eq_false hc21) ?_
      refine OpsJ.guard_n rfl rfl rfl rfl (decide_eq_false hc21) ?_
      refine OpsJ.guard_n rfl rfl rfl rfl (decide_eq_false hc21) ?_
      refine OpsJ.put rfl (OpJ.pure (OpP.pick_f rfl (decide_eq_false hc21) rfl) ?_)
      refine OpsJ.put rfl (OpJ.pure (OpP.move rfl) ?_)
      refine OpsJ.guard_n rfl rfl rfl rfl rfl ?_
      refine OpsJ.guard_n rfl rfl rfl rfl rfl ?_
      refine OpsJ.guard_n rfl rfl rfl rfl rfl ?_
      refine OpsJ.put rfl (OpJ.pure (OpP.pick_f rfl rfl rfl) ?_)
      refine OpsJ.put rfl (OpJ.pure (OpP.move rfl) ?_)
      refine OpsJ.guard_n rfl rfl rfl rfl rfl ?_
      refine OpsJ.guard_n rfl rfl rfl rfl rfl ?_
      refine OpsJ.guard_n rfl rfl rfl rfl rfl ?_
      refine OpsJ.put rfl (OpJ.pure (OpP.pick_f rfl rfl rfl) ?_)
      refine OpsJ.put rfl (OpJ.pure (OpP.assign rfl) ?_)
      refine OpsJ.nil ?_
      refine CodeJ.ret' ?_
      obtain rfl := Option.some.inj h19
      exact Ret.mk0 ⟨rfl, rfl⟩ (ResJ.one Try.results22 rfl) (IM.le_refl _) (SubL.nil _)
  · rw [if_neg hc16] at h10
    refine OpsJ.guard_n rfl rfl rfl rfl (decide_eq_false hc16) ?_
    refine OpsJ.guard_n rfl rfl rfl rfl (decide_eq_false hc16) ?_
    refine OpsJ.guard_n rfl rfl rfl rfl (decide_eq_false hc16) ?_
    refine OpsJ.guard_n rfl rfl rfl rfl (decide_eq_false hc16) ?_
    refine OpsJ.guard_n rfl rfl rfl rfl (decide_eq_false hc16) ?_
    refine OpsJ.put rfl (OpJ.pure (OpP.pick_f rfl (decide_eq_false hc16) rfl) ?_)
    refine OpsJ.put rfl (OpJ.pure (OpP.move rfl) ?_)
    refine OpsJ.guard_n rfl rfl rfl rfl rfl ?_
    refine OpsJ.guard_n rfl rfl rfl rfl rfl ?_
    refine OpsJ.guard_n rfl rfl rfl rfl rfl ?_
    refine OpsJ.guard_n rfl rfl rfl rfl rfl ?_
    refine OpsJ.put rfl (OpJ.pure (OpP.pick_f rfl rfl rfl) ?_)
    refine OpsJ.put rfl (OpJ.pure (OpP.move rfl) ?_)
    refine OpsJ.guard_n rfl rfl rfl rfl rfl ?_
    refine OpsJ.guard_n rfl rfl rfl rfl rfl ?_
    refine OpsJ.guard_n rfl rfl rfl rfl rfl ?_
    refine OpsJ.put rfl (OpJ.pure (OpP.pick_f rfl rfl rfl) ?_)
    refine OpsJ.put rfl (OpJ.pure (OpP.move rfl) ?_)
    refine OpsJ.guard_n rfl rfl rfl rfl rfl ?_
    refine OpsJ.guard_n rfl rfl rfl rfl rfl ?_
    refine OpsJ.guard_n rfl rfl rfl rfl rfl ?_
    refine OpsJ.put rfl (OpJ.pure (OpP.pick_f rfl rfl rfl) ?_)
    refine OpsJ.put rfl (OpJ.pure (OpP.assign rfl) ?_)
    refine OpsJ.nil ?_
    refine CodeJ.ret' ?_
    obtain rfl := Option.some.inj h10
    exact Ret.mk0 ⟨rfl, rfl⟩ (ResJ.one Try.results22 rfl) (IM.le_refl _) (SubL.nil _)
theorem part_Render_w (R : IM) (A0_ : Option Addr) (n0_ c0_ : Nat) (p0_t : List (Bool × ByteArray)) (hA0_ : SlR R A0_ p0_t) (hn0_ : p0_t.length = n0_) (hc0_ : n0_ ≤ c0_) (A1_ : Option Addr) (n1_ c1_ : Nat) (p1_vars : List ByteArray) (hA1_ : SlR R A1_ p1_vars) (hn1_ : p1_vars.length = n1_) (hc1_ : n1_ ≤ c1_) (y : ByteArray × Int) (h : part_Render p0_t p1_vars = some y) :
    CallJ Try.prog 26 #[.slice A0_ n0_ c0_, .slice A1_ n1_ c1_] ⟨R, []⟩ (fun v D hs' => v = .tuple #[.string y.1, .int .i64 y.2] ∧ hs' = []) := by
  subst hn0_
  subst hn1_
  unfold part_Render at h
  refine CallJ.of2 Try.func26 rfl Try.ntmps26 rfl (fun W0 => ?_)
  refine CodeJ.seq' ?_
  refine CodeJ.region ?_
  refine OpsJ.put rfl (OpJ.pure (OpP.assign rfl) ?_)
  refine OpsJ.put rfl (OpJ.pure (OpP.assign rfl) ?_)
  refine OpsJ.nil ?_
  refine CodeJ.seq' ?_
  refine CodeJ.seq' ?_
  refine CodeJ.region ?_
  refine OpsJ.put rfl (OpJ.pure (OpP.move rfl) ?_)
  refine OpsJ.put rfl (OpJ.pure (OpP.len rfl) ?_)
  refine OpsJ.put rfl (OpJ.pure (OpP.move rfl) ?_)
  obtain ⟨y4, hy5, h6⟩ := bind_ok h
  clear h
  refine OpsJ.put rfl (OpJ.call0 rfl (fun R1 hle2 hin3 => part_Wild_w R1 A0_ p0_t.length c0_ p0_t (SlR.mono hA0_ (IM.le_trans (IM.le_refl _) hle2)) rfl hc0_  _ hy5) ?_)
  rintro _ _ _ ⟨rfl, rfl⟩
  refine OpsJ.put rfl (OpJ.pure (OpP.neq rfl rfl) ?_)
  refine OpsJ.nil ?_
  by_cases hc7 : ((p1_vars.length : Nat) : Int) ≠ y4
  · rw [if_pos hc7] at h6
    refine CodeJ.cond_t rfl (decide_eq_true hc7) ?_
    refine CodeJ.seq' ?_
    refine CodeJ.region ?_
    refine OpsJ.put rfl (OpJ.pure (OpP.assign rfl) ?_)
    refine OpsJ.put rfl (OpJ.pure (OpP.assign rfl) ?_)
    refine OpsJ.nil ?_
    refine CodeJ.ret' ?_
    obtain rfl := Option.some.inj h6
    exact Ret.mk0 ⟨rfl, rfl⟩ (ResJ.two Try.results26 rfl rfl) (IM.le_refl _) (SubL.nil _)
  · rw [if_neg hc7] at h6
    refine CodeJ.cond_f rfl (decide_eq_false hc7) ?_
    refine CodeJ.skip ?_
    refine CodeJ.seq' ?_
    refine CodeJ.region ?_
    refine OpsJ.put rfl (OpJ.alloc (fun g10 => ?_))
    refine OpsJ.nil ?_
    refine CodeJ.seq' ?_
    refine CodeJ.seq' ?_
    refine CodeJ.region ?_
    refine OpsJ.put rfl (OpJ.pure (OpP.move rfl) ?_)
    refine OpsJ.put rfl (OpJ.pure (OpP.len rfl) ?_)
    refine OpsJ.put rfl (OpJ.pure (OpP.move rfl) ?_)
    refine OpsJ.nil ?_
    refine CodeJ.nilrow 5 1 ?_
    obtain ⟨t179, hl180, h181⟩ := bind_ok h6
    clear h6
    refine CodeJ.mid (fun e s => ∃ (q169 : Option Addr) (A172 : Option Addr) (c173 : Nat) (cs174 : List Value) (f171 : List UInt8), f171 = t179 ∧ (q169 = none ∨ q169 = some ⟨g10, 0, none⟩) ∧ repL IM.nil cs174 f171 ∧ e = [(6, .pointer (some ⟨g10, 0, none⟩))] ∧ s = ⟨R, [.blk g10 [.pointer q169, .slice A172 f171.length c173] 78, .row 5 1 A172 f171.length c173 cs174]⟩) ?_ ?_
    · refine CodeJ.block ?_
      refine CodeJ.loopM hl180 (fun (vars_113, v118, f121) e s => ∃ (A114 : Option Addr) (c115 : Nat) (q119 : Option Addr) (A122 : Option Addr) (c123 : Nat) (cs124 : List Value), vars_113.length ≤ c115 ∧ SlR R A114 vars_113 ∧ (q119 = none ∨ q119 = some ⟨g10, 0, none⟩) ∧ repL IM.nil cs124 f121 ∧ e = [(1, .slice A114 vars_113.length c115), (6, .pointer (some ⟨g10, 0, none⟩)), (14, .slice A0_ p0_t.length c0_), (15, .int .i64 ((p0_t.length : Nat) : Int)), (16, .int .i64 v118)] ∧ s = ⟨R, [.blk g10 [.pointer q119, .slice A122 f121.length c123] 78, .row 5 1 A122 f121.length c123 cs124]⟩) ⟨A1_, c1_, none, none, 0, ([] : List Value), hc1_, (SlR.mono hA1_ (IM.le_refl _)), (.inl rfl), (repL_nil IM.nil), rfl, rfl⟩ (SubE.cons rfl (SubE.cons rfl (SubE.cons rfl (SubE.cons rfl (SubE.cons rfl (SubE.nil _)))))) (SubL.p1 (SubL.p0 (SubL.nil _))) ?_
      rintro ⟨vars_113, v118, f121⟩ _ _ _ ⟨A114, c115, q119, A122, c123, cs124, hc117, hA116, hq120, hr125, rfl, rfl⟩ h177 hne178
      (try dsimp only at h177); unfold part_Render_l0 at h177
      refine CodeJ.seq' ?_
      refine CodeJ.region ?_
      refine OpsJ.put rfl (OpJ.pure (OpP.lss rfl rfl) ?_)
      refine OpsJ.nil ?_
      refine CodeJ.seq' ?_
      by_cases hc182 : v118 < ((p0_t.length : Nat) : Int)
      · rw [if_pos hc182] at h177
        refine CodeJ.cond_t rfl (decide_eq_true hc182) ?_
        refine CodeJ.skip ?_
        refine CodeJ.seq' ?_
        refine CodeJ.block ?_
        refine CodeJ.seq' ?_
        refine CodeJ.region ?_
        obtain ⟨x183, hx184, h185⟩ := bind_ok h177
        clear h177
        have hE186 : RC _ (some ((adr A0_).add (Int.toNat v118 * Dat.size (Bool × ByteArray)))) [.bool x183.1, .string x183.2] := SlR.getF (α := Bool × ByteArray) hA0_ hx184
        refine OpsJ.put rfl (OpJ.pure (OpP.ixR hA0_ rfl hx184 (by exact rfl) (by exact rfl) rfl rfl) ?_)
        refine OpsJ.put rfl (OpJ.pure (OpP.ldRN (by exact rfl) hE186 (IM.le_refl _) rfl (by exact rfl)) ?_)
        refine OpsJ.put rfl (OpJ.alloc (fun g187 => ?_))
        refine OpsJ.act (OpJ.storeC (us := [.bool x183.1, .string x183.2]) (cs := [.bool x183.1, .string x183.2]) rfl rfl rfl (List.Perm.refl _) (by exact rfl) rfl rfl rfl ?_)
        refine OpsJ.nil ?_
        refine CodeJ.seq' ?_
        refine CodeJ.region ?_
        refine OpsJ.put rfl (OpJ.pure (OpP.fldAddr_lit rfl (by exact rfl)) ?_)
        refine OpsJ.put rfl (OpJ.pure (OpP.load_blk (by exact rfl) rfl (List.Mem.head _) rfl) ?_)
        refine OpsJ.nil ?_
        by_cases hc189 : x183.1 = true
        · rw [if_pos hc189] at h185
          refine CodeJ.cond_t rfl hc189 ?_
          refine CodeJ.seq' ?_
          refine CodeJ.region ?_
          refine OpsJ.put rfl (OpJ.pure (OpP.move rfl) ?_)
          obtain ⟨x190, hx191, h192⟩ := bind_ok h185
          clear h185
          have hE193 : RC _ (some ((adr A114).add (Int.toNat 0 * Dat.size ByteArray))) [.string x190] := SlR.getF (α := ByteArray) hA116 hx191
          refine OpsJ.put rfl (OpJ.pure (OpP.ixR hA116 rfl hx191 (by exact rfl) (by exact rfl) rfl rfl) ?_)
          refine OpsJ.put rfl (OpJ.pure (OpP.ldR0 (by exact rfl) hE193 (IM.le_refl _) rfl rfl) ?_)
          obtain ⟨y197, hy198, h199⟩ := bind_ok h192
          clear h192
          refine OpsJ.put rfl (OpJ.callP (Split.p1 (Split.p1 Split.nil)) rfl (fun R194 hle195 hin196 => strings_Builder_WriteString_w R194 g10 f121 q119 hq120 A122 c123 cs124 hr125 x190  _ hy198) ?_)
          rintro _ _ _ ⟨q200, A202, c203, cs204, rfl, hq201, hr205, rfl⟩
          refine OpsJ.nil ?_
          refine CodeJ.region ?_
          refine OpsJ.put rfl (OpJ.pure (OpP.move rfl) ?_)
          obtain ⟨q207, hq208, h210⟩ := bind_ok h199
          clear h199
          have hA209 : SlR R (cutA A114 (Int.toNat 1) c115 1) q207 := SlR.cut hA116 hq208 hc117
          refine OpsJ.put rfl (OpJ.pure (OpP.cutLo hq208 rfl rfl rfl) ?_)
          refine OpsJ.put rfl (OpJ.pure (OpP.assign rfl) ?_)
          refine OpsJ.nil ?_
          refine CodeJ.region ?_
          refine OpsJ.put rfl (OpJ.pure (OpP.add64 rfl rfl) ?_)
          refine OpsJ.put rfl (OpJ.pure (OpP.move rfl) ?_)
          refine OpsJ.nil ?_
          obtain rfl := Option.some.inj h210
          exact ⟨_, _, _, _, rfl, ⟨(cutA A114 (Int.toNat 1) c115 1), (c115 - Int.toNat 1), q200, A202, c203, cs204, (sub_cap hq208 hc117), (SlR.mono hA209 (IM.le_refl _)), hq201, hr205, rfl, rfl⟩, IM.le_refl _, (SubE.cons rfl (SubE.cons rfl (SubE.cons rfl (SubE.cons rfl (SubE.cons rfl (SubE.nil _)))))), (SubL.p0 (SubL.p0 (SubL.nil _)))⟩
        · rw [if_neg hc189] at h185
          refine CodeJ.cond_f rfl (Bool.eq_false_iff.2 hc189) ?_
          refine CodeJ.region ?_
          refine OpsJ.put rfl (OpJ.pure (OpP.fldAddr_lit rfl (by exact rfl)) ?_)
          refine OpsJ.put rfl (OpJ.pure (OpP.load_blk (by exact rfl) rfl (List.Mem.head _) rfl) ?_)
          obtain ⟨y214, hy215, h216⟩ := bind_ok h185
          clear h185
          refine OpsJ.put rfl (OpJ.callP (Split.p1 (Split.p1 Split.nil)) rfl (fun R211 hle212 hin213 => strings_Builder_WriteString_w R211 g10 f121 q119 hq120 A122 c123 cs124 hr125 x183.2  _ hy215) ?_)
          rintro _ _ _ ⟨q217, A219, c220, cs221, rfl, hq218, hr222, rfl⟩
          refine OpsJ.nil ?_
          refine CodeJ.region ?_
          refine OpsJ.put rfl (OpJ.pure (OpP.add64 rfl rfl) ?_)
          refine OpsJ.put rfl (OpJ.pure (OpP.move rfl) ?_)
          refine OpsJ.nil ?_
          obtain rfl := Option.some.inj h216
          exact ⟨_, _, _, _, rfl, ⟨A114, c115, q217, A219, c220, cs221, hc117, (SlR.mono hA116 (IM.le_refl _)), hq218, hr222, rfl, rfl⟩, IM.le_refl _, (SubE.cons rfl (SubE.cons rfl (SubE.cons rfl (SubE.cons rfl (SubE.cons rfl (SubE.nil _)))))), (SubL.p0 (SubL.p0 (SubL.nil _)))⟩
      · rw [if_neg hc182] at h177
        refine CodeJ.cond_f rfl (decide_eq_false hc182) ?_
        refine CodeJ.exit rfl ?_
        obtain rfl := Option.some.inj h177
        have ht224 := hne178 _ rfl
        exact ⟨_, _, _, ⟨q119, A122, c123, cs124, f121, ht224, hq120, hr125, rfl, rfl⟩, IM.le_refl _, (SubE.cons rfl (SubE.nil _)), (SubL.p0 (SubL.p0 (SubL.nil _)))⟩
    · rintro _ _ ⟨q169, A172, c173, cs174, f171, rfl, hq170, hr175, rfl, rfl⟩
      (try dsimp only at h181)
      refine CodeJ.seq' ?_
      refine CodeJ.region ?_
      obtain ⟨y228, hy229, h230⟩ := bind_ok h181
      clear h181
      refine OpsJ.put rfl (OpJ.callP (Split.p0 (Split.p0 Split.nil)) rfl (fun R225 hle226 hin227 => strings_Builder_String_w R225 g10 f171 q169 hq170 A172 c173 cs174 hr175  _ hy229) ?_)
      rintro _ _ _ ⟨rfl, rfl⟩
      refine OpsJ.put rfl (OpJ.pure (OpP.assign rfl) ?_)
      refine OpsJ.put rfl (OpJ.pure (OpP.assign rfl) ?_)
      refine OpsJ.nil ?_
      refine CodeJ.ret' ?_
      obtain rfl := Option.some.inj h230
      exact Ret.mk0 ⟨rfl, rfl⟩ (ResJ.two Try.results26 rfl rfl) (IM.le_refl _) (SubL.nil _)
end Go.Proofs.Ytcbnamlioeiaeaa.FW
