/- printed by ex.py: walks -/
import Derived.Test.YtcbnamlioeiaeaaX3
import Derived.Test.YtcbnamlioeiaeaaT2
import Derived.Test.YtcbnamlioeiaeaaPlQ
namespace Go.Proofs.Ytcbnamlioeiaeaa.FW
open Go Go.RowKit Go.Proofs
set_option linter.unusedVariables false
set_option linter.unusedSimpArgs false
set_option maxRecDepth 100000
set_option maxHeartbeats 4000000
attribute [local irreducible] OpsJ CodeJ OpJ OpQ OpP QuietJ CallJ HoldJ StepAt Src RC SlR repL
theorem winnowerref19_Is_w (R : IM) (A0_ : Option Addr) (n0_ c0_ : Nat) (p0_l : List (Int × Int × Int)) (hA0_ : SlR R A0_ p0_l) (hn0_ : p0_l.length = n0_) (hc0_ : n0_ ≤ c0_) (y : Bool) (h : winnowerref19_Is p0_l = some y) :
    CallJ Try.prog 12 #[.slice A0_ n0_ c0_] ⟨R, []⟩ (fun v D hs' => v = .bool y ∧ hs' = []) := by
  subst hn0_
  unfold winnowerref19_Is at h
  refine CallJ.of1 Try.func12 rfl Try.ntmps12 rfl (fun W0 => ?_)
  refine CodeJ.seq' ?_
  refine CodeJ.region ?_
  refine OpsJ.put rfl (OpJ.pure (OpP.assign rfl) ?_)
  refine OpsJ.nil ?_
  refine CodeJ.seq' ?_
  refine CodeJ.seq' ?_
  refine CodeJ.region ?_
  refine OpsJ.put rfl (OpJ.pure (OpP.assign rfl) ?_)
  refine OpsJ.nil ?_
  obtain ⟨t257, hl258, h259⟩ := bind_ok h
  clear h
  refine CodeJ.mid (fun e s => .inr () = t257 ∧ e = [] ∧ s = ⟨R, []⟩) ?_ ?_
  · refine CodeJ.block ?_
    refine CodeJ.loopM hl258 (fun i_168 e s => e = [(0, .slice A0_ p0_l.length c0_), (3, .int .i64 i_168)] ∧ s = ⟨R, []⟩) ⟨rfl, rfl⟩ (SubE.cons rfl (SubE.cons rfl (SubE.nil _))) (SubL.nil _) ?_
    rintro i_168 _ _ _ ⟨rfl, rfl⟩ h255 hne256
    (try dsimp only at h255); unfold winnowerref19_Is_l1 at h255
    refine CodeJ.seq' ?_
    refine CodeJ.seq' ?_
    refine CodeJ.region ?_
    refine OpsJ.put rfl (OpJ.pure (OpP.move rfl) ?_)
    refine OpsJ.put rfl (OpJ.pure (OpP.move rfl) ?_)
    refine OpsJ.put rfl (OpJ.pure (OpP.len rfl) ?_)
    refine OpsJ.put rfl (OpJ.pure (OpP.lss rfl rfl) ?_)
    refine OpsJ.nil ?_
    by_cases hc260 : i_168 < ((p0_l.length : Nat) : Int)
    · rw [if_pos hc260] at h255
      refine CodeJ.cond_t rfl (decide_eq_true hc260) ?_
      refine CodeJ.skip ?_
      refine CodeJ.seq' ?_
      refine CodeJ.block ?_
      refine CodeJ.seq' ?_
      refine CodeJ.region ?_
      refine OpsJ.put rfl (OpJ.pure (OpP.move rfl) ?_)
      refine OpsJ.put rfl (OpJ.pure (OpP.move rfl) ?_)
      obtain ⟨x261, hx262, h263⟩ := bind_ok h255
      clear h255
      have hE264 : RC _ (some ((adr A0_).add (Int.toNat i_168 * Dat.size (Int × Int × Int)))) [.int .i64 x261.1, .int .i64 x261.2.1, .int .i64 x261.2.2] := SlR.getF (α := Int × Int × Int) hA0_ hx262
      refine OpsJ.put rfl (OpJ.pure (OpP.ixR hA0_ rfl hx262 (by exact rfl) (by exact rfl) rfl rfl) ?_)
      refine OpsJ.put rfl (OpJ.pure (OpP.ldRN (by exact rfl) hE264 (IM.le_refl _) rfl (by exact rfl)) ?_)
      refine OpsJ.put rfl (OpJ.alloc (fun g265 => ?_))
      refine OpsJ.act (OpJ.storeC (us := [.int .i64 x261.1, .int .i64 x261.2.1, .int .i64 x261.2.2]) (cs := [.int .i64 x261.1, .int .i64 x261.2.1, .int .i64 x261.2.2]) rfl rfl rfl (List.Perm.refl _) (by exact rfl) rfl rfl rfl ?_)
      refine OpsJ.nil ?_
      refine CodeJ.seq' ?_
      refine CodeJ.seq' ?_
      refine CodeJ.region ?_
      refine OpsJ.put rfl (OpJ.pure (OpP.fldAddr_lit rfl (by exact rfl)) ?_)
      refine OpsJ.put rfl (OpJ.pure (OpP.load_blk (by exact rfl) rfl (List.Mem.head _) rfl) ?_)
      refine OpsJ.put rfl (OpJ.pure (OpP.lss rfl rfl) ?_)
      refine OpsJ.put rfl (OpJ.pure (OpP.move rfl) ?_)
      by_cases hc267 : x261.1 < 1
      · rw [if_pos hc267] at h263
        refine OpsJ.guard_n rfl rfl rfl rfl (decide_eq_true hc267) ?_
        refine OpsJ.guard_n rfl rfl rfl rfl (decide_eq_true hc267) ?_
        refine OpsJ.guard_n rfl rfl rfl rfl (decide_eq_true hc267) ?_
        refine OpsJ.put rfl (OpJ.pure (OpP.pick_t rfl (decide_eq_true hc267) rfl) ?_)
        refine OpsJ.put rfl (OpJ.pure (OpP.move rfl) ?_)
        refine OpsJ.guard_n rfl rfl rfl rfl rfl ?_
        refine OpsJ.guard_n rfl rfl rfl rfl rfl ?_
        refine OpsJ.guard_n rfl rfl rfl rfl rfl ?_
        refine OpsJ.put rfl (OpJ.pure (OpP.pick_t rfl rfl rfl) ?_)
        refine OpsJ.put rfl (OpJ.pure (OpP.move rfl) ?_)
        refine OpsJ.guard_n rfl rfl rfl rfl rfl ?_
        refine OpsJ.guard_n rfl rfl rfl rfl rfl ?_
        refine OpsJ.guard_n rfl rfl rfl rfl rfl ?_
        refine OpsJ.put rfl (OpJ.pure (OpP.pick_t rfl rfl rfl) ?_)
        refine OpsJ.put rfl (OpJ.pure (OpP.move rfl) ?_)
        refine OpsJ.guard_n rfl rfl rfl rfl rfl ?_
        refine OpsJ.guard_n rfl rfl rfl rfl rfl ?_
        refine OpsJ.guard_n rfl rfl rfl rfl rfl ?_
        refine OpsJ.put rfl (OpJ.pure (OpP.pick_t rfl rfl rfl) ?_)
        refine OpsJ.put rfl (OpJ.pure (OpP.move rfl) ?_)
        refine OpsJ.guard_n rfl rfl rfl rfl rfl ?_
        refine OpsJ.guard_n rfl rfl rfl rfl rfl ?_
        refine OpsJ.guard_n rfl rfl rfl rfl rfl ?_
        refine OpsJ.put rfl (OpJ.pure (OpP.pick_t rfl rfl rfl) ?_)
        refine OpsJ.nil ?_
        refine CodeJ.cond_t rfl rfl ?_
        refine CodeJ.seq' ?_
        refine CodeJ.region ?_
        refine OpsJ.put rfl (OpJ.pure (OpP.assign rfl) ?_)
        refine OpsJ.nil ?_
        obtain rfl := Option.some.inj h263
        have ht268 := hne256 _ rfl
        subst ht268
        simp only [Sum.elim_inl] at h259
        refine CodeJ.ret' ?_
        obtain rfl := Option.some.inj h259
        exact Ret.mk0 ⟨rfl, rfl⟩ (ResJ.one Try.results12 rfl) (IM.le_refl _) (SubL.nil _)
      · rw [if_neg hc267] at h263
        refine OpsJ.guard_y rfl rfl rfl rfl (decide_eq_false hc267) ?_
        refine OpsJ.put rfl (OpJ.pure (OpP.fldAddr_lit rfl (by exact rfl)) ?_)
        refine OpsJ.guard_y rfl rfl rfl rfl (decide_eq_false hc267) ?_
        refine OpsJ.put rfl (OpJ.pure (OpP.load_blk (by exact rfl) rfl (List.Mem.head _) rfl) ?_)
        refine OpsJ.guard_y rfl rfl rfl rfl (decide_eq_false hc267) ?_
        refine OpsJ.put rfl (OpJ.pure (OpP.gtr rfl rfl) ?_)
        refine OpsJ.put rfl (OpJ.pure (OpP.pick_f rfl (decide_eq_false hc267) rfl) ?_)
        refine OpsJ.put rfl (OpJ.pure (OpP.move rfl) ?_)
        by_cases hc269 : x261.1 > 34359738368
        · rw [if_pos hc269] at h263
          refine OpsJ.guard_n rfl rfl rfl rfl (decide_eq_true hc269) ?_
          refine OpsJ.guard_n rfl rfl rfl rfl (decide_eq_true hc269) ?_
          refine OpsJ.guard_n rfl rfl rfl rfl (decide_eq_true hc269) ?_
          refine OpsJ.put rfl (OpJ.pure (OpP.pick_t rfl (decide_eq_true hc269) rfl) ?_)
          refine OpsJ.put rfl (OpJ.pure (OpP.move rfl) ?_)
          refine OpsJ.guard_n rfl rfl rfl rfl rfl ?_
          refine OpsJ.guard_n rfl rfl rfl rfl rfl ?_
          refine OpsJ.guard_n rfl rfl rfl rfl rfl ?_
          refine OpsJ.put rfl (OpJ.pure (OpP.pick_t rfl rfl rfl) ?_)
          refine OpsJ.put rfl (OpJ.pure (OpP.move rfl) ?_)
          refine OpsJ.guard_n rfl rfl rfl rfl rfl ?_
          refine OpsJ.guard_n rfl rfl rfl rfl rfl ?_
          refine OpsJ.guard_n rfl rfl rfl rfl rfl ?_
          refine OpsJ.put rfl (OpJ.pure (OpP.pick_t rfl rfl rfl) ?_)
          refine OpsJ.put rfl (OpJ.pure (OpP.move rfl) ?_)
          refine OpsJ.guard_n rfl rfl rfl rfl rfl ?_
          refine OpsJ.guard_n rfl rfl rfl rfl rfl ?_
          refine OpsJ.guard_n rfl rfl rfl rfl rfl ?_
          refine OpsJ.put rfl (OpJ.pure (OpP.pick_t rfl rfl rfl) ?_)
          refine OpsJ.nil ?_
          refine CodeJ.cond_t rfl rfl ?_
          refine CodeJ.seq' ?_
          refine CodeJ.region ?_
          refine OpsJ.put rfl (OpJ.pure (OpP.assign rfl) ?_)
          refine OpsJ.nil ?_
          obtain rfl := Option.some.inj h263
          have ht270 := hne256 _ rfl
          subst ht270
          simp only [Sum.elim_inl] at h259
          refine CodeJ.ret' ?_
          obtain rfl := Option.some.inj h259
          exact Ret.mk0 ⟨rfl, rfl⟩ (ResJ.one Try.results12 rfl) (IM.le_refl _) (SubL.nil _)
        · rw [if_neg hc269] at h263
          refine OpsJ.guard_y rfl rfl rfl rfl (decide_eq_false hc269) ?_
          refine OpsJ.put rfl (OpJ.pure (OpP.fldAddr_lit rfl (by exact rfl)) ?_)
          refine OpsJ.guard_y rfl rfl rfl rfl (decide_eq_false hc269) ?_
          refine OpsJ.put rfl (OpJ.pure (OpP.load_blk (by exact rfl) rfl (List.Mem.head _) rfl) ?_)
          refine OpsJ.guard_y rfl rfl rfl rfl (decide_eq_false hc269) ?_
          refine OpsJ.put rfl (OpJ.pure (OpP.lss rfl rfl) ?_)
          refine OpsJ.put rfl (OpJ.pure (OpP.pick_f rfl (decide_eq_false hc269) rfl) ?_)
          refine OpsJ.put rfl (OpJ.pure (OpP.move rfl) ?_)
          by_cases hc271 : x261.2.1 < 0
          · rw [if_pos hc271] at h263
            refine OpsJ.guard_n rfl rfl rfl rfl (decide_eq_true hc271) ?_
            refine OpsJ.guard_n rfl rfl rfl rfl (decide_eq_true hc271) ?_
            refine OpsJ.guard_n rfl rfl rfl rfl (decide_eq_true hc271) ?_
            refine OpsJ.put rfl (OpJ.pure (OpP.pick_t rfl (decide_eq_true hc271) rfl) ?_)
            refine OpsJ.put rfl (OpJ.pure (OpP.move rfl) ?_)
            refine OpsJ.guard_n rfl rfl rfl rfl rfl ?_
            refine OpsJ.guard_n rfl rfl rfl rfl rfl ?_
            refine OpsJ.guard_n rfl rfl rfl rfl rfl ?_
            refine OpsJ.put rfl (OpJ.pure (OpP.pick_t rfl rfl rfl) ?_)
            refine OpsJ.put rfl (OpJ.pure (OpP.move rfl) ?_)
            refine OpsJ.guard_n rfl rfl rfl rfl rfl ?_
            refine OpsJ.guard_n rfl rfl rfl rfl rfl ?_
            refine OpsJ.guard_n rfl rfl rfl rfl rfl ?_
            refine OpsJ.put rfl (OpJ.pure (OpP.pick_t rfl rfl rfl) ?_)
            refine OpsJ.nil ?_
            refine CodeJ.cond_t rfl rfl ?_
            refine CodeJ.seq' ?_
            refine CodeJ.region ?_
            refine OpsJ.put rfl (OpJ.pure (OpP.assign rfl) ?_)
            refine OpsJ.nil ?_
            obtain rfl := Option.some.inj h263
            have ht272 := hne256 _ rfl
            subst ht272
            simp only [Sum.elim_inl] at h259
            refine CodeJ.ret' ?_
            obtain rfl := Option.some.inj h259
            exact Ret.mk0 ⟨rfl, rfl⟩ (ResJ.one Try.results12 rfl) (IM.le_refl _) (SubL.nil _)
          · rw [if_neg hc271] at h263
            refine OpsJ.guard_y rfl rfl rfl rfl (decide_eq_false hc271) ?_
            refine OpsJ.put rfl (OpJ.pure (OpP.fldAddr_lit rfl (by exact rfl)) ?_)
            refine OpsJ.guard_y rfl rfl rfl rfl (decide_eq_false hc271) ?_
            refine OpsJ.put rfl (OpJ.pure (OpP.load_blk (by exact rfl) rfl (List.Mem.head _) rfl) ?_)
            refine OpsJ.guard_y rfl rfl rfl rfl (decide_eq_false hc271) ?_
            refine OpsJ.put rfl (OpJ.pure (OpP.gtr rfl rfl) ?_)
            refine OpsJ.put rfl (OpJ.pure (OpP.pick_f rfl (decide_eq_false hc271) rfl) ?_)
            refine OpsJ.put rfl (OpJ.pure (OpP.move rfl) ?_)
            by_cases hc273 : x261.2.1 > 34359738368
            · rw [if_pos hc273] at h263
              refine OpsJ.guard_n rfl rfl rfl rfl (decide_eq_true hc273) ?_
              refine OpsJ.guard_n rfl rfl rfl rfl (decide_eq_true hc273) ?_
              refine OpsJ.guard_n rfl rfl rfl rfl (decide_eq_true hc273) ?_
              refine OpsJ.put rfl (OpJ.pure (OpP.pick_t rfl (decide_eq_true hc273) rfl) ?_)
              refine OpsJ.put rfl (OpJ.pure (OpP.move rfl) ?_)
              refine OpsJ.guard_n rfl rfl rfl rfl rfl ?_
              refine OpsJ.guard_n rfl rfl rfl rfl rfl ?_
              refine OpsJ.guard_n rfl rfl rfl rfl rfl ?_
              refine OpsJ.put rfl (OpJ.pure (OpP.pick_t rfl rfl rfl) ?_)
              refine OpsJ.nil ?_
              refine CodeJ.cond_t rfl rfl ?_
              refine CodeJ.seq' ?_
              refine CodeJ.region ?_
              refine OpsJ.put rfl (OpJ.pure (OpP.assign rfl) ?_)
              refine OpsJ.nil ?_
              obtain rfl := Option.some.inj h263
              have ht274 := hne256 _ rfl
              subst ht274
              simp only [Sum.elim_inl] at h259
              refine CodeJ.ret' ?_
              obtain rfl := Option.some.inj h259
              exact Ret.mk0 ⟨rfl, rfl⟩ (ResJ.one Try.results12 rfl) (IM.le_refl _) (SubL.nil _)
            · rw [if_neg hc273] at h263
              refine OpsJ.guard_y rfl rfl rfl rfl (decide_eq_false hc273) ?_
              refine OpsJ.put rfl (OpJ.pure (OpP.fldAddr_lit rfl (by exact rfl)) ?_)
              refine OpsJ.guard_y rfl rfl rfl rfl (decide_eq_false hc273) ?_
              refine OpsJ.put rfl (OpJ.pure (OpP.load_blk (by exact rfl) rfl (List.Mem.head _) rfl) ?_)
              refine OpsJ.guard_y rfl rfl rfl rfl (decide_eq_false hc273) ?_
              refine OpsJ.put rfl (OpJ.pure (OpP.lss rfl rfl) ?_)
              refine OpsJ.put rfl (OpJ.pure (OpP.pick_f rfl (decide_eq_false hc273) rfl) ?_)
              refine OpsJ.put rfl (OpJ.pure (OpP.move rfl) ?_)
              by_cases hc275 : x261.2.2 < 1
              · rw [if_pos hc275] at h263
                refine OpsJ.guard_n rfl rfl rfl rfl (decide_eq_true hc275) ?_
                refine OpsJ.guard_n rfl rfl rfl rfl (decide_eq_true hc275) ?_
                refine OpsJ.guard_n rfl rfl rfl rfl (decide_eq_true hc275) ?_
                refine OpsJ.put rfl (OpJ.pure (OpP.pick_t rfl (decide_eq_true hc275) rfl) ?_)
                refine OpsJ.nil ?_
                refine CodeJ.cond_t rfl rfl ?_
                refine CodeJ.seq' ?_
                refine CodeJ.region ?_
                refine OpsJ.put rfl (OpJ.pure (OpP.assign rfl) ?_)
                refine OpsJ.nil ?_
                obtain rfl := Option.some.inj h263
                have ht276 := hne256 _ rfl
                subst ht276
                simp only [Sum.elim_inl] at h259
                refine CodeJ.ret' ?_
                obtain rfl := Option.some.inj h259
                exact Ret.mk0 ⟨rfl, rfl⟩ (ResJ.one Try.results12 rfl) (IM.le_refl _) (SubL.nil _)
              · rw [if_neg hc275] at h263
                refine OpsJ.guard_y rfl rfl rfl rfl (decide_eq_false hc275) ?_
                refine OpsJ.put rfl (OpJ.pure (OpP.fldAddr_lit rfl (by exact rfl)) ?_)
                refine OpsJ.guard_y rfl rfl rfl rfl (decide_eq_false hc275) ?_
                refine OpsJ.put rfl (OpJ.pure (OpP.load_blk (by exact rfl) rfl (List.Mem.head _) rfl) ?_)
                refine OpsJ.guard_y rfl rfl rfl rfl (decide_eq_false hc275) ?_
                refine OpsJ.put rfl (OpJ.pure (OpP.gtr rfl rfl) ?_)
                refine OpsJ.put rfl (OpJ.pure (OpP.pick_f rfl (decide_eq_false hc275) rfl) ?_)
                refine OpsJ.nil ?_
                by_cases hc277 : x261.2.2 > 512
                · rw [if_pos hc277] at h263
                  refine CodeJ.cond_t rfl (decide_eq_true hc277) ?_
                  refine CodeJ.seq' ?_
                  refine CodeJ.region ?_
                  refine OpsJ.put rfl (OpJ.pure (OpP.assign rfl) ?_)
                  refine OpsJ.nil ?_
                  obtain rfl := Option.some.inj h263
                  have ht278 := hne256 _ rfl
                  subst ht278
                  simp only [Sum.elim_inl] at h259
                  refine CodeJ.ret' ?_
                  obtain rfl := Option.some.inj h259
                  exact Ret.mk0 ⟨rfl, rfl⟩ (ResJ.one Try.results12 rfl) (IM.le_refl _) (SubL.nil _)
                · rw [if_neg hc277] at h263
                  refine CodeJ.cond_f rfl (decide_eq_false hc277) ?_
                  refine CodeJ.skip ?_
                  refine CodeJ.seq' ?_
                  refine CodeJ.seq' ?_
                  refine CodeJ.drawn (by kernel_rfl) (by kernel_rfl) ?_
                  refine QuietJ.put rfl (OpQ.pure (OpP.move rfl) ?_)
                  refine QuietJ.put rfl (OpQ.pure (OpP.gtr rfl rfl) ?_)
                  refine QuietJ.put rfl (OpQ.pure (OpP.move rfl) ?_)
                  by_cases hc279 : i_168 > 0
                  · rw [if_pos hc279] at h263
                    refine QuietJ.guard_y rfl rfl rfl rfl (decide_eq_true hc279) ?_
                    refine QuietJ.put rfl (OpQ.pure (OpP.fldAddr_lit rfl (by exact rfl)) ?_)
                    refine QuietJ.guard_y rfl rfl rfl rfl (decide_eq_true hc279) ?_
                    refine QuietJ.put rfl (OpQ.pure (OpP.load_blk (by exact rfl) rfl (List.Mem.head _) rfl) ?_)
                    refine QuietJ.guard_y rfl rfl rfl rfl (decide_eq_true hc279) ?_
                    refine QuietJ.put rfl (OpQ.pure (OpP.move rfl) ?_)
                    refine QuietJ.guard_y rfl rfl rfl rfl (decide_eq_true hc279) ?_
                    refine QuietJ.put rfl (OpQ.pure (OpP.move rfl) ?_)
                    refine QuietJ.guard_y rfl rfl rfl rfl (decide_eq_true hc279) ?_
                    refine QuietJ.put rfl (OpQ.pure (OpP.sub64 rfl rfl) ?_)
                    refine QuietJ.guard_y rfl rfl rfl rfl (decide_eq_true hc279) ?_
                    obtain ⟨x280, hx281, h282⟩ := bind_ok h263
                    clear h263
                    have hE283 : RC _ (some ((adr A0_).add (Int.toNat (w64 (i_168 - 1)) * Dat.size (Int × Int × Int)))) [.int .i64 x280.1, .int .i64 x280.2.1, .int .i64 x280.2.2] := SlR.getF (α := Int × Int × Int) hA0_ hx281
                    refine QuietJ.put rfl (OpQ.pure (OpP.ixR hA0_ rfl hx281 (by exact rfl) (by exact rfl) rfl rfl) ?_)
                    refine QuietJ.guard_y rfl rfl rfl rfl (decide_eq_true hc279) ?_
                    refine QuietJ.put rfl (OpQ.pure (OpP.fldAddr rfl (by exact rfl)) ?_)
                    refine QuietJ.guard_y rfl rfl rfl rfl (decide_eq_true hc279) ?_
                    refine QuietJ.put rfl (OpQ.pure (OpP.ldR (by exact rfl) hE283 (IM.le_refl _) rfl rfl) ?_)
                    refine QuietJ.guard_y rfl rfl rfl rfl (decide_eq_true hc279) ?_
                    refine QuietJ.put rfl (OpQ.pure (OpP.move rfl) ?_)
                    refine QuietJ.guard_y rfl rfl rfl rfl (decide_eq_true hc279) ?_
                    refine QuietJ.put rfl (OpQ.pure (OpP.move rfl) ?_)
                    refine QuietJ.guard_y rfl rfl rfl rfl (decide_eq_true hc279) ?_
                    refine QuietJ.put rfl (OpQ.pure (OpP.sub64 rfl rfl) ?_)
                    refine QuietJ.guard_y rfl rfl rfl rfl (decide_eq_true hc279) ?_
                    have hE284 : RC _ (some ((adr A0_).add (Int.toNat (w64 (i_168 - 1)) * Dat.size (Int × Int × Int)))) [.int .i64 x280.1, .int .i64 x280.2.1, .int .i64 x280.2.2] := SlR.getF (α := Int × Int × Int) hA0_ hx281
                    refine QuietJ.put rfl (OpQ.pure (OpP.ixR hA0_ rfl hx281 (by exact rfl) (by exact rfl) rfl rfl) ?_)
                    refine QuietJ.guard_y rfl rfl rfl rfl (decide_eq_true hc279) ?_
                    refine QuietJ.put rfl (OpQ.pure (OpP.fldAddr rfl (by exact rfl)) ?_)
                    refine QuietJ.guard_y rfl rfl rfl rfl (decide_eq_true hc279) ?_
                    refine QuietJ.put rfl (OpQ.pure (OpP.ldR (by exact rfl) hE284 (IM.le_refl _) rfl rfl) ?_)
                    refine QuietJ.guard_y rfl rfl rfl rfl (decide_eq_true hc279) ?_
                    refine QuietJ.put rfl (OpQ.pure (OpP.add64 rfl rfl) ?_)
                    refine QuietJ.guard_y rfl rfl rfl rfl (decide_eq_true hc279) ?_
                    refine QuietJ.put rfl (OpQ.pure (OpP.neq rfl rfl) ?_)
                    refine QuietJ.put rfl (OpQ.pure (OpP.pick_t rfl (decide_eq_true hc279) rfl) ?_)
                    refine QuietJ.nil ?_
                    by_cases hc285 : x261.2.1 ≠ w64 (x280.2.1 + x280.2.2)
                    · rw [if_pos hc285] at h282
                      refine CodeJ.cond_t rfl (decide_eq_true hc285) ?_
                      refine CodeJ.seq' ?_
                      refine CodeJ.region ?_
                      refine OpsJ.put rfl (OpJ.pure (OpP.assign rfl) ?_)
                      refine OpsJ.nil ?_
                      obtain rfl := Option.some.inj h282
                      have ht286 := hne256 _ rfl
                      subst ht286
                      simp only [Sum.elim_inl] at h259
                      refine CodeJ.ret' ?_
                      obtain rfl := Option.some.inj h259
                      exact Ret.mk0 ⟨rfl, rfl⟩ (ResJ.one Try.results12 rfl) (IM.le_refl _) (SubL.nil _)
                    · rw [if_neg hc285] at h282
                      refine CodeJ.cond_f rfl (decide_eq_false hc285) ?_
                      refine CodeJ.skip ?_
                      refine CodeJ.seq' ?_
                      refine CodeJ.region ?_
                      refine OpsJ.put rfl (OpJ.pure (OpP.assign rfl) ?_)
                      refine OpsJ.nil ?_
                      obtain ⟨t309, hl310, h311⟩ := bind_ok h282
                      clear h282
                      refine CodeJ.mid (fun e s => .inr () = t309 ∧ e = [(0, .slice A0_ p0_l.length c0_), (3, .int .i64 i_168)] ∧ s = ⟨R, []⟩) ?_ ?_
                      · refine CodeJ.block ?_
                        refine CodeJ.loopM hl310 (fun k_300 e s => e = [(0, .slice A0_ p0_l.length c0_), (3, .int .i64 i_168), (4, .pointer (some ⟨g265, 0, none⟩)), (5, .int .i64 k_300)] ∧ s = ⟨R, [.blk g265 [.int .i64 x261.1, .int .i64 x261.2.1, .int .i64 x261.2.2] 27]⟩) ⟨rfl, rfl⟩ (SubE.cons rfl (SubE.cons rfl (SubE.cons rfl (SubE.cons rfl (SubE.nil _))))) (SubL.p0 (SubL.nil _)) ?_
                        rintro k_300 _ _ _ ⟨rfl, rfl⟩ h307 hne308
                        (try dsimp only at h307); unfold winnowerref19_Is_l0 at h307
                        refine CodeJ.seq' ?_
                        refine CodeJ.seq' ?_
                        refine CodeJ.region ?_
                        refine OpsJ.put rfl (OpJ.pure (OpP.move rfl) ?_)
                        refine OpsJ.put rfl (OpJ.pure (OpP.move rfl) ?_)
                        refine OpsJ.put rfl (OpJ.pure (OpP.lss rfl rfl) ?_)
                        refine OpsJ.nil ?_
                        by_cases hc312 : k_300 < i_168
                        · rw [if_pos hc312] at h307
                          refine CodeJ.cond_t rfl (decide_eq_true hc312) ?_
                          refine CodeJ.skip ?_
                          refine CodeJ.seq' ?_
                          refine CodeJ.block ?_
                          refine CodeJ.seq' ?_
                          refine CodeJ.drawn (by kernel_rfl) (by kernel_rfl) ?_
                          refine QuietJ.put rfl (OpQ.pure (OpP.move rfl) ?_)
                          refine QuietJ.put rfl (OpQ.pure (OpP.move rfl) ?_)
                          obtain ⟨x313, hx314, h315⟩ := bind_ok h307
                          clear h307
                          have hE316 : RC _ (some ((adr A0_).add (Int.toNat k_300 * Dat.size (Int × Int × Int)))) [.int .i64 x313.1, .int .i64 x313.2.1, .int .i64 x313.2.2] := SlR.getF (α := Int × Int × Int) hA0_ hx314
                          refine QuietJ.put rfl (OpQ.pure (OpP.ixR hA0_ rfl hx314 (by exact rfl) (by exact rfl) rfl rfl) ?_)
                          refine QuietJ.put rfl (OpQ.pure (OpP.fldAddr rfl (by exact rfl)) ?_)
                          refine QuietJ.put rfl (OpQ.pure (OpP.ldR (by exact rfl) hE316 (IM.le_refl _) rfl rfl) ?_)
                          refine QuietJ.put rfl (OpQ.pure (OpP.fldAddr_lit rfl (by exact rfl)) ?_)
                          refine QuietJ.put rfl (OpQ.pure (OpP.load_blk (by exact rfl) rfl (List.Mem.head _) rfl) ?_)
                          refine QuietJ.put rfl (OpQ.pure (OpP.eql rfl rfl) ?_)
                          refine QuietJ.nil ?_
                          by_cases hc317 : x313.1 = x261.1
                          · rw [if_pos hc317] at h315
                            refine CodeJ.cond_t rfl (decide_eq_true hc317) ?_
                            refine CodeJ.seq' ?_
                            refine CodeJ.region ?_
                            refine OpsJ.put rfl (OpJ.pure (OpP.assign rfl) ?_)
                            refine OpsJ.nil ?_
                            obtain rfl := Option.some.inj h315
                            have ht318 := hne308 _ rfl
                            subst ht318
                            simp only [Sum.elim_inl] at h311
                            obtain rfl := Option.some.inj h311
                            have ht319 := hne256 _ rfl
                            subst ht319
                            simp only [Sum.elim_inl] at h259
                            refine CodeJ.ret' ?_
                            obtain rfl := Option.some.inj h259
                            exact Ret.mk0 ⟨rfl, rfl⟩ (ResJ.one Try.results12 rfl) (IM.le_refl _) (SubL.nil _)
                          · rw [if_neg hc317] at h315
                            refine CodeJ.cond_f rfl (decide_eq_false hc317) ?_
                            refine CodeJ.skip ?_
                            refine CodeJ.region ?_
                            refine OpsJ.put rfl (OpJ.pure (OpP.move rfl) ?_)
                            refine OpsJ.put rfl (OpJ.pure (OpP.add64 rfl rfl) ?_)
                            refine OpsJ.put rfl (OpJ.pure (OpP.assign rfl) ?_)
                            refine OpsJ.nil ?_
                            obtain rfl := Option.some.inj h315
                            exact ⟨_, _, _, _, rfl, ⟨rfl, rfl⟩, IM.le_refl _, (SubE.cons rfl (SubE.cons rfl (SubE.cons rfl (SubE.cons rfl (SubE.nil _))))), (SubL.p0 (SubL.nil _))⟩
                        · rw [if_neg hc312] at h307
                          refine CodeJ.cond_f rfl (decide_eq_false hc312) ?_
                          refine CodeJ.exit rfl ?_
                          obtain rfl := Option.some.inj h307
                          have ht320 := hne308 _ rfl
                          exact ⟨_, _, _, ⟨ht320, rfl, rfl⟩, IM.le_refl _, (SubE.cons rfl (SubE.cons rfl (SubE.nil _))), (SubL.nil _)⟩
                      · rintro _ _ ⟨rfl, rfl, rfl⟩
                        simp only [Sum.elim_inr] at h311
                        refine CodeJ.region ?_
                        refine OpsJ.put rfl (OpJ.pure (OpP.move rfl) ?_)
                        refine OpsJ.put rfl (OpJ.pure (OpP.add64 rfl rfl) ?_)
                        refine OpsJ.put rfl (OpJ.pure (OpP.assign rfl) ?_)
                        refine OpsJ.nil ?_
                        obtain rfl := Option.some.inj h311
                        exact ⟨_, _, _, _, rfl, ⟨rfl, rfl⟩, IM.le_refl _, (SubE.cons rfl (SubE.cons rfl (SubE.nil _))), (SubL.nil _)⟩
                  · rw [if_neg hc279] at h263
                    refine QuietJ.guard_n rfl rfl rfl rfl (decide_eq_false hc279) ?_
                    refine QuietJ.guard_n rfl rfl rfl rfl (decide_eq_false hc279) ?_
                    refine QuietJ.guard_n rfl rfl rfl rfl (decide_eq_false hc279) ?_
                    refine QuietJ.guard_n rfl rfl rfl rfl (decide_eq_false hc279) ?_
                    refine QuietJ.guard_n rfl rfl rfl rfl (decide_eq_false hc279) ?_
                    refine QuietJ.guard_n rfl rfl rfl rfl (decide_eq_false hc279) ?_
                    refine QuietJ.guard_n rfl rfl rfl rfl (decide_eq_false hc279) ?_
                    refine QuietJ.guard_n rfl rfl rfl rfl (decide_eq_false hc279) ?_
                    refine QuietJ.guard_n rfl rfl rfl rfl (decide_eq_false hc279) ?_
                    refine QuietJ.guard_n rfl rfl rfl rfl (decide_eq_false hc279) ?_
                    refine QuietJ.guard_n rfl rfl rfl rfl (decide_eq_false hc279) ?_
                    refine QuietJ.guard_n rfl rfl rfl rfl (decide_eq_false hc279) ?_
                    refine QuietJ.guard_n rfl rfl rfl rfl (decide_eq_false hc279) ?_
                    refine QuietJ.guard_n rfl rfl rfl rfl (decide_eq_false hc279) ?_
                    refine QuietJ.guard_n rfl rfl rfl rfl (decide_eq_false hc279) ?_
                    refine QuietJ.guard_n rfl rfl rfl rfl (decide_eq_false hc279) ?_
                    refine QuietJ.put rfl (OpQ.pure (OpP.pick_f rfl (decide_eq_false hc279) rfl) ?_)
                    refine QuietJ.nil ?_
                    refine CodeJ.cond_f rfl rfl ?_
                    refine CodeJ.skip ?_
                    refine CodeJ.seq' ?_
                    refine CodeJ.region ?_
                    refine OpsJ.put rfl (OpJ.pure (OpP.assign rfl) ?_)
                    refine OpsJ.nil ?_
                    obtain ⟨t343, hl344, h345⟩ := bind_ok h263
                    clear h263
                    refine CodeJ.mid (fun e s => .inr () = t343 ∧ e = [(0, .slice A0_ p0_l.length c0_), (3, .int .i64 i_168)] ∧ s = ⟨R, []⟩) ?_ ?_
                    · refine CodeJ.block ?_
                      refine CodeJ.loopM hl344 (fun k_334 e s => e = [(0, .slice A0_ p0_l.length c0_), (3, .int .i64 i_168), (4, .pointer (some ⟨g265, 0, none⟩)), (5, .int .i64 k_334)] ∧ s = ⟨R, [.blk g265 [.int .i64 x261.1, .int .i64 x261.2.1, .int .i64 x261.2.2] 27]⟩) ⟨rfl, rfl⟩ (SubE.cons rfl (SubE.cons rfl (SubE.cons rfl (SubE.cons rfl (SubE.nil _))))) (SubL.p0 (SubL.nil _)) ?_
                      rintro k_334 _ _ _ ⟨rfl, rfl⟩ h341 hne342
                      (try dsimp only at h341); unfold winnowerref19_Is_l0 at h341
                      refine CodeJ.seq' ?_
                      refine CodeJ.seq' ?_
                      refine CodeJ.region ?_
                      refine OpsJ.put rfl (OpJ.pure (OpP.move rfl) ?_)
                      refine OpsJ.put rfl (OpJ.pure (OpP.move rfl) ?_)
                      refine OpsJ.put rfl (OpJ.pure (OpP.lss rfl rfl) ?_)
                      refine OpsJ.nil ?_
                      by_cases hc346 : k_334 < i_168
                      · rw [if_pos hc346] at h341
                        refine CodeJ.cond_t rfl (decide_eq_true hc346) ?_
                        refine CodeJ.skip ?_
                        refine CodeJ.seq' ?_
                        refine CodeJ.block ?_
                        refine CodeJ.seq' ?_
                        refine CodeJ.drawn (by kernel_rfl) (by kernel_rfl) ?_
                        refine QuietJ.put rfl (OpQ.pure (OpP.move rfl) ?_)
                        refine QuietJ.put rfl (OpQ.pure (OpP.move rfl) ?_)
                        obtain ⟨x347, hx348, h349⟩ := bind_ok h341
                        clear h341
                        have hE350 : RC _ (some ((adr A0_).add (Int.toNat k_334 * Dat.size (Int × Int × Int)))) [.int .i64 x347.1, .int .i64 x347.2.1, .int .i64 x347.2.2] := SlR.getF (α := Int × Int × Int) hA0_ hx348
                        refine QuietJ.put rfl (OpQ.pure (OpP.ixR hA0_ rfl hx348 (by exact rfl) (by exact rfl) rfl rfl) ?_)
                        refine QuietJ.put rfl (OpQ.pure (OpP.fldAddr rfl (by exact rfl)) ?_)
                        refine QuietJ.put rfl (OpQ.pure (OpP.ldR (by exact rfl) hE350 (IM.le_refl _) rfl rfl) ?_)
                        refine QuietJ.put rfl (OpQ.pure (OpP.fldAddr_lit rfl (by exact rfl)) ?_)
                        refine QuietJ.put rfl (OpQ.pure (OpP.load_blk (by exact rfl) rfl (List.Mem.head _) rfl) ?_)
                        refine QuietJ.put rfl (OpQ.pure (OpP.eql rfl rfl) ?_)
                        refine QuietJ.nil ?_
                        by_cases hc351 : x347.1 = x261.1
                        · rw [if_pos hc351] at h349
                          refine CodeJ.cond_t rfl (decide_eq_true hc351) ?_
                          refine CodeJ.seq' ?_
                          refine CodeJ.region ?_
                          refine OpsJ.put rfl (OpJ.pure (OpP.assign rfl) ?_)
                          refine OpsJ.nil ?_
                          obtain rfl := Option.some.inj h349
                          have ht352 := hne342 _ rfl
                          subst ht352
                          simp only [Sum.elim_inl] at h345
                          obtain rfl := Option.some.inj h345
                          have ht353 := hne256 _ rfl
                          subst ht353
                          simp only [Sum.elim_inl] at h259
                          refine CodeJ.ret' ?_
                          obtain rfl := Option.some.inj h259
                          exact Ret.mk0 ⟨rfl, rfl⟩ (ResJ.one Try.results12 rfl) (IM.le_refl _) (SubL.nil _)
                        · rw [if_neg hc351] at h349
                          refine CodeJ.cond_f rfl (decide_eq_false hc351) ?_
                          refine CodeJ.skip ?_
                          refine CodeJ.region ?_
                          refine OpsJ.put rfl (OpJ.pure (OpP.move rfl) ?_)
                          refine OpsJ.put rfl (OpJ.pure (OpP.add64 rfl rfl) ?_)
                          refine OpsJ.put rfl (OpJ.pure (OpP.assign rfl) ?_)
                          refine OpsJ.nil ?_
                          obtain rfl := Option.some.inj h349
                          exact ⟨_, _, _, _, rfl, ⟨rfl, rfl⟩, IM.le_refl _, (SubE.cons rfl (SubE.cons rfl (SubE.cons rfl (SubE.cons rfl (SubE.nil _))))), (SubL.p0 (SubL.nil _))⟩
                      · rw [if_neg hc346] at h341
                        refine CodeJ.cond_f rfl (decide_eq_false hc346) ?_
                        refine CodeJ.exit rfl ?_
                        obtain rfl := Option.some.inj h341
                        have ht354 := hne342 _ rfl
                        exact ⟨_, _, _, ⟨ht354, rfl, rfl⟩, IM.le_refl _, (SubE.cons rfl (SubE.cons rfl (SubE.nil _))), (SubL.nil _)⟩
                    · rintro _ _ ⟨rfl, rfl, rfl⟩
                      simp only [Sum.elim_inr] at h345
                      refine CodeJ.region ?_
                      refine OpsJ.put rfl (OpJ.pure (OpP.move rfl) ?_)
                      refine OpsJ.put rfl (OpJ.pure (OpP.add64 rfl rfl) ?_)
                      refine OpsJ.put rfl (OpJ.pure (OpP.assign rfl) ?_)
                      refine OpsJ.nil ?_
                      obtain rfl := Option.some.inj h345
                      exact ⟨_, _, _, _, rfl, ⟨rfl, rfl⟩, IM.le_refl _, (SubE.cons rfl (SubE.cons rfl (SubE.nil _))), (SubL.nil _)⟩
    · rw [if_neg hc260] at h255
      refine CodeJ.cond_f rfl (decide_eq_false hc260) ?_
      refine CodeJ.exit rfl ?_
      obtain rfl := Option.some.inj h255
      have ht355 := hne256 _ rfl
      exact ⟨_, _, _, ⟨ht355, rfl, rfl⟩, IM.le_refl _, (SubE.nil _), (SubL.nil _)⟩
  · rintro _ _ ⟨rfl, rfl, rfl⟩
    simp only [Sum.elim_inr] at h259
    refine CodeJ.seq' ?_
    refine CodeJ.region ?_
    refine OpsJ.put rfl (OpJ.pure (OpP.assign rfl) ?_)
    refine OpsJ.nil ?_
    refine CodeJ.ret' ?_
    obtain rfl := Option.some.inj h259
    exact Ret.mk0 ⟨rfl, rfl⟩ (ResJ.one Try.results12 rfl) (IM.le_refl _) (SubL.nil _)
theorem plan_Drop_w (R : IM) (A0_ : Option Addr) (n0_ c0_ : Nat) (p0_l : List (Int × Int × Int)) (hA0_ : SlR R A0_ p0_l) (hn0_ : p0_l.length = n0_) (hc0_ : n0_ ≤ c0_) (p1_n : Int) (y : (List (Int × Int × Int)) × (List (Int × Int × Int))) (h : plan_Drop p0_l p1_n = some y) :
    CallJ Try.prog 15 #[.slice A0_ n0_ c0_, .int .i64 p1_n] ⟨R, []⟩ (fun v D hs' => ∃ (A0 : Option Addr) (c0 : Nat) (cs0 : List Value) (A1 : Option Addr) (c1 : Nat) (cs1 : List Value), v = .tuple #[.slice A0 y.1.length c0, .slice A1 y.2.length c1] ∧ repL IM.nil cs0 y.1 ∧ repL IM.nil cs1 y.2 ∧ hs' = [.row 27 3 A0 y.1.length c0 cs0, .row 27 3 A1 y.2.length c1 cs1]) := by
  subst hn0_
  unfold plan_Drop at h
  refine CallJ.of2 Try.func15 rfl Try.ntmps15 rfl (fun W0 => ?_)
  refine CodeJ.seq' ?_
  refine CodeJ.region ?_
  refine OpsJ.put rfl (OpJ.pure (OpP.assign rfl) ?_)
  refine OpsJ.put rfl (OpJ.pure (OpP.assign rfl) ?_)
  refine OpsJ.nil ?_
  refine CodeJ.seq' ?_
  refine CodeJ.seq' ?_
  refine CodeJ.region ?_
  refine OpsJ.put rfl (OpJ.pure (OpP.move rfl) ?_)
  refine OpsJ.put rfl (OpJ.pure (OpP.len rfl) ?_)
  refine OpsJ.put rfl (OpJ.pure (OpP.move rfl) ?_)
  refine OpsJ.nil ?_
  refine CodeJ.nilrow 27 3 ?_
  refine CodeJ.nilrow 27 3 ?_
  obtain ⟨t163, hl164, h165⟩ := bind_ok h
  clear h
  refine CodeJ.mid (fun e s => ∃ (A150 : Option Addr) (c151 : Nat) (cs152 : List Value) (A156 : Option Addr) (c157 : Nat) (cs158 : List Value) (gone_149 : List (Int × Int × Int)) (stay_155 : List (Int × Int × Int)), (gone_149, stay_155) = t163 ∧ repL IM.nil cs152 gone_149 ∧ repL IM.nil cs158 stay_155 ∧ e = [(4, .slice A150 gone_149.length c151), (5, .slice A156 stay_155.length c157)] ∧ s = ⟨R, [.row 27 3 A150 gone_149.length c151 cs152, .row 27 3 A156 stay_155.length c157 cs158]⟩) ?_ ?_
  · refine CodeJ.block ?_
    refine CodeJ.loopM hl164 (fun (gone_97, stay_103, v109) e s => ∃ (A98 : Option Addr) (c99 : Nat) (cs100 : List Value) (A104 : Option Addr) (c105 : Nat) (cs106 : List Value), repL IM.nil cs100 gone_97 ∧ repL IM.nil cs106 stay_103 ∧ e = [(1, .int .i64 p1_n), (4, .slice A98 gone_97.length c99), (5, .slice A104 stay_103.length c105), (8, .slice A0_ p0_l.length c0_), (9, .int .i64 ((p0_l.length : Nat) : Int)), (10, .int .i64 v109)] ∧ s = ⟨R, [.row 27 3 A98 gone_97.length c99 cs100, .row 27 3 A104 stay_103.length c105 cs106]⟩) ⟨none, 0, ([] : List Value), none, 0, ([] : List Value), (repL_nil IM.nil), (repL_nil IM.nil), rfl, rfl⟩ (SubE.cons rfl (SubE.cons rfl (SubE.cons rfl (SubE.cons rfl (SubE.cons rfl (SubE.cons rfl (SubE.nil _))))))) (SubL.p1 (SubL.p0 (SubL.nil _))) ?_
    rintro ⟨gone_97, stay_103, v109⟩ _ _ _ ⟨A98, c99, cs100, A104, c105, cs106, hr101, hr107, rfl, rfl⟩ h161 hne162
    (try dsimp only at h161); unfold plan_Drop_l0 at h161
    refine CodeJ.seq' ?_
    refine CodeJ.region ?_
    refine OpsJ.put rfl (OpJ.pure (OpP.lss rfl rfl) ?_)
    refine OpsJ.nil ?_
    refine CodeJ.seq' ?_
    by_cases hc166 : v109 < ((p0_l.length : Nat) : Int)
    · rw [if_pos hc166] at h161
      refine CodeJ.cond_t rfl (decide_eq_true hc166) ?_
      refine CodeJ.skip ?_
      refine CodeJ.seq' ?_
      refine CodeJ.block ?_
      refine CodeJ.seq' ?_
      refine CodeJ.region ?_
      obtain ⟨x167, hx168, h169⟩ := bind_ok h161
      clear h161
      have hE170 : RC _ (some ((adr A0_).add (Int.toNat v109 * Dat.size (Int × Int × Int)))) [.int .i64 x167.1, .int .i64 x167.2.1, .int .i64 x167.2.2] := SlR.getF (α := Int × Int × Int) hA0_ hx168
      refine OpsJ.put rfl (OpJ.pure (OpP.ixR hA0_ rfl hx168 (by exact rfl) (by exact rfl) rfl rfl) ?_)
      refine OpsJ.put rfl (OpJ.pure (OpP.ldRN (by exact rfl) hE170 (IM.le_refl _) rfl (by exact rfl)) ?_)
      refine OpsJ.put rfl (OpJ.alloc (fun g171 => ?_))
      refine OpsJ.act (OpJ.storeC (us := [.int .i64 x167.1, .int .i64 x167.2.1, .int .i64 x167.2.2]) (cs := [.int .i64 x167.1, .int .i64 x167.2.1, .int .i64 x167.2.2]) rfl rfl rfl (List.Perm.refl _) (by exact rfl) rfl rfl rfl ?_)
      refine OpsJ.nil ?_
      refine CodeJ.seq' ?_
      refine CodeJ.region ?_
      refine OpsJ.put rfl (OpJ.pure (OpP.fldAddr_lit rfl (by exact rfl)) ?_)
      refine OpsJ.put rfl (OpJ.pure (OpP.load_blk (by exact rfl) rfl (List.Mem.head _) rfl) ?_)
      refine OpsJ.put rfl (OpJ.pure (OpP.move rfl) ?_)
      refine OpsJ.put rfl (OpJ.pure (OpP.leq rfl rfl) ?_)
      refine OpsJ.put rfl (OpJ.pure (OpP.move rfl) ?_)
      by_cases hc173 : x167.2.1 ≤ p1_n
      · rw [if_pos hc173] at h169
        refine OpsJ.guard_y rfl rfl rfl rfl (decide_eq_true hc173) ?_
        refine OpsJ.put rfl (OpJ.pure (OpP.fldAddr_lit rfl (by exact rfl)) ?_)
        refine OpsJ.guard_y rfl rfl rfl rfl (decide_eq_true hc173) ?_
        refine OpsJ.put rfl (OpJ.pure (OpP.load_blk (by exact rfl) rfl (List.Mem.head _) rfl) ?_)
        refine OpsJ.guard_y rfl rfl rfl rfl (decide_eq_true hc173) ?_
        refine OpsJ.put rfl (OpJ.pure (OpP.move rfl) ?_)
        refine OpsJ.guard_y rfl rfl rfl rfl (decide_eq_true hc173) ?_
        refine OpsJ.put rfl (OpJ.pure (OpP.fldAddr_lit rfl (by exact rfl)) ?_)
        refine OpsJ.guard_y rfl rfl rfl rfl (decide_eq_true hc173) ?_
        refine OpsJ.put rfl (OpJ.pure (OpP.load_blk (by exact rfl) rfl (List.Mem.head _) rfl) ?_)
        refine OpsJ.guard_y rfl rfl rfl rfl (decide_eq_true hc173) ?_
        refine OpsJ.put rfl (OpJ.pure (OpP.sub64 rfl rfl) ?_)
        refine OpsJ.guard_y rfl rfl rfl rfl (decide_eq_true hc173) ?_
        refine OpsJ.put rfl (OpJ.pure (OpP.leq rfl rfl) ?_)
        refine OpsJ.put rfl (OpJ.pure (OpP.pick_t rfl (decide_eq_true hc173) rfl) ?_)
        refine OpsJ.nil ?_
        by_cases hc174 : x167.2.2 ≤ w64 (p1_n - x167.2.1)
        · rw [if_pos hc174] at h169
          refine CodeJ.cond_t rfl (decide_eq_true hc174) ?_
          refine CodeJ.region ?_
          refine OpsJ.put rfl (OpJ.pure (OpP.move rfl) ?_)
          refine OpsJ.put rfl (OpJ.pure (OpP.loadN_blk (by exact rfl) rfl (List.Mem.head _) (by exact rfl)) ?_)
          have hr176 : repL IM.nil [.int .i64 x167.1, .int .i64 x167.2.1, .int .i64 x167.2.2] ([(x167.1, x167.2.1, x167.2.2)] : List (Int × Int × Int)) := (repL_cons (c1 := [.int .i64 x167.1, .int .i64 x167.2.1, .int .i64 x167.2.2]) (show Dat.rep _ _ (x167.1, x167.2.1, x167.2.2) from ⟨[.int .i64 x167.1], [.int .i64 x167.2.1, .int .i64 x167.2.2], rfl, rfl, ⟨[.int .i64 x167.2.1], [.int .i64 x167.2.2], rfl, rfl, rfl⟩⟩) (repL_nil _))
          refine OpsJ.put rfl (OpJ.buildSliceC (cs := [.int .i64 x167.1, .int .i64 x167.2.1, .int .i64 x167.2.2]) rfl rfl (by exact rfl) (by exact rfl) (by exact rfl) (by exact rfl) (fun g175 => ?_))
          obtain ⟨q178, hq179, h180⟩ := bind_ok h169
          clear h169
          have hr183 : repL IM.nil (cs100 ++ ([.int .i64 x167.1, .int .i64 x167.2.1, .int .i64 x167.2.2] : List Value)) q178 := app_rep hq179 hr101 hr176
          refine OpsJ.put rfl (OpJ.appW hq179 rfl rfl (Src.ofRow (List.Mem.head _)) hr176 (by exact rfl) (permm2 _ _ _ _) (by exact rfl) (by exact rfl) (by exact rfl) rfl rfl (fun A181 c182 => ?_))
          refine OpsJ.put rfl (OpJ.pure (OpP.assign rfl) ?_)
          refine OpsJ.nil ?_
          refine CodeJ.region ?_
          refine OpsJ.put rfl (OpJ.pure (OpP.add64 rfl rfl) ?_)
          refine OpsJ.put rfl (OpJ.pure (OpP.move rfl) ?_)
          refine OpsJ.nil ?_
          obtain rfl := Option.some.inj h180
          exact ⟨_, _, _, _, rfl, ⟨A181, c182, (cs100 ++ ([.int .i64 x167.1, .int .i64 x167.2.1, .int .i64 x167.2.2] : List Value)), A104, c105, cs106, hr183, hr107, rfl, rfl⟩, IM.le_refl _, (SubE.cons rfl (SubE.cons rfl (SubE.cons rfl (SubE.cons rfl (SubE.cons rfl (SubE.cons rfl (SubE.nil _))))))), (SubL.p0 (SubL.p2 (SubL.nil _)))⟩
        · rw [if_neg hc174] at h169
          refine CodeJ.cond_f rfl (decide_eq_false hc174) ?_
          refine CodeJ.region ?_
          refine OpsJ.put rfl (OpJ.pure (OpP.move rfl) ?_)
          refine OpsJ.put rfl (OpJ.pure (OpP.loadN_blk (by exact rfl) rfl (List.Mem.head _) (by exact rfl)) ?_)
          have hr186 : repL IM.nil [.int .i64 x167.1, .int .i64 x167.2.1, .int .i64 x167.2.2] ([(x167.1, x167.2.1, x167.2.2)] : List (Int × Int × Int)) := (repL_cons (c1 := [.int .i64 x167.1, .int .i64 x167.2.1, .int .i64 x167.2.2]) (show Dat.rep _ _ (x167.1, x167.2.1, x167.2.2) from ⟨[.int .i64 x167.1], [.int .i64 x167.2.1, .int .i64 x167.2.2], rfl, rfl, ⟨[.int .i64 x167.2.1], [.int .i64 x167.2.2], rfl, rfl, rfl⟩⟩) (repL_nil _))
          refine OpsJ.put rfl (OpJ.buildSliceC (cs := [.int .i64 x167.1, .int .i64 x167.2.1, .int .i64 x167.2.2]) rfl rfl (by exact rfl) (by exact rfl) (by exact rfl) (by exact rfl) (fun g185 => ?_))
          obtain ⟨q188, hq189, h190⟩ := bind_ok h169
          clear h169
          have hr193 : repL IM.nil (cs106 ++ ([.int .i64 x167.1, .int .i64 x167.2.1, .int .i64 x167.2.2] : List Value)) q188 := app_rep hq189 hr107 hr186
          refine OpsJ.put rfl (OpJ.appW hq189 rfl rfl (Src.ofRow (List.Mem.head _)) hr186 (by exact rfl) (permm3 _ _ _ _ _) (by exact rfl) (by exact rfl) (by exact rfl) rfl rfl (fun A191 c192 => ?_))
          refine OpsJ.put rfl (OpJ.pure (OpP.assign rfl) ?_)
          refine OpsJ.nil ?_
          refine CodeJ.region ?_
          refine OpsJ.put rfl (OpJ.pure (OpP.add64 rfl rfl) ?_)
          refine OpsJ.put rfl (OpJ.pure (OpP.move rfl) ?_)
          refine OpsJ.nil ?_
          obtain rfl := Option.some.inj h190
          exact ⟨_, _, _, _, rfl, ⟨A98, c99, cs100, A191, c192, (cs106 ++ ([.int .i64 x167.1, .int .i64 x167.2.1, .int .i64 x167.2.2] : List Value)), hr101, hr193, rfl, rfl⟩, IM.le_refl _, (SubE.cons rfl (SubE.cons rfl (SubE.cons rfl (SubE.cons rfl (SubE.cons rfl (SubE.cons rfl (SubE.nil _))))))), (SubL.p3 (SubL.p0 (SubL.nil _)))⟩
      · rw [if_neg hc173] at h169
        refine OpsJ.guard_n rfl rfl rfl rfl (decide_eq_false hc173) ?_
        refine OpsJ.guard_n rfl rfl rfl rfl (decide_eq_false hc173) ?_
        refine OpsJ.guard_n rfl rfl rfl rfl (decide_eq_false hc173) ?_
        refine OpsJ.guard_n rfl rfl rfl rfl (decide_eq_false hc173) ?_
        refine OpsJ.guard_n rfl rfl rfl rfl (decide_eq_false hc173) ?_
        refine OpsJ.guard_n rfl rfl rfl rfl (decide_eq_false hc173) ?_
        refine OpsJ.guard_n rfl rfl rfl rfl (decide_eq_false hc173) ?_
        refine OpsJ.put rfl (OpJ.pure (OpP.pick_f rfl (decide_eq_false hc173) rfl) ?_)
        refine OpsJ.nil ?_
        refine CodeJ.cond_f rfl rfl ?_
        refine CodeJ.region ?_
        refine OpsJ.put rfl (OpJ.pure (OpP.move rfl) ?_)
        refine OpsJ.put rfl (OpJ.pure (OpP.loadN_blk (by exact rfl) rfl (List.Mem.head _) (by exact rfl)) ?_)
        have hr196 : repL IM.nil [.int .i64 x167.1, .int .i64 x167.2.1, .int .i64 x167.2.2] ([(x167.1, x167.2.1, x167.2.2)] : List (Int × Int × Int)) := (repL_cons (c1 := [.int .i64 x167.1, .int .i64 x167.2.1, .int .i64 x167.2.2]) (show Dat.rep _ _ (x167.1, x167.2.1, x167.2.2) from ⟨[.int .i64 x167.1], [.int .i64 x167.2.1, .int .i64 x167.2.2], rfl, rfl, ⟨[.int .i64 x167.2.1], [.int .i64 x167.2.2], rfl, rfl, rfl⟩⟩) (repL_nil _))
        refine OpsJ.put rfl (OpJ.buildSliceC (cs := [.int .i64 x167.1, .int .i64 x167.2.1, .int .i64 x167.2.2]) rfl rfl (by exact rfl) (by exact rfl) (by exact rfl) (by exact rfl) (fun g195 => ?_))
        obtain ⟨q198, hq199, h200⟩ := bind_ok h169
        clear h169
        have hr203 : repL IM.nil (cs106 ++ ([.int .i64 x167.1, .int .i64 x167.2.1, .int .i64 x167.2.2] : List Value)) q198 := app_rep hq199 hr107 hr196
        refine OpsJ.put rfl (OpJ.appW hq199 rfl rfl (Src.ofRow (List.Mem.head _)) hr196 (by exact rfl) (permm3 _ _ _ _ _) (by exact rfl) (by exact rfl) (by exact rfl) rfl rfl (fun A201 c202 => ?_))
        refine OpsJ.put rfl (OpJ.pure (OpP.assign rfl) ?_)
        refine OpsJ.nil ?_
        refine CodeJ.region ?_
        refine OpsJ.put rfl (OpJ.pure (OpP.add64 rfl rfl) ?_)
        refine OpsJ.put rfl (OpJ.pure (OpP.move rfl) ?_)
        refine OpsJ.nil ?_
        obtain rfl := Option.some.inj h200
        exact ⟨_, _, _, _, rfl, ⟨A98, c99, cs100, A201, c202, (cs106 ++ ([.int .i64 x167.1, .int .i64 x167.2.1, .int .i64 x167.2.2] : List Value)), hr101, hr203, rfl, rfl⟩, IM.le_refl _, (SubE.cons rfl (SubE.cons rfl (SubE.cons rfl (SubE.cons rfl (SubE.cons rfl (SubE.cons rfl (SubE.nil _))))))), (SubL.p3 (SubL.p0 (SubL.nil _)))⟩
    · rw [if_neg hc166] at h161
      refine CodeJ.cond_f rfl (decide_eq_false hc166) ?_
      refine CodeJ.exit rfl ?_
      obtain rfl := Option.some.inj h161
      have ht205 := hne162 _ rfl
      exact ⟨_, _, _, ⟨A98, c99, cs100, A104, c105, cs106, gone_97, stay_103, ht205, hr101, hr107, rfl, rfl⟩, IM.le_refl _, (SubE.cons rfl (SubE.cons rfl (SubE.nil _))), (SubL.p0 (SubL.p0 (SubL.nil _)))⟩
  · rintro _ _ ⟨A150, c151, cs152, A156, c157, cs158, gone_149, stay_155, rfl, hr153, hr159, rfl, rfl⟩
    (try dsimp only at h165)
    refine CodeJ.seq' ?_
    refine CodeJ.region ?_
    refine OpsJ.put rfl (OpJ.pure (OpP.move rfl) ?_)
    refine OpsJ.put rfl (OpJ.pure (OpP.move rfl) ?_)
    refine OpsJ.put rfl (OpJ.pure (OpP.assign rfl) ?_)
    refine OpsJ.put rfl (OpJ.pure (OpP.assign rfl) ?_)
    refine OpsJ.nil ?_
    refine CodeJ.ret' ?_
    obtain rfl := Option.some.inj h165
    exact Ret.mk0 ⟨A150, c151, cs152, A156, c157, cs158, rfl, hr153, hr159, rfl⟩ (ResJ.two Try.results15 rfl rfl) (IM.le_refl _) (SubL.p0 (SubL.p0 (SubL.nil _)))
theorem winnowerlaw19_spans_w (R : IM) (A0_ : Option Addr) (n0_ c0_ : Nat) (p0_a : List (Int × Int × Int)) (hA0_ : SlR R A0_ p0_a) (hn0_ : p0_a.length = n0_) (hc0_ : n0_ ≤ c0_) (A1_ : Option Addr) (n1_ c1_ : Nat) (p1_b : List (Int × Int × Int)) (hA1_ : SlR R A1_ p1_b) (hn1_ : p1_b.length = n1_) (hc1_ : n1_ ≤ c1_) (y : Bool) (h : winnowerlaw19_spans p0_a p1_b = some y) :
    CallJ Try.prog 16 #[.slice A0_ n0_ c0_, .slice A1_ n1_ c1_] ⟨R, []⟩ (fun v D hs' => v = .bool y ∧ hs' = []) := by
  subst hn0_
  subst hn1_
  unfold winnowerlaw19_spans at h
  refine CallJ.of2 Try.func16 rfl Try.ntmps16 rfl (fun W0 => ?_)
  refine CodeJ.seq' ?_
  refine CodeJ.region ?_
  refine OpsJ.put rfl (OpJ.pure (OpP.assign rfl) ?_)
  refine OpsJ.nil ?_
  refine CodeJ.seq' ?_
  refine CodeJ.seq' ?_
  refine CodeJ.region ?_
  refine OpsJ.put rfl (OpJ.pure (OpP.move rfl) ?_)
  refine OpsJ.put rfl (OpJ.pure (OpP.len rfl) ?_)
  refine OpsJ.put rfl (OpJ.pure (OpP.move rfl) ?_)
  refine OpsJ.put rfl (OpJ.pure (OpP.len rfl) ?_)
  refine OpsJ.put rfl (OpJ.pure (OpP.neq rfl rfl) ?_)
  refine OpsJ.nil ?_
  by_cases hc1 : ((p0_a.length : Nat) : Int) ≠ ((p1_b.length : Nat) : Int)
  · rw [if_pos hc1] at h
    refine CodeJ.cond_t rfl (decide_eq_true hc1) ?_
    refine CodeJ.seq' ?_
    refine CodeJ.region ?_
    refine OpsJ.put rfl (OpJ.pure (OpP.assign rfl) ?_)
    refine OpsJ.nil ?_
    refine CodeJ.ret' ?_
    obtain rfl := Option.some.inj h
    exact Ret.mk0 ⟨rfl, rfl⟩ (ResJ.one Try.results16 rfl) (IM.le_refl _) (SubL.nil _)
  · rw [if_neg hc1] at h
    refine CodeJ.cond_f rfl (decide_eq_false hc1) ?_
    refine CodeJ.skip ?_
    refine CodeJ.seq' ?_
    refine CodeJ.seq' ?_
    refine CodeJ.region ?_
    refine OpsJ.put rfl (OpJ.pure (OpP.assign rfl) ?_)
    refine OpsJ.nil ?_
    obtain ⟨t36, hl37, h38⟩ := bind_ok h
    clear h
    refine CodeJ.mid (fun e s => .inr () = t36 ∧ e = [] ∧ s = ⟨R, []⟩) ?_ ?_
    · refine CodeJ.block ?_
      refine CodeJ.loopM hl37 (fun i_23 e s => e = [(0, .slice A0_ p0_a.length c0_), (1, .slice A1_ p1_b.length c1_), (5, .int .i64 i_23)] ∧ s = ⟨R, []⟩) ⟨rfl, rfl⟩ (SubE.cons rfl (SubE.cons rfl (SubE.cons rfl (SubE.nil _)))) (SubL.nil _) ?_
      rintro i_23 _ _ _ ⟨rfl, rfl⟩ h34 hne35
      (try dsimp only at h34); unfold winnowerlaw19_spans_l0 at h34
      refine CodeJ.seq' ?_
      refine CodeJ.seq' ?_
      refine CodeJ.region ?_
      refine OpsJ.put rfl (OpJ.pure (OpP.move rfl) ?_)
      refine OpsJ.put rfl (OpJ.pure (OpP.move rfl) ?_)
      refine OpsJ.put rfl (OpJ.pure (OpP.len rfl) ?_)
      refine OpsJ.put rfl (OpJ.pure (OpP.lss rfl rfl) ?_)
      refine OpsJ.nil ?_
      by_cases hc39 : i_23 < ((p0_a.length : Nat) : Int)
      · rw [if_pos hc39] at h34
        refine CodeJ.cond_t rfl (decide_eq_true hc39) ?_
        refine CodeJ.skip ?_
        refine CodeJ.seq' ?_
        refine CodeJ.block ?_
        refine CodeJ.seq' ?_
        refine CodeJ.drawn (by kernel_rfl) (by kernel_rfl) ?_
        refine QuietJ.put rfl (OpQ.pure (OpP.move rfl) ?_)
        refine QuietJ.put rfl (OpQ.pure (OpP.move rfl) ?_)
        obtain ⟨x40, hx41, h42⟩ := bind_ok h34
        clear h34
        have hE43 : RC _ (some ((adr A0_).add (Int.toNat i_23 * Dat.size (Int × Int × Int)))) [.int .i64 x40.1, .int .i64 x40.2.1, .int .i64 x40.2.2] := SlR.getF (α := Int × Int × Int) hA0_ hx41
        refine QuietJ.put rfl (OpQ.pure (OpP.ixR hA0_ rfl hx41 (by exact rfl) (by exact rfl) rfl rfl) ?_)
        refine QuietJ.put rfl (OpQ.pure (OpP.ldRN (by exact rfl) hE43 (IM.le_refl _) rfl (by exact rfl)) ?_)
        refine QuietJ.put rfl (OpQ.pure (OpP.move rfl) ?_)
        refine QuietJ.put rfl (OpQ.pure (OpP.move rfl) ?_)
        obtain ⟨x44, hx45, h46⟩ := bind_ok h42
        clear h42
        have hE47 : RC _ (some ((adr A1_).add (Int.toNat i_23 * Dat.size (Int × Int × Int)))) [.int .i64 x44.1, .int .i64 x44.2.1, .int .i64 x44.2.2] := SlR.getF (α := Int × Int × Int) hA1_ hx45
        refine QuietJ.put rfl (OpQ.pure (OpP.ixR hA1_ rfl hx45 (by exact rfl) (by exact rfl) rfl rfl) ?_)
        refine QuietJ.put rfl (OpQ.pure (OpP.ldRN (by exact rfl) hE47 (IM.le_refl _) rfl (by exact rfl)) ?_)
        refine QuietJ.put rfl (OpQ.pure (OpP.neqA (x40.1, x40.2.1, x40.2.2) (x44.1, x44.2.1, x44.2.2) rfl rfl) ?_)
        refine QuietJ.nil ?_
        by_cases hc48 : (x40.1, x40.2.1, x40.2.2) ≠ (x44.1, x44.2.1, x44.2.2)
        · rw [if_pos hc48] at h46
          refine CodeJ.cond_t rfl (decide_eq_true hc48) ?_
          refine CodeJ.seq' ?_
          refine CodeJ.region ?_
          refine OpsJ.put rfl (OpJ.pure (OpP.assign rfl) ?_)
          refine OpsJ.nil ?_
          obtain rfl := Option.some.inj h46
          have ht49 := hne35 _ rfl
          subst ht49
          simp only [Sum.elim_inl] at h38
          refine CodeJ.ret' ?_
          obtain rfl := Option.some.inj h38
          exact Ret.mk0 ⟨rfl, rfl⟩ (ResJ.one Try.results16 rfl) (IM.le_refl _) (SubL.nil _)
        · rw [if_neg hc48] at h46
          refine CodeJ.cond_f rfl (decide_eq_false hc48) ?_
          refine CodeJ.skip ?_
          refine CodeJ.region ?_
          refine OpsJ.put rfl (OpJ.pure (OpP.move rfl) ?_)
          refine OpsJ.put rfl (OpJ.pure (OpP.add64 rfl rfl) ?_)
          refine OpsJ.put rfl (OpJ.pure (OpP.assign rfl) ?_)
          refine OpsJ.nil ?_
          obtain rfl := Option.some.inj h46
          exact ⟨_, _, _, _, rfl, ⟨rfl, rfl⟩, IM.le_refl _, (SubE.cons rfl (SubE.cons rfl (SubE.cons rfl (SubE.nil _)))), (SubL.nil _)⟩
      · rw [if_neg hc39] at h34
        refine CodeJ.cond_f rfl (decide_eq_false hc39) ?_
        refine CodeJ.exit rfl ?_
        obtain rfl := Option.some.inj h34
        have ht50 := hne35 _ rfl
        exact ⟨_, _, _, ⟨ht50, rfl, rfl⟩, IM.le_refl _, (SubE.nil _), (SubL.nil _)⟩
    · rintro _ _ ⟨rfl, rfl, rfl⟩
      simp only [Sum.elim_inr] at h38
      refine CodeJ.seq' ?_
      refine CodeJ.region ?_
      refine OpsJ.put rfl (OpJ.pure (OpP.assign rfl) ?_)
      refine OpsJ.nil ?_
      refine CodeJ.ret' ?_
      obtain rfl := Option.some.inj h38
      exact Ret.mk0 ⟨rfl, rfl⟩ (ResJ.one Try.results16 rfl) (IM.le_refl _) (SubL.nil _)
theorem plan_Is_w (R : IM) (A0_ : Option Addr) (n0_ c0_ : Nat) (p0_l : List (Int × Int × Int)) (hA0_ : SlR R A0_ p0_l) (hn0_ : p0_l.length = n0_) (hc0_ : n0_ ≤ c0_) (y : Bool) (h : plan_Is p0_l = some y) :
    CallJ Try.prog 25 #[.slice A0_ n0_ c0_] ⟨R, []⟩ (fun v D hs' => v = .bool y ∧ hs' = []) := by
  subst hn0_
  unfold plan_Is at h
  refine CallJ.of1 Try.func25 rfl Try.ntmps25 rfl (fun W0 => ?_)
  refine CodeJ.seq' ?_
  refine CodeJ.region ?_
  refine OpsJ.put rfl (OpJ.pure (OpP.assign rfl) ?_)
  refine OpsJ.nil ?_
  refine CodeJ.seq' ?_
  refine CodeJ.region ?_
  refine OpsJ.put rfl (OpJ.makeMap (fun g1 => ?_))
  refine OpsJ.put rfl (OpJ.pure (OpP.assign rfl) ?_)
  refine OpsJ.nil ?_
  refine CodeJ.seq' ?_
  refine CodeJ.seq' ?_
  refine CodeJ.region ?_
  refine OpsJ.put rfl (OpJ.pure (OpP.move rfl) ?_)
  refine OpsJ.put rfl (OpJ.pure (OpP.len rfl) ?_)
  refine OpsJ.put rfl (OpJ.pure (OpP.move rfl) ?_)
  refine OpsJ.nil ?_
  obtain ⟨t96, hl97, h98⟩ := bind_ok h
  clear h
  refine CodeJ.mid (fun e s => .inr () = t96 ∧ e = [] ∧ s = ⟨R, []⟩) ?_ ?_
  · refine CodeJ.block ?_
    refine CodeJ.loopM hl97 (fun (v62, m63) e s => ∃ (es64 : Array MapEntry) (cl65 : Nat), MapR (fun x => .int .i64 x) (fun x => .bool x) es64 m63 ∧ e = [(0, .slice A0_ p0_l.length c0_), (3, .map (some g1)), (7, .slice A0_ p0_l.length c0_), (8, .int .i64 ((p0_l.length : Nat) : Int)), (9, .int .i64 v62)] ∧ s = ⟨R, [.obj g1 (.map es64 cl65)]⟩) ⟨#[], 0, (MapR.nil _ _), rfl, rfl⟩ (SubE.cons rfl (SubE.cons rfl (SubE.cons rfl (SubE.cons rfl (SubE.cons rfl (SubE.nil _)))))) (SubL.p0 (SubL.nil _)) ?_
    rintro ⟨v62, m63⟩ _ _ _ ⟨es64, cl65, hm66, rfl, rfl⟩ h94 hne95
    (try dsimp only at h94); unfold plan_Is_l0 at h94
    refine CodeJ.seq' ?_
    refine CodeJ.region ?_
    refine OpsJ.put rfl (OpJ.pure (OpP.lss rfl rfl) ?_)
    refine OpsJ.nil ?_
    refine CodeJ.seq' ?_
    by_cases hc99 : v62 < ((p0_l.length : Nat) : Int)
    · rw [if_pos hc99] at h94
      refine CodeJ.cond_t rfl (decide_eq_true hc99) ?_
      refine CodeJ.skip ?_
      refine CodeJ.seq' ?_
      refine CodeJ.block ?_
      refine CodeJ.seq' ?_
      refine CodeJ.region ?_
      refine OpsJ.put rfl (OpJ.pure (OpP.move rfl) ?_)
      obtain ⟨x100, hx101, h102⟩ := bind_ok h94
      clear h94
      have hE103 : RC _ (some ((adr A0_).add (Int.toNat v62 * Dat.size (Int × Int × Int)))) [.int .i64 x100.1, .int .i64 x100.2.1, .int .i64 x100.2.2] := SlR.getF (α := Int × Int × Int) hA0_ hx101
      refine OpsJ.put rfl (OpJ.pure (OpP.ixR hA0_ rfl hx101 (by exact rfl) (by exact rfl) rfl rfl) ?_)
      refine OpsJ.put rfl (OpJ.pure (OpP.ldRN (by exact rfl) hE103 (IM.le_refl _) rfl (by exact rfl)) ?_)
      refine OpsJ.put rfl (OpJ.alloc (fun g104 => ?_))
      refine OpsJ.put rfl (OpJ.pure (OpP.assign rfl) ?_)
      refine OpsJ.act (OpJ.storeC (us := [.int .i64 x100.1, .int .i64 x100.2.1, .int .i64 x100.2.2]) (cs := [.int .i64 x100.1, .int .i64 x100.2.1, .int .i64 x100.2.2]) rfl rfl rfl (List.Perm.refl _) (by exact rfl) rfl rfl rfl ?_)
      refine OpsJ.nil ?_
      refine CodeJ.seq' ?_
      refine CodeJ.seq' ?_
      refine CodeJ.region ?_
      refine OpsJ.put rfl (OpJ.pure (OpP.fldAddr_lit rfl (by exact rfl)) ?_)
      refine OpsJ.put rfl (OpJ.pure (OpP.load_blk (by exact rfl) rfl (List.Mem.head _) rfl) ?_)
      refine OpsJ.put rfl (OpJ.pure (OpP.lss rfl rfl) ?_)
      refine OpsJ.put rfl (OpJ.pure (OpP.move rfl) ?_)
      by_cases hc106 : x100.1 < 1
      · rw [if_pos hc106] at h102
        refine OpsJ.guard_n rfl rfl rfl rfl (decide_eq_true hc106) ?_
        refine OpsJ.guard_n rfl rfl rfl rfl (decide_eq_true hc106) ?_
        refine OpsJ.guard_n rfl rfl rfl rfl (decide_eq_true hc106) ?_
        refine OpsJ.put rfl (OpJ.pure (OpP.pick_t rfl (decide_eq_true hc106) rfl) ?_)
        refine OpsJ.put rfl (OpJ.pure (OpP.move rfl) ?_)
        refine OpsJ.guard_n rfl rfl rfl rfl rfl ?_
        refine OpsJ.guard_n rfl rfl rfl rfl rfl ?_
        refine OpsJ.guard_n rfl rfl rfl rfl rfl ?_
        refine OpsJ.guard_n rfl rfl rfl rfl rfl ?_
        refine OpsJ.put rfl (OpJ.pure (OpP.pick_t rfl rfl rfl) ?_)
        refine OpsJ.put rfl (OpJ.pure (OpP.move rfl) ?_)
        refine OpsJ.guard_n rfl rfl rfl rfl rfl ?_
        refine OpsJ.guard_n rfl rfl rfl rfl rfl ?_
        refine OpsJ.guard_n rfl rfl rfl rfl rfl ?_
        refine OpsJ.put rfl (OpJ.pure (OpP.pick_t rfl rfl rfl) ?_)
        refine OpsJ.put rfl (OpJ.pure (OpP.move rfl) ?_)
        refine OpsJ.guard_n rfl rfl rfl rfl rfl ?_
        refine OpsJ.guard_n rfl rfl rfl rfl rfl ?_
        refine OpsJ.guard_n rfl rfl rfl rfl rfl ?_
        refine OpsJ.put rfl (OpJ.pure (OpP.pick_t rfl rfl rfl) ?_)
        refine OpsJ.put rfl (OpJ.pure (OpP.move rfl) ?_)
        refine OpsJ.guard_n rfl rfl rfl rfl rfl ?_
        refine OpsJ.guard_n rfl rfl rfl rfl rfl ?_
        refine OpsJ.guard_n rfl rfl rfl rfl rfl ?_
        refine OpsJ.put rfl (OpJ.pure (OpP.pick_t rfl rfl rfl) ?_)
        refine OpsJ.put rfl (OpJ.pure (OpP.move rfl) ?_)
        refine OpsJ.guard_n rfl rfl rfl rfl rfl ?_
        refine OpsJ.guard_n rfl rfl rfl rfl rfl ?_
        refine OpsJ.guard_n rfl rfl rfl rfl rfl ?_
        refine OpsJ.put rfl (OpJ.pure (OpP.pick_t rfl rfl rfl) ?_)
        refine OpsJ.nil ?_
        refine CodeJ.cond_t rfl rfl ?_
        refine CodeJ.seq' ?_
        refine CodeJ.region ?_
        refine OpsJ.put rfl (OpJ.pure (OpP.assign rfl) ?_)
        refine OpsJ.nil ?_
        obtain rfl := Option.some.inj h102
        have ht107 := hne95 _ rfl
        subst ht107
        simp only [Sum.elim_inl] at h98
        refine CodeJ.ret' ?_
        obtain rfl := Option.some.inj h98
        exact Ret.mk0 ⟨rfl, rfl⟩ (ResJ.one Try.results25 rfl) (IM.le_refl _) (SubL.nil _)
      · rw [if_neg hc106] at h102
        refine OpsJ.guard_y rfl rfl rfl rfl (decide_eq_false hc106) ?_
        refine OpsJ.put rfl (OpJ.pure (OpP.fldAddr_lit rfl (by exact rfl)) ?_)
        refine OpsJ.guard_y rfl rfl rfl rfl (decide_eq_false hc106) ?_
        refine OpsJ.put rfl (OpJ.pure (OpP.load_blk (by exact rfl) rfl (List.Mem.head _) rfl) ?_)
        refine OpsJ.guard_y rfl rfl rfl rfl (decide_eq_false hc106) ?_
        refine OpsJ.put rfl (OpJ.pure (OpP.gtr rfl rfl) ?_)
        refine OpsJ.put rfl (OpJ.pure (OpP.pick_f rfl (decide_eq_false hc106) rfl) ?_)
        refine OpsJ.put rfl (OpJ.pure (OpP.move rfl) ?_)
        by_cases hc108 : x100.1 > 34359738368
        · rw [if_pos hc108] at h102
          refine OpsJ.guard_n rfl rfl rfl rfl (decide_eq_true hc108) ?_
          refine OpsJ.guard_n rfl rfl rfl rfl (decide_eq_true hc108) ?_
          refine OpsJ.guard_n rfl rfl rfl rfl (decide_eq_true hc108) ?_
          refine OpsJ.guard_n rfl rfl rfl rfl (decide_eq_true hc108) ?_
          refine OpsJ.put rfl (OpJ.pure (OpP.pick_t rfl (decide_eq_true hc108) rfl) ?_)
          refine OpsJ.put rfl (OpJ.pure (OpP.move rfl) ?_)
          refine OpsJ.guard_n rfl rfl rfl rfl rfl ?_
          refine OpsJ.guard_n rfl rfl rfl rfl rfl ?_
          refine OpsJ.guard_n rfl rfl rfl rfl rfl ?_
          refine OpsJ.put rfl (OpJ.pure (OpP.pick_t rfl rfl rfl) ?_)
          refine OpsJ.put rfl (OpJ.pure (OpP.move rfl) ?_)
          refine OpsJ.guard_n rfl rfl rfl rfl rfl ?_
          refine OpsJ.guard_n rfl rfl rfl rfl rfl ?_
          refine OpsJ.guard_n rfl rfl rfl rfl rfl ?_
          refine OpsJ.put rfl (OpJ.pure (OpP.pick_t rfl rfl rfl) ?_)
          refine OpsJ.put rfl (OpJ.pure (OpP.move rfl) ?_)
          refine OpsJ.guard_n rfl rfl rfl rfl rfl ?_
          refine OpsJ.guard_n rfl rfl rfl rfl rfl ?_
          refine OpsJ.guard_n rfl rfl rfl rfl rfl ?_
          refine OpsJ.put rfl (OpJ.pure (OpP.pick_t rfl rfl rfl) ?_)
          refine OpsJ.put rfl (OpJ.pure (OpP.move rfl) ?_)
          refine OpsJ.guard_n rfl rfl rfl rfl rfl ?_
          refine OpsJ.guard_n rfl rfl rfl rfl rfl ?_
          refine OpsJ.guard_n rfl rfl rfl rfl rfl ?_
          refine OpsJ.put rfl (OpJ.pure (OpP.pick_t rfl rfl rfl) ?_)
          refine OpsJ.nil ?_
          refine CodeJ.cond_t rfl rfl ?_
          refine CodeJ.seq' ?_
          refine CodeJ.region ?_
          refine OpsJ.put rfl (OpJ.pure (OpP.assign rfl) ?_)
          refine OpsJ.nil ?_
          obtain rfl := Option.some.inj h102
          have ht109 := hne95 _ rfl
          subst ht109
          simp only [Sum.elim_inl] at h98
          refine CodeJ.ret' ?_
          obtain rfl := Option.some.inj h98
          exact Ret.mk0 ⟨rfl, rfl⟩ (ResJ.one Try.results25 rfl) (IM.le_refl _) (SubL.nil _)
        · rw [if_neg hc108] at h102
          refine OpsJ.guard_y rfl rfl rfl rfl (decide_eq_false hc108) ?_
          refine OpsJ.put rfl (OpJ.pure (OpP.move rfl) ?_)
          refine OpsJ.guard_y rfl rfl rfl rfl (decide_eq_false hc108) ?_
          refine OpsJ.put rfl (OpJ.pure (OpP.fldAddr_lit rfl (by exact rfl)) ?_)
          refine OpsJ.guard_y rfl rfl rfl rfl (decide_eq_false hc108) ?_
          refine OpsJ.put rfl (OpJ.pure (OpP.load_blk (by exact rfl) rfl (List.Mem.head _) rfl) ?_)
          refine OpsJ.guard_y rfl rfl rfl rfl (decide_eq_false hc108) ?_
          refine OpsJ.put rfl (OpJ.pure (OpP.mlook (evv := fun x => .bool x) (key := x100.1) (z := false) (by exact rfl) (List.Mem.tail _ (List.Mem.head _)) hm66 rfl (fun _ => by kernel_rfl) rfl rfl) ?_)
          refine OpsJ.put rfl (OpJ.pure (OpP.pick_f rfl (decide_eq_false hc108) rfl) ?_)
          refine OpsJ.put rfl (OpJ.pure (OpP.move rfl) ?_)
          by_cases hc110 : ((mget m63 x100.1).getD false) = true
          · rw [if_pos hc110] at h102
            refine OpsJ.guard_n rfl rfl rfl rfl hc110 ?_
            refine OpsJ.guard_n rfl rfl rfl rfl hc110 ?_
            refine OpsJ.guard_n rfl rfl rfl rfl hc110 ?_
            refine OpsJ.put rfl (OpJ.pure (OpP.pick_t rfl hc110 rfl) ?_)
            refine OpsJ.put rfl (OpJ.pure (OpP.move rfl) ?_)
            refine OpsJ.guard_n rfl rfl rfl rfl rfl ?_
            refine OpsJ.guard_n rfl rfl rfl rfl rfl ?_
            refine OpsJ.guard_n rfl rfl rfl rfl rfl ?_
            refine OpsJ.put rfl (OpJ.pure (OpP.pick_t rfl rfl rfl) ?_)
            refine OpsJ.put rfl (OpJ.pure (OpP.move rfl) ?_)
            refine OpsJ.guard_n rfl rfl rfl rfl rfl ?_
            refine OpsJ.guard_n rfl rfl rfl rfl rfl ?_
            refine OpsJ.guard_n rfl rfl rfl rfl rfl ?_
            refine OpsJ.put rfl (OpJ.pure (OpP.pick_t rfl rfl rfl) ?_)
            refine OpsJ.put rfl (OpJ.pure (OpP.move rfl) ?_)
            refine OpsJ.guard_n rfl rfl rfl rfl rfl ?_
            refine OpsJ.guard_n rfl rfl rfl rfl rfl ?_
            refine OpsJ.guard_n rfl rfl rfl rfl rfl ?_
            refine OpsJ.put rfl (OpJ.pure (OpP.pick_t rfl rfl rfl) ?_)
            refine OpsJ.nil ?_
            refine CodeJ.cond_t rfl rfl ?_
            refine CodeJ.seq' ?_
            refine CodeJ.region ?_
            refine OpsJ.put rfl (OpJ.pure (OpP.assign rfl) ?_)
            refine OpsJ.nil ?_
            obtain rfl := Option.some.inj h102
            have ht111 := hne95 _ rfl
            subst ht111
            simp only [Sum.elim_inl] at h98
            refine CodeJ.ret' ?_
            obtain rfl := Option.some.inj h98
            exact Ret.mk0 ⟨rfl, rfl⟩ (ResJ.one Try.results25 rfl) (IM.le_refl _) (SubL.nil _)
          · rw [if_neg hc110] at h102
            refine OpsJ.guard_y rfl rfl rfl rfl (Bool.eq_false_iff.2 hc110) ?_
            refine OpsJ.put rfl (OpJ.pure (OpP.fldAddr_lit rfl (by exact rfl)) ?_)
            refine OpsJ.guard_y rfl rfl rfl rfl (Bool.eq_false_iff.2 hc110) ?_
            refine OpsJ.put rfl (OpJ.pure (OpP.load_blk (by exact rfl) rfl (List.Mem.head _) rfl) ?_)
            refine OpsJ.guard_y rfl rfl rfl rfl (Bool.eq_false_iff.2 hc110) ?_
            refine OpsJ.put rfl (OpJ.pure (OpP.lss rfl rfl) ?_)
            refine OpsJ.put rfl (OpJ.pure (OpP.pick_f rfl (Bool.eq_false_iff.2 hc110) rfl) ?_)
            refine OpsJ.put rfl (OpJ.pure (OpP.move rfl) ?_)
            by_cases hc112 : x100.2.1 < 0
            · rw [if_pos hc112] at h102
              refine OpsJ.guard_n rfl rfl rfl rfl (decide_eq_true hc112) ?_
              refine OpsJ.guard_n rfl rfl rfl rfl (decide_eq_true hc112) ?_
              refine OpsJ.guard_n rfl rfl rfl rfl (decide_eq_true hc112) ?_
              refine OpsJ.put rfl (OpJ.pure (OpP.pick_t rfl (decide_eq_true hc112) rfl) ?_)
              refine OpsJ.put rfl (OpJ.pure (OpP.move rfl) ?_)
              refine OpsJ.guard_n rfl rfl rfl rfl rfl ?_
              refine OpsJ.guard_n rfl rfl rfl rfl rfl ?_
              refine OpsJ.guard_n rfl rfl rfl rfl rfl ?_
              refine OpsJ.put rfl (OpJ.pure (OpP.pick_t rfl rfl rfl) ?_)
              refine OpsJ.put rfl (OpJ.pure (OpP.move rfl) ?_)
              refine OpsJ.guard_n rfl rfl rfl rfl rfl ?_
              refine OpsJ.guard_n rfl rfl rfl rfl rfl ?_
              refine OpsJ.guard_n rfl rfl rfl rfl rfl ?_
              refine OpsJ.put rfl (OpJ.pure (OpP.pick_t rfl rfl rfl) ?_)
              refine OpsJ.nil ?_
              refine CodeJ.cond_t rfl rfl ?_
              refine CodeJ.seq' ?_
              refine CodeJ.region ?_
              refine OpsJ.put rfl (OpJ.pure (OpP.assign rfl) ?_)
              refine OpsJ.nil ?_
              obtain rfl := Option.some.inj h102
              have ht113 := hne95 _ rfl
              subst ht113
              simp only [Sum.elim_inl] at h98
              refine CodeJ.ret' ?_
              obtain rfl := Option.some.inj h98
              exact Ret.mk0 ⟨rfl, rfl⟩ (ResJ.one Try.results25 rfl) (IM.le_refl _) (SubL.nil _)
            · rw [if_neg hc112] at h102
              refine OpsJ.guard_y rfl rfl rfl rfl (decide_eq_false hc112) ?_
              refine OpsJ.put rfl (OpJ.pure (OpP.fldAddr_lit rfl (by exact rfl)) ?_)
              refine OpsJ.guard_y rfl rfl rfl rfl (decide_eq_false hc112) ?_
              refine OpsJ.put rfl (OpJ.pure (OpP.load_blk (by exact rfl) rfl (List.Mem.head _) rfl) ?_)
              refine OpsJ.guard_y rfl rfl rfl rfl (decide_eq_false hc112) ?_
              refine OpsJ.put rfl (OpJ.pure (OpP.gtr rfl rfl) ?_)
              refine OpsJ.put rfl (OpJ.pure (OpP.pick_f rfl (decide_eq_false hc112) rfl) ?_)
              refine OpsJ.put rfl (OpJ.pure (OpP.move rfl) ?_)
              by_cases hc114 : x100.2.1 > 34359738368
              · rw [if_pos hc114] at h102
                refine OpsJ.guard_n rfl rfl rfl rfl (decide_eq_true hc114) ?_
                refine OpsJ.guard_n rfl rfl rfl rfl (decide_eq_true hc114) ?_
                refine OpsJ.guard_n rfl rfl rfl rfl (decide_eq_true hc114) ?_
                refine OpsJ.put rfl (OpJ.pure (OpP.pick_t rfl (decide_eq_true hc114) rfl) ?_)
                refine OpsJ.put rfl (OpJ.pure (OpP.move rfl) ?_)
                refine OpsJ.guard_n rfl rfl rfl rfl rfl ?_
                refine OpsJ.guard_n rfl rfl rfl rfl rfl ?_
                refine OpsJ.guard_n rfl rfl rfl rfl rfl ?_
                refine OpsJ.put rfl (OpJ.pure (OpP.pick_t rfl rfl rfl) ?_)
                refine OpsJ.nil ?_
                refine CodeJ.cond_t rfl rfl ?_
                refine CodeJ.seq' ?_
                refine CodeJ.region ?_
                refine OpsJ.put rfl (OpJ.pure (OpP.assign rfl) ?_)
                refine OpsJ.nil ?_
                obtain rfl := Option.some.inj h102
                have ht115 := hne95 _ rfl
                subst ht115
                simp only [Sum.elim_inl] at h98
                refine CodeJ.ret' ?_
                obtain rfl := Option.some.inj h98
                exact Ret.mk0 ⟨rfl, rfl⟩ (ResJ.one Try.results25 rfl) (IM.le_refl _) (SubL.nil _)
              · rw [if_neg hc114] at h102
                refine OpsJ.guard_y rfl rfl rfl rfl (decide_eq_false hc114) ?_
                refine OpsJ.put rfl (OpJ.pure (OpP.fldAddr_lit rfl (by exact rfl)) ?_)
                refine OpsJ.guard_y rfl rfl rfl rfl (decide_eq_false hc114) ?_
                refine OpsJ.put rfl (OpJ.pure (OpP.load_blk (by exact rfl) rfl (List.Mem.head _) rfl) ?_)
                refine OpsJ.guard_y rfl rfl rfl rfl (decide_eq_false hc114) ?_
                refine OpsJ.put rfl (OpJ.pure (OpP.lss rfl rfl) ?_)
                refine OpsJ.put rfl (OpJ.pure (OpP.pick_f rfl (decide_eq_false hc114) rfl) ?_)
                refine OpsJ.put rfl (OpJ.pure (OpP.move rfl) ?_)
                by_cases hc116 : x100.2.2 < 1
                · rw [if_pos hc116] at h102
                  refine OpsJ.guard_n rfl rfl rfl rfl (decide_eq_true hc116) ?_
                  refine OpsJ.guard_n rfl rfl rfl rfl (decide_eq_true hc116) ?_
                  refine OpsJ.guard_n rfl rfl rfl rfl (decide_eq_true hc116) ?_
                  refine OpsJ.put rfl (OpJ.pure (OpP.pick_t rfl (decide_eq_true hc116) rfl) ?_)
                  refine OpsJ.nil ?_
                  refine CodeJ.cond_t rfl rfl ?_
                  refine CodeJ.seq' ?_
                  refine CodeJ.region ?_
                  refine OpsJ.put rfl (OpJ.pure (OpP.assign rfl) ?_)
                  refine OpsJ.nil ?_
                  obtain rfl := Option.some.inj h102
                  have ht117 := hne95 _ rfl
                  subst ht117
                  simp only [Sum.elim_inl] at h98
                  refine CodeJ.ret' ?_
                  obtain rfl := Option.some.inj h98
                  exact Ret.mk0 ⟨rfl, rfl⟩ (ResJ.one Try.results25 rfl) (IM.le_refl _) (SubL.nil _)
                · rw [if_neg hc116] at h102
                  refine OpsJ.guard_y rfl rfl rfl rfl (decide_eq_false hc116) ?_
                  refine OpsJ.put rfl (OpJ.pure (OpP.fldAddr_lit rfl (by exact rfl)) ?_)
                  refine OpsJ.guard_y rfl rfl rfl rfl (decide_eq_false hc116) ?_
                  refine OpsJ.put rfl (OpJ.pure (OpP.load_blk (by exact rfl) rfl (List.Mem.head _) rfl) ?_)
                  refine OpsJ.guard_y rfl rfl rfl rfl (decide_eq_false hc116) ?_
                  refine OpsJ.put rfl (OpJ.pure (OpP.gtr rfl rfl) ?_)
                  refine OpsJ.put rfl (OpJ.pure (OpP.pick_f rfl (decide_eq_false hc116) rfl) ?_)
                  refine OpsJ.nil ?_
                  by_cases hc118 : x100.2.2 > 512
                  · rw [if_pos hc118] at h102
                    refine CodeJ.cond_t rfl (decide_eq_true hc118) ?_
                    refine CodeJ.seq' ?_
                    refine CodeJ.region ?_
                    refine OpsJ.put rfl (OpJ.pure (OpP.assign rfl) ?_)
                    refine OpsJ.nil ?_
                    obtain rfl := Option.some.inj h102
                    have ht119 := hne95 _ rfl
                    subst ht119
                    simp only [Sum.elim_inl] at h98
                    refine CodeJ.ret' ?_
                    obtain rfl := Option.some.inj h98
                    exact Ret.mk0 ⟨rfl, rfl⟩ (ResJ.one Try.results25 rfl) (IM.le_refl _) (SubL.nil _)
                  · rw [if_neg hc118] at h102
                    refine CodeJ.cond_f rfl (decide_eq_false hc118) ?_
                    refine CodeJ.skip ?_
                    refine CodeJ.seq' ?_
                    refine CodeJ.seq' ?_
                    refine CodeJ.drawn (by kernel_rfl) (by kernel_rfl) ?_
                    refine QuietJ.put rfl (OpQ.pure (OpP.move rfl) ?_)
                    refine QuietJ.put rfl (OpQ.pure (OpP.gtr rfl rfl) ?_)
                    refine QuietJ.put rfl (OpQ.pure (OpP.move rfl) ?_)
                    by_cases hc120 : v62 > 0
                    · rw [if_pos hc120] at h102
                      refine QuietJ.guard_y rfl rfl rfl rfl (decide_eq_true hc120) ?_
                      refine QuietJ.put rfl (OpQ.pure (OpP.fldAddr_lit rfl (by exact rfl)) ?_)
                      refine QuietJ.guard_y rfl rfl rfl rfl (decide_eq_true hc120) ?_
                      refine QuietJ.put rfl (OpQ.pure (OpP.load_blk (by exact rfl) rfl (List.Mem.head _) rfl) ?_)
                      refine QuietJ.guard_y rfl rfl rfl rfl (decide_eq_true hc120) ?_
                      refine QuietJ.put rfl (OpQ.pure (OpP.move rfl) ?_)
                      refine QuietJ.guard_y rfl rfl rfl rfl (decide_eq_true hc120) ?_
                      refine QuietJ.put rfl (OpQ.pure (OpP.move rfl) ?_)
                      refine QuietJ.guard_y rfl rfl rfl rfl (decide_eq_true hc120) ?_
                      refine QuietJ.put rfl (OpQ.pure (OpP.sub64 rfl rfl) ?_)
                      refine QuietJ.guard_y rfl rfl rfl rfl (decide_eq_true hc120) ?_
                      obtain ⟨x121, hx122, h123⟩ := bind_ok h102
                      clear h102
                      have hE124 : RC _ (some ((adr A0_).add (Int.toNat (w64 (v62 - 1)) * Dat.size (Int × Int × Int)))) [.int .i64 x121.1, .int .i64 x121.2.1, .int .i64 x121.2.2] := SlR.getF (α := Int × Int × Int) hA0_ hx122
                      refine QuietJ.put rfl (OpQ.pure (OpP.ixR hA0_ rfl hx122 (by exact rfl) (by exact rfl) rfl rfl) ?_)
                      refine QuietJ.guard_y rfl rfl rfl rfl (decide_eq_true hc120) ?_
                      refine QuietJ.put rfl (OpQ.pure (OpP.fldAddr rfl (by exact rfl)) ?_)
                      refine QuietJ.guard_y rfl rfl rfl rfl (decide_eq_true hc120) ?_
                      refine QuietJ.put rfl (OpQ.pure (OpP.ldR (by exact rfl) hE124 (IM.le_refl _) rfl rfl) ?_)
                      refine QuietJ.guard_y rfl rfl rfl rfl (decide_eq_true hc120) ?_
                      refine QuietJ.put rfl (OpQ.pure (OpP.move rfl) ?_)
                      refine QuietJ.guard_y rfl rfl rfl rfl (decide_eq_true hc120) ?_
                      refine QuietJ.put rfl (OpQ.pure (OpP.move rfl) ?_)
                      refine QuietJ.guard_y rfl rfl rfl rfl (decide_eq_true hc120) ?_
                      refine QuietJ.put rfl (OpQ.pure (OpP.sub64 rfl rfl) ?_)
                      refine QuietJ.guard_y rfl rfl rfl rfl (decide_eq_true hc120) ?_
                      have hE125 : RC _ (some ((adr A0_).add (Int.toNat (w64 (v62 - 1)) * Dat.size (Int × Int × Int)))) [.int .i64 x121.1, .int .i64 x121.2.1, .int .i64 x121.2.2] := SlR.getF (α := Int × Int × Int) hA0_ hx122
                      refine QuietJ.put rfl (OpQ.pure (OpP.ixR hA0_ rfl hx122 (by exact rfl) (by exact rfl) rfl rfl) ?_)
                      refine QuietJ.guard_y rfl rfl rfl rfl (decide_eq_true hc120) ?_
                      refine QuietJ.put rfl (OpQ.pure (OpP.fldAddr rfl (by exact rfl)) ?_)
                      refine QuietJ.guard_y rfl rfl rfl rfl (decide_eq_true hc120) ?_
                      refine QuietJ.put rfl (OpQ.pure (OpP.ldR (by exact rfl) hE125 (IM.le_refl _) rfl rfl) ?_)
                      refine QuietJ.guard_y rfl rfl rfl rfl (decide_eq_true hc120) ?_
                      refine QuietJ.put rfl (OpQ.pure (OpP.add64 rfl rfl) ?_)
                      refine QuietJ.guard_y rfl rfl rfl rfl (decide_eq_true hc120) ?_
                      refine QuietJ.put rfl (OpQ.pure (OpP.neq rfl rfl) ?_)
                      refine QuietJ.put rfl (OpQ.pure (OpP.pick_t rfl (decide_eq_true hc120) rfl) ?_)
                      refine QuietJ.nil ?_
                      by_cases hc126 : x100.2.1 ≠ w64 (x121.2.1 + x121.2.2)
                      · rw [if_pos hc126] at h123
                        refine CodeJ.cond_t rfl (decide_eq_true hc126) ?_
                        refine CodeJ.seq' ?_
                        refine CodeJ.region ?_
                        refine OpsJ.put rfl (OpJ.pure (OpP.assign rfl) ?_)
                        refine OpsJ.nil ?_
                        obtain rfl := Option.some.inj h123
                        have ht127 := hne95 _ rfl
                        subst ht127
                        simp only [Sum.elim_inl] at h98
                        refine CodeJ.ret' ?_
                        obtain rfl := Option.some.inj h98
                        exact Ret.mk0 ⟨rfl, rfl⟩ (ResJ.one Try.results25 rfl) (IM.le_refl _) (SubL.nil _)
                      · rw [if_neg hc126] at h123
                        refine CodeJ.cond_f rfl (decide_eq_false hc126) ?_
                        refine CodeJ.skip ?_
                        refine CodeJ.region ?_
                        refine OpsJ.put rfl (OpJ.pure (OpP.move rfl) ?_)
                        refine OpsJ.put rfl (OpJ.pure (OpP.fldAddr_lit rfl (by exact rfl)) ?_)
                        refine OpsJ.put rfl (OpJ.pure (OpP.load_blk (by exact rfl) rfl (List.Mem.head _) rfl) ?_)
                        refine OpsJ.act (OpJ.mset (evv := fun x => .bool x) (key := x100.1) (val := true) (List.Perm.swap _ _ _) hm66 rfl rfl rfl (fun es128 cl129 hm130 => ?_))
                        refine OpsJ.nil ?_
                        refine CodeJ.region ?_
                        refine OpsJ.put rfl (OpJ.pure (OpP.add64 rfl rfl) ?_)
                        refine OpsJ.put rfl (OpJ.pure (OpP.move rfl) ?_)
                        refine OpsJ.nil ?_
                        obtain rfl := Option.some.inj h123
                        exact ⟨_, _, _, _, rfl, ⟨es128, cl129, hm130, rfl, rfl⟩, IM.le_refl _, (SubE.cons rfl (SubE.cons rfl (SubE.cons rfl (SubE.cons rfl (SubE.cons rfl (SubE.nil _)))))), (SubL.p0 (SubL.nil _))⟩
                    · rw [if_neg hc120] at h102
                      refine QuietJ.guard_n rfl rfl rfl rfl (decide_eq_false hc120) ?_
                      refine QuietJ.guard_n rfl rfl rfl rfl (decide_eq_false hc120) ?_
                      refine QuietJ.guard_n rfl rfl rfl rfl (decide_eq_false hc120) ?_
                      refine QuietJ.guard_n rfl rfl rfl rfl (decide_eq_false hc120) ?_
                      refine QuietJ.guard_n rfl rfl rfl rfl (decide_eq_false hc120) ?_
                      refine QuietJ.guard_n rfl rfl rfl rfl (decide_eq_false hc120) ?_
                      refine QuietJ.guard_n rfl rfl rfl rfl (decide_eq_false hc120) ?_
                      refine QuietJ.guard_n rfl rfl rfl rfl (decide_eq_false hc120) ?_
                      refine QuietJ.guard_n rfl rfl rfl rfl (decide_eq_false hc120) ?_
                      refine QuietJ.guard_n rfl rfl rfl rfl (decide_eq_false hc120) ?_
                      refine QuietJ.guard_n rfl rfl rfl rfl (decide_eq_false hc120) ?_
                      refine QuietJ.guard_n rfl rfl rfl rfl (decide_eq_false hc120) ?_
                      refine QuietJ.guard_n rfl rfl rfl rfl (decide_eq_false hc120) ?_
                      refine QuietJ.guard_n rfl rfl rfl rfl (decide_eq_false hc120) ?_
                      refine QuietJ.guard_n rfl rfl rfl rfl (decide_eq_false hc120) ?_
                      refine QuietJ.guard_n rfl rfl rfl rfl (decide_eq_false hc120) ?_
                      refine QuietJ.put rfl (OpQ.pure (OpP.pick_f rfl (decide_eq_false hc120) rfl) ?_)
                      refine QuietJ.nil ?_
                      refine CodeJ.cond_f rfl rfl ?_
                      refine CodeJ.skip ?_
                      refine CodeJ.region ?_
                      refine OpsJ.put rfl (OpJ.pure (OpP.move rfl) ?_)
                      refine OpsJ.put rfl (OpJ.pure (OpP.fldAddr_lit rfl (by exact rfl)) ?_)
                      refine OpsJ.put rfl (OpJ.pure (OpP.load_blk (by exact rfl) rfl (List.Mem.head _) rfl) ?_)
                      refine OpsJ.act (OpJ.mset (evv := fun x => .bool x) (key := x100.1) (val := true) (List.Perm.swap _ _ _) hm66 rfl rfl rfl (fun es131 cl132 hm133 => ?_))
                      refine OpsJ.nil ?_
                      refine CodeJ.region ?_
                      refine OpsJ.put rfl (OpJ.pure (OpP.add64 rfl rfl) ?_)
                      refine OpsJ.put rfl (OpJ.pure (OpP.move rfl) ?_)
                      refine OpsJ.nil ?_
                      obtain rfl := Option.some.inj h102
                      exact ⟨_, _, _, _, rfl, ⟨es131, cl132, hm133, rfl, rfl⟩, IM.le_refl _, (SubE.cons rfl (SubE.cons rfl (SubE.cons rfl (SubE.cons rfl (SubE.cons rfl (SubE.nil _)))))), (SubL.p0 (SubL.nil _))⟩
    · rw [if_neg hc99] at h94
      refine CodeJ.cond_f rfl (decide_eq_false hc99) ?_
      refine CodeJ.exit rfl ?_
      obtain rfl := Option.some.inj h94
      have ht134 := hne95 _ rfl
      exact ⟨_, _, _, ⟨ht134, rfl, rfl⟩, IM.le_refl _, (SubE.nil _), (SubL.nil _)⟩
  · rintro _ _ ⟨rfl, rfl, rfl⟩
    simp only [Sum.elim_inr] at h98
    refine CodeJ.seq' ?_
    refine CodeJ.region ?_
    refine OpsJ.put rfl (OpJ.pure (OpP.assign rfl) ?_)
    refine OpsJ.nil ?_
    refine CodeJ.ret' ?_
    obtain rfl := Option.some.inj h98
    exact Ret.mk0 ⟨rfl, rfl⟩ (ResJ.one Try.results25 rfl) (IM.le_refl _) (SubL.nil _)
theorem winnowerref19_Pick_w (R : IM) (A0_ : Option Addr) (n0_ c0_ : Nat) (p0_l : List (Int × Int × Int)) (hA0_ : SlR R A0_ p0_l) (hn0_ : p0_l.length = n0_) (hc0_ : n0_ ≤ c0_) (y : Int × Bool) (h : winnowerref19_Pick p0_l = some y) :
    CallJ Try.prog 28 #[.slice A0_ n0_ c0_] ⟨R, []⟩ (fun v D hs' => v = .tuple #[.int .i64 y.1, .bool y.2] ∧ hs' = []) := by
  subst hn0_
  unfold winnowerref19_Pick at h
  refine CallJ.of1 Try.func28 rfl Try.ntmps28 rfl (fun W0 => ?_)
  refine CodeJ.seq' ?_
  refine CodeJ.region ?_
  refine OpsJ.put rfl (OpJ.pure (OpP.assign rfl) ?_)
  refine OpsJ.put rfl (OpJ.pure (OpP.assign rfl) ?_)
  refine OpsJ.nil ?_
  refine CodeJ.seq' ?_
  refine CodeJ.seq' ?_
  refine CodeJ.region ?_
  refine OpsJ.put rfl (OpJ.pure (OpP.move rfl) ?_)
  obtain ⟨y4, hy5, h6⟩ := bind_ok h
  clear h
  refine OpsJ.put rfl (OpJ.call0 rfl (fun R1 hle2 hin3 => winnowerref19_Is_w R1 A0_ p0_l.length c0_ p0_l (SlR.mono hA0_ (IM.le_trans (IM.le_refl _) hle2)) rfl hc0_  _ hy5) ?_)
  rintro _ _ _ ⟨rfl, rfl⟩
  refine OpsJ.put rfl (OpJ.pure (OpP.not rfl) ?_)
  refine OpsJ.nil ?_
  by_cases hc7 : y4 = true
  · rw [if_pos hc7] at h6
    refine CodeJ.cond_f rfl (congrArg Bool.not hc7) ?_
    refine CodeJ.skip ?_
    refine CodeJ.seq' ?_
    refine CodeJ.region ?_
    refine OpsJ.put rfl (OpJ.pure (OpP.assign rfl) ?_)
    refine OpsJ.put rfl (OpJ.pure (OpP.assign rfl) ?_)
    refine OpsJ.nil ?_
    refine CodeJ.seq' ?_
    refine CodeJ.seq' ?_
    refine CodeJ.region ?_
    refine OpsJ.put rfl (OpJ.pure (OpP.assign rfl) ?_)
    refine OpsJ.nil ?_
    obtain ⟨t47, hl48, h49⟩ := bind_ok h6
    clear h6
    refine CodeJ.mid (fun e s => ∃ (best_44 : Int), best_44 = t47 ∧ e = [(4, .int .i64 best_44)] ∧ s = ⟨R, []⟩) ?_ ?_
    · refine CodeJ.block ?_
      refine CodeJ.loopM hl48 (fun (best_31, least_32, i_33) e s => e = [(0, .slice A0_ p0_l.length c0_), (4, .int .i64 best_31), (5, .int .i64 least_32), (6, .int .i64 i_33)] ∧ s = ⟨R, []⟩) ⟨rfl, rfl⟩ (SubE.cons rfl (SubE.cons rfl (SubE.cons rfl (SubE.cons rfl (SubE.nil _))))) (SubL.nil _) ?_
      rintro ⟨best_31, least_32, i_33⟩ _ _ _ ⟨rfl, rfl⟩ h45 hne46
      (try dsimp only at h45); unfold winnowerref19_Pick_l0 at h45
      refine CodeJ.seq' ?_
      refine CodeJ.seq' ?_
      refine CodeJ.region ?_
      refine OpsJ.put rfl (OpJ.pure (OpP.move rfl) ?_)
      refine OpsJ.put rfl (OpJ.pure (OpP.add64 rfl rfl) ?_)
      refine OpsJ.put rfl (OpJ.pure (OpP.move rfl) ?_)
      refine OpsJ.put rfl (OpJ.pure (OpP.len rfl) ?_)
      refine OpsJ.put rfl (OpJ.pure (OpP.lss rfl rfl) ?_)
      refine OpsJ.nil ?_
      by_cases hc50 : w64 (i_33 + 1) < ((p0_l.length : Nat) : Int)
      · rw [if_pos hc50] at h45
        refine CodeJ.cond_t rfl (decide_eq_true hc50) ?_
        refine CodeJ.skip ?_
        refine CodeJ.seq' ?_
        refine CodeJ.block ?_
        refine CodeJ.seq' ?_
        refine CodeJ.drawn (by kernel_rfl) (by kernel_rfl) ?_
        refine QuietJ.put rfl (OpQ.pure (OpP.move rfl) ?_)
        refine QuietJ.put rfl (OpQ.pure (OpP.move rfl) ?_)
        obtain ⟨x51, hx52, h53⟩ := bind_ok h45
        clear h45
        have hE54 : RC _ (some ((adr A0_).add (Int.toNat i_33 * Dat.size (Int × Int × Int)))) [.int .i64 x51.1, .int .i64 x51.2.1, .int .i64 x51.2.2] := SlR.getF (α := Int × Int × Int) hA0_ hx52
        refine QuietJ.put rfl (OpQ.pure (OpP.ixR hA0_ rfl hx52 (by exact rfl) (by exact rfl) rfl rfl) ?_)
        refine QuietJ.put rfl (OpQ.pure (OpP.fldAddr rfl (by exact rfl)) ?_)
        refine QuietJ.put rfl (OpQ.pure (OpP.ldR (by exact rfl) hE54 (IM.le_refl _) rfl rfl) ?_)
        refine QuietJ.put rfl (OpQ.pure (OpP.move rfl) ?_)
        refine QuietJ.put rfl (OpQ.pure (OpP.move rfl) ?_)
        refine QuietJ.put rfl (OpQ.pure (OpP.add64 rfl rfl) ?_)
        obtain ⟨x55, hx56, h57⟩ := bind_ok h53
        clear h53
        have hE58 : RC _ (some ((adr A0_).add (Int.toNat (w64 (i_33 + 1)) * Dat.size (Int × Int × Int)))) [.int .i64 x55.1, .int .i64 x55.2.1, .int .i64 x55.2.2] := SlR.getF (α := Int × Int × Int) hA0_ hx56
        refine QuietJ.put rfl (OpQ.pure (OpP.ixR hA0_ rfl hx56 (by exact rfl) (by exact rfl) rfl rfl) ?_)
        refine QuietJ.put rfl (OpQ.pure (OpP.fldAddr rfl (by exact rfl)) ?_)
        refine QuietJ.put rfl (OpQ.pure (OpP.ldR (by exact rfl) hE58 (IM.le_refl _) rfl rfl) ?_)
        refine QuietJ.put rfl (OpQ.pure (OpP.add64 rfl rfl) ?_)
        refine QuietJ.put rfl (OpQ.pure (OpP.assign rfl) ?_)
        refine QuietJ.nil ?_
        refine CodeJ.seq' ?_
        refine CodeJ.region ?_
        refine OpsJ.put rfl (OpJ.pure (OpP.move rfl) ?_)
        refine OpsJ.put rfl (OpJ.pure (OpP.move rfl) ?_)
        refine OpsJ.put rfl (OpJ.pure (OpP.lss rfl rfl) ?_)
        refine OpsJ.nil ?_
        by_cases hc59 : w64 (x51.2.2 + x55.2.2) < least_32
        · rw [if_pos hc59] at h57
          refine CodeJ.cond_t rfl (decide_eq_true hc59) ?_
          refine CodeJ.region ?_
          refine OpsJ.put rfl (OpJ.pure (OpP.move rfl) ?_)
          refine OpsJ.put rfl (OpJ.pure (OpP.move rfl) ?_)
          refine OpsJ.put rfl (OpJ.pure (OpP.assign rfl) ?_)
          refine OpsJ.put rfl (OpJ.pure (OpP.assign rfl) ?_)
          refine OpsJ.nil ?_
          refine CodeJ.region ?_
          refine OpsJ.put rfl (OpJ.pure (OpP.move rfl) ?_)
          refine OpsJ.put rfl (OpJ.pure (OpP.add64 rfl rfl) ?_)
          refine OpsJ.put rfl (OpJ.pure (OpP.assign rfl) ?_)
          refine OpsJ.nil ?_
          obtain rfl := Option.some.inj h57
          exact ⟨_, _, _, _, rfl, ⟨rfl, rfl⟩, IM.le_refl _, (SubE.cons rfl (SubE.cons rfl (SubE.cons rfl (SubE.cons rfl (SubE.nil _))))), (SubL.nil _)⟩
        · rw [if_neg hc59] at h57
          refine CodeJ.cond_f rfl (decide_eq_false hc59) ?_
          refine CodeJ.skip ?_
          refine CodeJ.region ?_
          refine OpsJ.put rfl (OpJ.pure (OpP.move rfl) ?_)
          refine OpsJ.put rfl (OpJ.pure (OpP.add64 rfl rfl) ?_)
          refine OpsJ.put rfl (OpJ.pure (OpP.assign rfl) ?_)
          refine OpsJ.nil ?_
          obtain rfl := Option.some.inj h57
          exact ⟨_, _, _, _, rfl, ⟨rfl, rfl⟩, IM.le_refl _, (SubE.cons rfl (SubE.cons rfl (SubE.cons rfl (SubE.cons rfl (SubE.nil _))))), (SubL.nil _)⟩
      · rw [if_neg hc50] at h45
        refine CodeJ.cond_f rfl (decide_eq_false hc50) ?_
        refine CodeJ.exit rfl ?_
        obtain rfl := Option.some.inj h45
        have ht60 := hne46 _ rfl
        exact ⟨_, _, _, ⟨best_31, ht60, rfl, rfl⟩, IM.le_refl _, (SubE.cons rfl (SubE.nil _)), (SubL.nil _)⟩
    · rintro _ _ ⟨best_44, rfl, rfl, rfl⟩
      (try dsimp only at h49)
      refine CodeJ.seq' ?_
      refine CodeJ.seq' ?_
      refine CodeJ.region ?_
      refine OpsJ.put rfl (OpJ.pure (OpP.move rfl) ?_)
      refine OpsJ.put rfl (OpJ.pure (OpP.lss rfl rfl) ?_)
      refine OpsJ.nil ?_
      by_cases hc61 : best_44 < 0
      · rw [if_pos hc61] at h49
        refine CodeJ.cond_t rfl (decide_eq_true hc61) ?_
        refine CodeJ.seq' ?_
        refine CodeJ.region ?_
        refine OpsJ.put rfl (OpJ.pure (OpP.assign rfl) ?_)
        refine OpsJ.put rfl (OpJ.pure (OpP.assign rfl) ?_)
        refine OpsJ.nil ?_
        refine CodeJ.ret' ?_
        obtain rfl := Option.some.inj h49
        exact Ret.mk0 ⟨rfl, rfl⟩ (ResJ.two Try.results28 rfl rfl) (IM.le_refl _) (SubL.nil _)
      · rw [if_neg hc61] at h49
        refine CodeJ.cond_f rfl (decide_eq_false hc61) ?_
        refine CodeJ.skip ?_
        refine CodeJ.seq' ?_
        refine CodeJ.region ?_
        refine OpsJ.put rfl (OpJ.pure (OpP.move rfl) ?_)
        refine OpsJ.put rfl (OpJ.pure (OpP.assign rfl) ?_)
        refine OpsJ.put rfl (OpJ.pure (OpP.assign rfl) ?_)
        refine OpsJ.nil ?_
        refine CodeJ.ret' ?_
        obtain rfl := Option.some.inj h49
        exact Ret.mk0 ⟨rfl, rfl⟩ (ResJ.two Try.results28 rfl rfl) (IM.le_refl _) (SubL.nil _)
  · rw [if_neg hc7] at h6
    refine CodeJ.cond_t rfl (congrArg Bool.not (Bool.eq_false_iff.2 hc7)) ?_
    refine CodeJ.seq' ?_
    refine CodeJ.region ?_
    refine OpsJ.put rfl (OpJ.pure (OpP.assign rfl) ?_)
    refine OpsJ.put rfl (OpJ.pure (OpP.assign rfl) ?_)
    refine OpsJ.nil ?_
    refine CodeJ.ret' ?_
    obtain rfl := Option.some.inj h6
    exact Ret.mk0 ⟨rfl, rfl⟩ (ResJ.two Try.results28 rfl rfl) (IM.le_refl _) (SubL.nil _)
theorem winnowerref19_Join_w (R : IM) (A0_ : Option Addr) (n0_ c0_ : Nat) (p0_l : List (Int × Int × Int)) (hA0_ : SlR R A0_ p0_l) (hn0_ : p0_l.length = n0_) (hc0_ : n0_ ≤ c0_) (p1_at : Int) (p2_id : Int) (y : (List (Int × Int × Int)) × Bool) (h : winnowerref19_Join p0_l p1_at p2_id = some y) :
    CallJ Try.prog 29 #[.slice A0_ n0_ c0_, .int .i64 p1_at, .int .i64 p2_id] ⟨R, []⟩ (fun v D hs' => ∃ (A0 : Option Addr) (c0 : Nat) (cs0 : List Value), v = .tuple #[.slice A0 y.1.length c0, .bool y.2] ∧ repL IM.nil cs0 y.1 ∧ hs' = [.row 27 3 A0 y.1.length c0 cs0]) := by
  subst hn0_
  unfold winnowerref19_Join at h
  refine CallJ.of3 Try.func29 rfl Try.ntmps29 rfl (fun W0 => ?_)
  refine CodeJ.seq' ?_
  refine CodeJ.region ?_
  refine OpsJ.put rfl (OpJ.pure (OpP.assign rfl) ?_)
  refine OpsJ.put rfl (OpJ.pure (OpP.assign rfl) ?_)
  refine OpsJ.nil ?_
  refine CodeJ.seq' ?_
  refine CodeJ.region ?_
  have hr2 : repL IM.nil [] ([] : List (Int × Int × Int)) := (repL_nil _)
  refine OpsJ.put rfl (OpJ.buildSliceC (cs := []) rfl rfl (by exact rfl) (by exact rfl) (by exact rfl) (by exact rfl) (fun g1 => ?_))
  refine OpsJ.put rfl (OpJ.pure (OpP.move rfl) ?_)
  obtain ⟨q4, hq5, h6⟩ := bind_ok h
  clear h
  obtain ⟨es7, hs8, hp9⟩ := SlR.out hA0_
  have hr12 : repL IM.nil (([] : List Value) ++ es7) q4 := app_rep hq5 hr2 (flat_rep hp9)
  refine OpsJ.put rfl (OpJ.appW hq5 rfl rfl (Src.ofR (RC.mono hs8 (IM.le_refl _))) hp9 (by exact rfl) (List.Perm.refl _) (by exact rfl) (by exact rfl) (by exact rfl) rfl rfl (fun A10 c11 => ?_))
  refine OpsJ.put rfl (OpJ.pure (OpP.assign rfl) ?_)
  refine OpsJ.nil ?_
  refine CodeJ.seq' ?_
  refine CodeJ.seq' ?_
  refine HoldJ.start [.row 27 3 A10 q4.length c11 (([] : List Value) ++ es7)] (by kernel_rfl) ?_
  refine HoldJ.take 0 rfl (by kernel_rfl) rfl (OpP.move rfl) ⟨(IM.le_refl _), (SubL.p0 (SubL.nil _))⟩ ?_
  obtain ⟨y34, hy35, h36⟩ := bind_ok h6
  clear h6
  refine HoldJ.step 1 rfl (by kernel_rfl) rfl (OpJ.call0 rfl (fun R31 hle32 hin33 => winnowerref19_Is_w R31 A0_ p0_l.length c0_ p0_l (SlR.mono hA0_ (IM.le_trans (IM.le_refl _) hle32)) rfl hc0_  _ hy35) ?_)
  rintro _ _ _ ⟨rfl, rfl⟩
  refine ⟨⟨(IM.le_refl _), (SubL.p0 (SubL.nil _))⟩, ?_⟩
  refine HoldJ.take 2 rfl (by kernel_rfl) rfl (OpP.not rfl) ⟨(IM.le_refl _), (SubL.p0 (SubL.nil _))⟩ ?_
  refine HoldJ.take 3 rfl (by kernel_rfl) rfl (OpP.move rfl) ⟨(IM.le_refl _), (SubL.p0 (SubL.nil _))⟩ ?_
  by_cases hc37 : y34 = true
  · rw [if_pos hc37] at h36
    refine HoldJ.take_y 4 rfl (by kernel_rfl) rfl rfl rfl rfl (congrArg Bool.not hc37) (OpP.move rfl) ⟨(IM.le_refl _), (SubL.p0 (SubL.nil _))⟩ ?_
    refine HoldJ.take_y 5 rfl (by kernel_rfl) rfl rfl rfl rfl (congrArg Bool.not hc37) (OpP.lss rfl rfl) ⟨(IM.le_refl _), (SubL.p0 (SubL.nil _))⟩ ?_
    refine HoldJ.take 6 rfl (by kernel_rfl) rfl (OpP.pick_f rfl (congrArg Bool.not hc37) rfl) ⟨(IM.le_refl _), (SubL.p0 (SubL.nil _))⟩ ?_
    refine HoldJ.take 7 rfl (by kernel_rfl) rfl (OpP.move rfl) ⟨(IM.le_refl _), (SubL.p0 (SubL.nil _))⟩ ?_
    by_cases hc38 : p1_at < 0
    · rw [if_pos hc38] at h36
      refine HoldJ.take_n 8 rfl (by kernel_rfl) rfl rfl rfl rfl (decide_eq_true hc38) ⟨(IM.le_refl _), (SubL.p0 (SubL.nil _))⟩ ?_
      refine HoldJ.take_n 9 rfl (by kernel_rfl) rfl rfl rfl rfl (decide_eq_true hc38) ⟨(IM.le_refl _), (SubL.p0 (SubL.nil _))⟩ ?_
      refine HoldJ.take_n 10 rfl (by kernel_rfl) rfl rfl rfl rfl (decide_eq_true hc38) ⟨(IM.le_refl _), (SubL.p0 (SubL.nil _))⟩ ?_
      refine HoldJ.take_n 11 rfl (by kernel_rfl) rfl rfl rfl rfl (decide_eq_true hc38) ⟨(IM.le_refl _), (SubL.p0 (SubL.nil _))⟩ ?_
      refine HoldJ.take_n 12 rfl (by kernel_rfl) rfl rfl rfl rfl (decide_eq_true hc38) ⟨(IM.le_refl _), (SubL.p0 (SubL.nil _))⟩ ?_
      refine HoldJ.take 13 rfl (by kernel_rfl) rfl (OpP.pick_t rfl (decide_eq_true hc38) rfl) ⟨(IM.le_refl _), (SubL.p0 (SubL.nil _))⟩ ?_
      refine HoldJ.take 14 rfl (by kernel_rfl) rfl (OpP.move rfl) ⟨(IM.le_refl _), (SubL.p0 (SubL.nil _))⟩ ?_
      refine HoldJ.take_n 15 rfl (by kernel_rfl) rfl rfl rfl rfl rfl ⟨(IM.le_refl _), (SubL.p0 (SubL.nil _))⟩ ?_
      refine HoldJ.take_n 16 rfl (by kernel_rfl) rfl rfl rfl rfl rfl ⟨(IM.le_refl _), (SubL.p0 (SubL.nil _))⟩ ?_
      refine HoldJ.take_n 17 rfl (by kernel_rfl) rfl rfl rfl rfl rfl ⟨(IM.le_refl _), (SubL.p0 (SubL.nil _))⟩ ?_
      refine HoldJ.take_n 18 rfl (by kernel_rfl) rfl rfl rfl rfl rfl ⟨(IM.le_refl _), (SubL.p0 (SubL.nil _))⟩ ?_
      refine HoldJ.take_n 19 rfl (by kernel_rfl) rfl rfl rfl rfl rfl ⟨(IM.le_refl _), (SubL.p0 (SubL.nil _))⟩ ?_
      refine HoldJ.take_n 20 rfl (by kernel_rfl) rfl rfl rfl rfl rfl ⟨(IM.le_refl _), (SubL.p0 (SubL.nil _))⟩ ?_
      refine HoldJ.take_n 21 rfl (by kernel_rfl) rfl rfl rfl rfl rfl ⟨(IM.le_refl _), (SubL.p0 (SubL.nil _))⟩ ?_
      refine HoldJ.take_n 22 rfl (by kernel_rfl) rfl rfl rfl rfl rfl ⟨(IM.le_refl _), (SubL.p0 (SubL.nil _))⟩ ?_
      refine HoldJ.take_n 23 rfl (by kernel_rfl) rfl rfl rfl rfl rfl ⟨(IM.le_refl _), (SubL.p0 (SubL.nil _))⟩ ?_
      refine HoldJ.take_n 24 rfl (by kernel_rfl) rfl rfl rfl rfl rfl ⟨(IM.le_refl _), (SubL.p0 (SubL.nil _))⟩ ?_
      refine HoldJ.take_n 25 rfl (by kernel_rfl) rfl rfl rfl rfl rfl ⟨(IM.le_refl _), (SubL.p0 (SubL.nil _))⟩ ?_
      refine HoldJ.take_n 26 rfl (by kernel_rfl) rfl rfl rfl rfl rfl ⟨(IM.le_refl _), (SubL.p0 (SubL.nil _))⟩ ?_
      refine HoldJ.take_n 27 rfl (by kernel_rfl) rfl rfl rfl rfl rfl ⟨(IM.le_refl _), (SubL.p0 (SubL.nil _))⟩ ?_
      refine HoldJ.take 28 rfl (by kernel_rfl) rfl (OpP.pick_t rfl rfl rfl) ⟨(IM.le_refl _), (SubL.p0 (SubL.nil _))⟩ ?_
      refine HoldJ.fin (by kernel_rfl) ?_
      refine CodeJ.cond_t rfl rfl ?_
      refine CodeJ.seq' ?_
      refine CodeJ.region ?_
      refine OpsJ.put rfl (OpJ.pure (OpP.move rfl) ?_)
      refine OpsJ.put rfl (OpJ.pure (OpP.assign rfl) ?_)
      refine OpsJ.put rfl (OpJ.pure (OpP.assign rfl) ?_)
      refine OpsJ.nil ?_
      refine CodeJ.ret' ?_
      obtain rfl := Option.some.inj h36
      exact Ret.mk0 ⟨A10, c11, (([] : List Value) ++ es7), rfl, hr12, rfl⟩ (ResJ.two Try.results29 rfl rfl) (IM.le_refl _) (SubL.p0 (SubL.nil _))
    · rw [if_neg hc38] at h36
      refine HoldJ.take_y 8 rfl (by kernel_rfl) rfl rfl rfl rfl (decide_eq_false hc38) (OpP.move rfl) ⟨(IM.le_refl _), (SubL.p0 (SubL.nil _))⟩ ?_
      refine HoldJ.take_y 9 rfl (by kernel_rfl) rfl rfl rfl rfl (decide_eq_false hc38) (OpP.move rfl) ⟨(IM.le_refl _), (SubL.p0 (SubL.nil _))⟩ ?_
      refine HoldJ.take_y 10 rfl (by kernel_rfl) rfl rfl rfl rfl (decide_eq_false hc38) (OpP.len rfl) ⟨(IM.le_refl _), (SubL.p0 (SubL.nil _))⟩ ?_
      refine HoldJ.take_y 11 rfl (by kernel_rfl) rfl rfl rfl rfl (decide_eq_false hc38) (OpP.sub64 rfl rfl) ⟨(IM.le_refl _), (SubL.p0 (SubL.nil _))⟩ ?_
      refine HoldJ.take_y 12 rfl (by kernel_rfl) rfl rfl rfl rfl (decide_eq_false hc38) (OpP.geq rfl rfl) ⟨(IM.le_refl _), (SubL.p0 (SubL.nil _))⟩ ?_
      refine HoldJ.take 13 rfl (by kernel_rfl) rfl (OpP.pick_f rfl (decide_eq_false hc38) rfl) ⟨(IM.le_refl _), (SubL.p0 (SubL.nil _))⟩ ?_
      refine HoldJ.take 14 rfl (by kernel_rfl) rfl (OpP.move rfl) ⟨(IM.le_refl _), (SubL.p0 (SubL.nil _))⟩ ?_
      by_cases hc39 : p1_at ≥ w64 (((p0_l.length : Nat) : Int) - 1)
      · rw [if_pos hc39] at h36
        refine HoldJ.take_n 15 rfl (by kernel_rfl) rfl rfl rfl rfl (decide_eq_true hc39) ⟨(IM.le_refl _), (SubL.p0 (SubL.nil _))⟩ ?_
        refine HoldJ.take_n 16 rfl (by kernel_rfl) rfl rfl rfl rfl (decide_eq_true hc39) ⟨(IM.le_refl _), (SubL.p0 (SubL.nil _))⟩ ?_
        refine HoldJ.take_n 17 rfl (by kernel_rfl) rfl rfl rfl rfl (decide_eq_true hc39) ⟨(IM.le_refl _), (SubL.p0 (SubL.nil _))⟩ ?_
        refine HoldJ.take_n 18 rfl (by kernel_rfl) rfl rfl rfl rfl (decide_eq_true hc39) ⟨(IM.le_refl _), (SubL.p0 (SubL.nil _))⟩ ?_
        refine HoldJ.take_n 19 rfl (by kernel_rfl) rfl rfl rfl rfl (decide_eq_true hc39) ⟨(IM.le_refl _), (SubL.p0 (SubL.nil _))⟩ ?_
        refine HoldJ.take_n 20 rfl (by kernel_rfl) rfl rfl rfl rfl (decide_eq_true hc39) ⟨(IM.le_refl _), (SubL.p0 (SubL.nil _))⟩ ?_
        refine HoldJ.take_n 21 rfl (by kernel_rfl) rfl rfl rfl rfl (decide_eq_true hc39) ⟨(IM.le_refl _), (SubL.p0 (SubL.nil _))⟩ ?_
        refine HoldJ.take_n 22 rfl (by kernel_rfl) rfl rfl rfl rfl (decide_eq_true hc39) ⟨(IM.le_refl _), (SubL.p0 (SubL.nil _))⟩ ?_
        refine HoldJ.take_n 23 rfl (by kernel_rfl) rfl rfl rfl rfl (decide_eq_true hc39) ⟨(IM.le_refl _), (SubL.p0 (SubL.nil _))⟩ ?_
        refine HoldJ.take_n 24 rfl (by kernel_rfl) rfl rfl rfl rfl (decide_eq_true hc39) ⟨(IM.le_refl _), (SubL.p0 (SubL.nil _))⟩ ?_
        refine HoldJ.take_n 25 rfl (by kernel_rfl) rfl rfl rfl rfl (decide_eq_true hc39) ⟨(IM.le_refl _), (SubL.p0 (SubL.nil _))⟩ ?_
        refine HoldJ.take_n 26 rfl (by kernel_rfl) rfl rfl rfl rfl (decide_eq_true hc39) ⟨(IM.le_refl _), (SubL.p0 (SubL.nil _))⟩ ?_
        refine HoldJ.take_n 27 rfl (by kernel_rfl) rfl rfl rfl rfl (decide_eq_true hc39) ⟨(IM.le_refl _), (SubL.p0 (SubL.nil _))⟩ ?_
        refine HoldJ.take 28 rfl (by kernel_rfl) rfl (OpP.pick_t rfl (decide_eq_true hc39) rfl) ⟨(IM.le_refl _), (SubL.p0 (SubL.nil _))⟩ ?_
        refine HoldJ.fin (by kernel_rfl) ?_
        refine CodeJ.cond_t rfl rfl ?_
        refine CodeJ.seq' ?_
        refine CodeJ.region ?_
        refine OpsJ.put rfl (OpJ.pure (OpP.move rfl) ?_)
        refine OpsJ.put rfl (OpJ.pure (OpP.assign rfl) ?_)
        refine OpsJ.put rfl (OpJ.pure (OpP.assign rfl) ?_)
        refine OpsJ.nil ?_
        refine CodeJ.ret' ?_
        obtain rfl := Option.some.inj h36
        exact Ret.mk0 ⟨A10, c11, (([] : List Value) ++ es7), rfl, hr12, rfl⟩ (ResJ.two Try.results29 rfl rfl) (IM.le_refl _) (SubL.p0 (SubL.nil _))
      · rw [if_neg hc39] at h36
        refine HoldJ.take_y 15 rfl (by kernel_rfl) rfl rfl rfl rfl (decide_eq_false hc39) (OpP.move rfl) ⟨(IM.le_refl _), (SubL.p0 (SubL.nil _))⟩ ?_
        refine HoldJ.take_y 16 rfl (by kernel_rfl) rfl rfl rfl rfl (decide_eq_false hc39) (OpP.move rfl) ⟨(IM.le_refl _), (SubL.p0 (SubL.nil _))⟩ ?_
        obtain ⟨x40, hx41, h42⟩ := bind_ok h36
        clear h36
        have hE43 : RC _ (some ((adr A0_).add (Int.toNat p1_at * Dat.size (Int × Int × Int)))) [.int .i64 x40.1, .int .i64 x40.2.1, .int .i64 x40.2.2] := SlR.getF (α := Int × Int × Int) hA0_ hx41
        refine HoldJ.take_y 17 rfl (by kernel_rfl) rfl rfl rfl rfl (decide_eq_false hc39) (OpP.ixR hA0_ rfl hx41 (by exact rfl) (by exact rfl) rfl rfl) ⟨(IM.le_refl _), (SubL.p0 (SubL.nil _))⟩ ?_
        refine HoldJ.take_y 18 rfl (by kernel_rfl) rfl rfl rfl rfl (decide_eq_false hc39) (OpP.fldAddr rfl (by exact rfl)) ⟨(IM.le_refl _), (SubL.p0 (SubL.nil _))⟩ ?_
        refine HoldJ.take_y 19 rfl (by kernel_rfl) rfl rfl rfl rfl (decide_eq_false hc39) (OpP.ldR (by exact rfl) hE43 (IM.le_refl _) rfl rfl) ⟨(IM.le_refl _), (SubL.p0 (SubL.nil _))⟩ ?_
        refine HoldJ.take_y 20 rfl (by kernel_rfl) rfl rfl rfl rfl (decide_eq_false hc39) (OpP.move rfl) ⟨(IM.le_refl _), (SubL.p0 (SubL.nil _))⟩ ?_
        refine HoldJ.take_y 21 rfl (by kernel_rfl) rfl rfl rfl rfl (decide_eq_false hc39) (OpP.move rfl) ⟨(IM.le_refl _), (SubL.p0 (SubL.nil _))⟩ ?_
        refine HoldJ.take_y 22 rfl (by kernel_rfl) rfl rfl rfl rfl (decide_eq_false hc39) (OpP.add64 rfl rfl) ⟨(IM.le_refl _), (SubL.p0 (SubL.nil _))⟩ ?_
        obtain ⟨x44, hx45, h46⟩ := bind_ok h42
        clear h42
        have hE47 : RC _ (some ((adr A0_).add (Int.toNat (w64 (p1_at + 1)) * Dat.size (Int × Int × Int)))) [.int .i64 x44.1, .int .i64 x44.2.1, .int .i64 x44.2.2] := SlR.getF (α := Int × Int × Int) hA0_ hx45
        refine HoldJ.take_y 23 rfl (by kernel_rfl) rfl rfl rfl rfl (decide_eq_false hc39) (OpP.ixR hA0_ rfl hx45 (by exact rfl) (by exact rfl) rfl rfl) ⟨(IM.le_refl _), (SubL.p0 (SubL.nil _))⟩ ?_
        refine HoldJ.take_y 24 rfl (by kernel_rfl) rfl rfl rfl rfl (decide_eq_false hc39) (OpP.fldAddr rfl (by exact rfl)) ⟨(IM.le_refl _), (SubL.p0 (SubL.nil _))⟩ ?_
        refine HoldJ.take_y 25 rfl (by kernel_rfl) rfl rfl rfl rfl (decide_eq_false hc39) (OpP.ldR (by exact rfl) hE47 (IM.le_refl _) rfl rfl) ⟨(IM.le_refl _), (SubL.p0 (SubL.nil _))⟩ ?_
        refine HoldJ.take_y 26 rfl (by kernel_rfl) rfl rfl rfl rfl (decide_eq_false hc39) (OpP.add64 rfl rfl) ⟨(IM.le_refl _), (SubL.p0 (SubL.nil _))⟩ ?_
        refine HoldJ.take_y 27 rfl (by kernel_rfl) rfl rfl rfl rfl (decide_eq_false hc39) (OpP.gtr rfl rfl) ⟨(IM.le_refl _), (SubL.p0 (SubL.nil _))⟩ ?_
        refine HoldJ.take 28 rfl (by kernel_rfl) rfl (OpP.pick_f rfl (decide_eq_false hc39) rfl) ⟨(IM.le_refl _), (SubL.p0 (SubL.nil _))⟩ ?_
        refine HoldJ.fin (by kernel_rfl) ?_
        by_cases hc48 : w64 (x40.2.2 + x44.2.2) > 512
        · rw [if_pos hc48] at h46
          refine CodeJ.cond_t rfl (decide_eq_true hc48) ?_
          refine CodeJ.seq' ?_
          refine CodeJ.region ?_
          refine OpsJ.put rfl (OpJ.pure (OpP.move rfl) ?_)
          refine OpsJ.put rfl (OpJ.pure (OpP.assign rfl) ?_)
          refine OpsJ.put rfl (OpJ.pure (OpP.assign rfl) ?_)
          refine OpsJ.nil ?_
          refine CodeJ.ret' ?_
          obtain rfl := Option.some.inj h46
          exact Ret.mk0 ⟨A10, c11, (([] : List Value) ++ es7), rfl, hr12, rfl⟩ (ResJ.two Try.results29 rfl rfl) (IM.le_refl _) (SubL.p0 (SubL.nil _))
        · rw [if_neg hc48] at h46
          refine CodeJ.cond_f rfl (decide_eq_false hc48) ?_
          refine CodeJ.skip ?_
          refine CodeJ.seq' ?_
          refine HoldJ.start [.row 27 3 A10 q4.length c11 (([] : List Value) ++ es7)] (by kernel_rfl) ?_
          refine HoldJ.take 0 rfl (by kernel_rfl) rfl (OpP.move rfl) ⟨(IM.le_refl _), (SubL.p0 (SubL.nil _))⟩ ?_
          refine HoldJ.take 1 rfl (by kernel_rfl) rfl (OpP.move rfl) ⟨(IM.le_refl _), (SubL.p0 (SubL.nil _))⟩ ?_
          refine HoldJ.take 2 rfl (by kernel_rfl) rfl (OpP.move rfl) ⟨(IM.le_refl _), (SubL.p0 (SubL.nil _))⟩ ?_
          have hE54 : RC _ (some ((adr A0_).add (Int.toNat p1_at * Dat.size (Int × Int × Int)))) [.int .i64 x40.1, .int .i64 x40.2.1, .int .i64 x40.2.2] := SlR.getF (α := Int × Int × Int) hA0_ hx41
          refine HoldJ.take 3 rfl (by kernel_rfl) rfl (OpP.ixR hA0_ rfl hx41 (by exact rfl) (by exact rfl) rfl rfl) ⟨(IM.le_refl _), (SubL.p0 (SubL.nil _))⟩ ?_
          refine HoldJ.take 4 rfl (by kernel_rfl) rfl (OpP.fldAddr rfl (by exact rfl)) ⟨(IM.le_refl _), (SubL.p0 (SubL.nil _))⟩ ?_
          refine HoldJ.take 5 rfl (by kernel_rfl) rfl (OpP.ldR (by exact rfl) hE54 (IM.le_refl _) rfl rfl) ⟨(IM.le_refl _), (SubL.p0 (SubL.nil _))⟩ ?_
          refine HoldJ.take 6 rfl (by kernel_rfl) rfl (OpP.move rfl) ⟨(IM.le_refl _), (SubL.p0 (SubL.nil _))⟩ ?_
          refine HoldJ.take 7 rfl (by kernel_rfl) rfl (OpP.move rfl) ⟨(IM.le_refl _), (SubL.p0 (SubL.nil _))⟩ ?_
          have hE55 : RC _ (some ((adr A0_).add (Int.toNat p1_at * Dat.size (Int × Int × Int)))) [.int .i64 x40.1, .int .i64 x40.2.1, .int .i64 x40.2.2] := SlR.getF (α := Int × Int × Int) hA0_ hx41
          refine HoldJ.take 8 rfl (by kernel_rfl) rfl (OpP.ixR hA0_ rfl hx41 (by exact rfl) (by exact rfl) rfl rfl) ⟨(IM.le_refl _), (SubL.p0 (SubL.nil _))⟩ ?_
          refine HoldJ.take 9 rfl (by kernel_rfl) rfl (OpP.fldAddr rfl (by exact rfl)) ⟨(IM.le_refl _), (SubL.p0 (SubL.nil _))⟩ ?_
          refine HoldJ.take 10 rfl (by kernel_rfl) rfl (OpP.ldR (by exact rfl) hE55 (IM.le_refl _) rfl rfl) ⟨(IM.le_refl _), (SubL.p0 (SubL.nil _))⟩ ?_
          refine HoldJ.take 11 rfl (by kernel_rfl) rfl (OpP.move rfl) ⟨(IM.le_refl _), (SubL.p0 (SubL.nil _))⟩ ?_
          refine HoldJ.take 12 rfl (by kernel_rfl) rfl (OpP.move rfl) ⟨(IM.le_refl _), (SubL.p0 (SubL.nil _))⟩ ?_
          refine HoldJ.take 13 rfl (by kernel_rfl) rfl (OpP.add64 rfl rfl) ⟨(IM.le_refl _), (SubL.p0 (SubL.nil _))⟩ ?_
          have hE56 : RC _ (some ((adr A0_).add (Int.toNat (w64 (p1_at + 1)) * Dat.size (Int × Int × Int)))) [.int .i64 x44.1, .int .i64 x44.2.1, .int .i64 x44.2.2] := SlR.getF (α := Int × Int × Int) hA0_ hx45
          refine HoldJ.take 14 rfl (by kernel_rfl) rfl (OpP.ixR hA0_ rfl hx45 (by exact rfl) (by exact rfl) rfl rfl) ⟨(IM.le_refl _), (SubL.p0 (SubL.nil _))⟩ ?_
          refine HoldJ.take 15 rfl (by kernel_rfl) rfl (OpP.fldAddr rfl (by exact rfl)) ⟨(IM.le_refl _), (SubL.p0 (SubL.nil _))⟩ ?_
          refine HoldJ.take 16 rfl (by kernel_rfl) rfl (OpP.ldR (by exact rfl) hE56 (IM.le_refl _) rfl rfl) ⟨(IM.le_refl _), (SubL.p0 (SubL.nil _))⟩ ?_
          refine HoldJ.take 17 rfl (by kernel_rfl) rfl (OpP.add64 rfl rfl) ⟨(IM.le_refl _), (SubL.p0 (SubL.nil _))⟩ ?_
          refine HoldJ.take 18 rfl (by kernel_rfl) rfl (OpP.buildC (cs := [.int .i64 p2_id, .int .i64 x40.2.1, .int .i64 (w64 (x40.2.2 + x44.2.2))]) rfl (by exact rfl) (by exact rfl)) ⟨(IM.le_refl _), (SubL.p0 (SubL.nil _))⟩ ?_
          refine HoldJ.step 19 rfl (by kernel_rfl) rfl (OpJ.alloc (fun g57 => ?_))
          refine ⟨⟨(IM.le_refl _), (SubL.p1 (SubL.nil _))⟩, ?_⟩
          refine HoldJ.step_act 20 rfl (by kernel_rfl) (OpJ.storeC (us := [.int .i64 p2_id, .int .i64 x40.2.1, .int .i64 (w64 (x40.2.2 + x44.2.2))]) (cs := [.int .i64 p2_id, .int .i64 x40.2.1, .int .i64 (w64 (x40.2.2 + x44.2.2))]) rfl rfl rfl (List.Perm.refl _) (by exact rfl) rfl rfl rfl ?_)
          refine ⟨⟨(IM.le_refl _), (SubL.p1 (SubL.nil _))⟩, ?_⟩
          refine HoldJ.fin (by kernel_rfl) ?_
          refine CodeJ.seq' ?_
          obtain ⟨q67o3n1, hq67o3n2, h67_q67o3n1⟩ := bind_ok h46
          clear h46
          obtain ⟨q67o11n1, hq67o11n2, h67_q67o11n1⟩ := bind_ok h67_q67o3n1
          clear h67_q67o3n1
          obtain ⟨q67o4n1, hq67o4n2, h67_q67o4n1⟩ := bind_ok h67_q67o11n1
          clear h67_q67o11n1
          obtain ⟨q67o7n1, hq67o7n2, h67_q67o7n1⟩ := bind_ok h67_q67o4n1
          clear h67_q67o4n1
          obtain ⟨q67o12n1, hq67o12n2, h67_q67o12n1⟩ := bind_ok h67_q67o7n1
          clear h67_q67o7n1
          refine CodeJ.mid (fun e s => ∃ (A68 : Option Addr) (c69 : Nat) (cs70 : List Value), repL IM.nil cs70 q67o12n1 ∧ e = [(6, .slice A68 q67o12n1.length c69), (7, .bool true)] ∧ s = ⟨R, [.row 27 3 A68 q67o12n1.length c69 cs70]⟩) ?_ ?_
          · refine HoldJ.start [.blk g57 [.int .i64 p2_id, .int .i64 x40.2.1, .int .i64 (w64 (x40.2.2 + x44.2.2))] 27, .row 27 3 A10 q4.length c11 (([] : List Value) ++ es7)] (by kernel_rfl) ?_
            refine HoldJ.take 1 rfl (by kernel_rfl) rfl (OpP.move rfl) ⟨(IM.le_refl _), (SubL.p0 (SubL.p0 (SubL.nil _)))⟩ ?_
            refine HoldJ.take 2 rfl (by kernel_rfl) rfl (OpP.move rfl) ⟨(IM.le_refl _), (SubL.p0 (SubL.p0 (SubL.nil _)))⟩ ?_
            have hA67o3n3 : SlR R A0_ q67o3n1 := cutA0 hA0_ hq67o3n2
            refine HoldJ.take 3 rfl (by kernel_rfl) rfl (OpP.cutHi hq67o3n2 rfl (hcap rfl hc0_) rfl rfl) ⟨(IM.le_refl _), (SubL.p0 (SubL.p0 (SubL.nil _)))⟩ ?_
            refine HoldJ.take 5 rfl (by kernel_rfl) rfl (OpP.loadN_blk (by exact rfl) rfl (List.Mem.head _) (by exact rfl)) ⟨(IM.le_refl _), (SubL.p0 (SubL.p0 (SubL.nil _)))⟩ ?_
            refine HoldJ.take 8 rfl (by kernel_rfl) rfl (OpP.move rfl) ⟨(IM.le_refl _), (SubL.p0 (SubL.p0 (SubL.nil _)))⟩ ?_
            refine HoldJ.take 9 rfl (by kernel_rfl) rfl (OpP.move rfl) ⟨(IM.le_refl _), (SubL.p0 (SubL.p0 (SubL.nil _)))⟩ ?_
            refine HoldJ.take 10 rfl (by kernel_rfl) rfl (OpP.add64 rfl rfl) ⟨(IM.le_refl _), (SubL.p0 (SubL.p0 (SubL.nil _)))⟩ ?_
            have hA67o11n3 : SlR R (cutA A0_ (Int.toNat (w64 (p1_at + 2))) c0_ 3) q67o11n1 := SlR.cut hA0_ hq67o11n2 (hcap rfl hc0_)
            refine HoldJ.take 11 rfl (by kernel_rfl) rfl (OpP.cutLo hq67o11n2 rfl rfl rfl) ⟨(IM.le_refl _), (SubL.p0 (SubL.p0 (SubL.nil _)))⟩ ?_
            refine HoldJ.steps [0, 6] (by kernel_rfl) (all2 ?_ ?_)
            · have hr67o0n2 : repL IM.nil [] ([] : List (Int × Int × Int)) := (repL_nil _)
              refine StepAt.put rfl rfl (OpJ.buildSliceC (cs := []) rfl rfl (by exact rfl) (by exact rfl) (by exact rfl) (by exact rfl) (fun g67o0n1 => ?_))
              refine ⟨⟨(IM.le_refl _), (SubL.p1 (SubL.p1 (SubL.nil _)))⟩, ?_⟩
              refine HoldJ.steps [4, 6] (by kernel_rfl) (all2 ?_ ?_)
              · obtain ⟨es67o4n3, hs67o4n4, hp67o4n5⟩ := SlR.out hA67o3n3
                have hr67o4n8 : repL IM.nil (([] : List Value) ++ es67o4n3) q67o4n1 := app_rep hq67o4n2 hr67o0n2 (flat_rep hp67o4n5)
                refine StepAt.put rfl rfl (OpJ.appW hq67o4n2 rfl rfl (Src.ofR (RC.mono hs67o4n4 (IM.le_refl _))) hp67o4n5 (by exact rfl) (List.Perm.refl _) (by exact rfl) (by exact rfl) (by exact rfl) rfl rfl (fun A67o4n6 c67o4n7 => ?_))
                refine ⟨⟨(IM.le_refl _), (SubL.p1 (SubL.p1 (SubL.nil _)))⟩, ?_⟩
                have hr67o6n2 : repL IM.nil [.int .i64 p2_id, .int .i64 x40.2.1, .int .i64 (w64 (x40.2.2 + x44.2.2))] ([(p2_id, x40.2.1, w64 (x40.2.2 + x44.2.2))] : List (Int × Int × Int)) := (repL_cons (c1 := [.int .i64 p2_id, .int .i64 x40.2.1, .int .i64 (w64 (x40.2.2 + x44.2.2))]) (show Dat.rep _ _ (p2_id, x40.2.1, w64 (x40.2.2 + x44.2.2)) from ⟨[.int .i64 p2_id], [.int .i64 x40.2.1, .int .i64 (w64 (x40.2.2 + x44.2.2))], rfl, rfl, ⟨[.int .i64 x40.2.1], [.int .i64 (w64 (x40.2.2 + x44.2.2))], rfl, rfl, rfl⟩⟩) (repL_nil _))
                refine HoldJ.step 6 rfl (by kernel_rfl) rfl (OpJ.buildSliceC (cs := [.int .i64 p2_id, .int .i64 x40.2.1, .int .i64 (w64 (x40.2.2 + x44.2.2))]) rfl rfl (by exact rfl) (by exact rfl) (by exact rfl) (by exact rfl) (fun g67o6n1 => ?_))
                refine ⟨⟨(IM.le_refl _), (SubL.p2 (SubL.p2 (SubL.nil _)))⟩, ?_⟩
                have hr67o7n5 : repL IM.nil ((([] : List Value) ++ es67o4n3) ++ ([.int .i64 p2_id, .int .i64 x40.2.1, .int .i64 (w64 (x40.2.2 + x44.2.2))] : List Value)) q67o7n1 := app_rep hq67o7n2 hr67o4n8 hr67o6n2
                refine HoldJ.step 7 rfl (by kernel_rfl) rfl (OpJ.appW hq67o7n2 rfl rfl (Src.ofRow (List.Mem.head _)) hr67o6n2 (by exact rfl) (List.Perm.swap _ _ _) (by exact rfl) (by exact rfl) (by exact rfl) rfl rfl (fun A67o7n3 c67o7n4 => ?_))
                refine ⟨⟨(IM.le_refl _), (SubL.p2 (SubL.p2 (SubL.nil _)))⟩, ?_⟩
                obtain ⟨es67o12n3, hs67o12n4, hp67o12n5⟩ := SlR.out hA67o11n3
                have hr67o12n8 : repL IM.nil (((([] : List Value) ++ es67o4n3) ++ ([.int .i64 p2_id, .int .i64 x40.2.1, .int .i64 (w64 (x40.2.2 + x44.2.2))] : List Value)) ++ es67o12n3) q67o12n1 := app_rep hq67o12n2 hr67o7n5 (flat_rep hp67o12n5)
                refine HoldJ.step 12 rfl (by kernel_rfl) rfl (OpJ.appW hq67o12n2 rfl rfl (Src.ofR (RC.mono hs67o12n4 (IM.le_refl _))) hp67o12n5 (by exact rfl) (List.Perm.refl _) (by exact rfl) (by exact rfl) (by exact rfl) rfl rfl (fun A67o12n6 c67o12n7 => ?_))
                refine ⟨⟨(IM.le_refl _), (SubL.p2 (SubL.p2 (SubL.nil _)))⟩, ?_⟩
                refine HoldJ.take 13 rfl (by kernel_rfl) rfl (OpP.assign rfl) ⟨(IM.le_refl _), (SubL.p2 (SubL.p2 (SubL.nil _)))⟩ ?_
                refine HoldJ.take 14 rfl (by kernel_rfl) rfl (OpP.assign rfl) ⟨(IM.le_refl _), (SubL.p2 (SubL.p2 (SubL.nil _)))⟩ ?_
                refine HoldJ.fin (by kernel_rfl) ?_
                exact ⟨_, _, _, ⟨A67o12n6, c67o12n7, (((([] : List Value) ++ es67o4n3) ++ ([.int .i64 p2_id, .int .i64 x40.2.1, .int .i64 (w64 (x40.2.2 + x44.2.2))] : List Value)) ++ es67o12n3), hr67o12n8, rfl, rfl⟩, IM.le_refl _, (SubE.cons rfl (SubE.cons rfl (SubE.nil _))), (SubL.p0 (SubL.nil _))⟩
              · have hr67o6n2 : repL IM.nil [.int .i64 p2_id, .int .i64 x40.2.1, .int .i64 (w64 (x40.2.2 + x44.2.2))] ([(p2_id, x40.2.1, w64 (x40.2.2 + x44.2.2))] : List (Int × Int × Int)) := (repL_cons (c1 := [.int .i64 p2_id, .int .i64 x40.2.1, .int .i64 (w64 (x40.2.2 + x44.2.2))]) (show Dat.rep _ _ (p2_id, x40.2.1, w64 (x40.2.2 + x44.2.2)) from ⟨[.int .i64 p2_id], [.int .i64 x40.2.1, .int .i64 (w64 (x40.2.2 + x44.2.2))], rfl, rfl, ⟨[.int .i64 x40.2.1], [.int .i64 (w64 (x40.2.2 + x44.2.2))], rfl, rfl, rfl⟩⟩) (repL_nil _))
                refine StepAt.put rfl rfl (OpJ.buildSliceC (cs := [.int .i64 p2_id, .int .i64 x40.2.1, .int .i64 (w64 (x40.2.2 + x44.2.2))]) rfl rfl (by exact rfl) (by exact rfl) (by exact rfl) (by exact rfl) (fun g67o6n1 => ?_))
                refine ⟨⟨(IM.le_refl _), (SubL.p2 (SubL.p2 (SubL.nil _)))⟩, ?_⟩
                obtain ⟨es67o4n3, hs67o4n4, hp67o4n5⟩ := SlR.out hA67o3n3
                have hr67o4n8 : repL IM.nil (([] : List Value) ++ es67o4n3) q67o4n1 := app_rep hq67o4n2 hr67o0n2 (flat_rep hp67o4n5)
                refine HoldJ.step 4 rfl (by kernel_rfl) rfl (OpJ.appW hq67o4n2 rfl rfl (Src.ofR (RC.mono hs67o4n4 (IM.le_refl _))) hp67o4n5 (by exact rfl) (List.Perm.swap _ _ _) (by exact rfl) (by exact rfl) (by exact rfl) rfl rfl (fun A67o4n6 c67o4n7 => ?_))
                refine ⟨⟨(IM.le_refl _), (SubL.p2 (SubL.p2 (SubL.nil _)))⟩, ?_⟩
                have hr67o7n5 : repL IM.nil ((([] : List Value) ++ es67o4n3) ++ ([.int .i64 p2_id, .int .i64 x40.2.1, .int .i64 (w64 (x40.2.2 + x44.2.2))] : List Value)) q67o7n1 := app_rep hq67o7n2 hr67o4n8 hr67o6n2
                refine HoldJ.step 7 rfl (by kernel_rfl) rfl (OpJ.appW hq67o7n2 rfl rfl (Src.ofRow (List.Mem.tail _ (List.Mem.head _))) hr67o6n2 (by exact rfl) (List.Perm.refl _) (by exact rfl) (by exact rfl) (by exact rfl) rfl rfl (fun A67o7n3 c67o7n4 => ?_))
                refine ⟨⟨(IM.le_refl _), (SubL.p2 (SubL.p2 (SubL.nil _)))⟩, ?_⟩
                obtain ⟨es67o12n3, hs67o12n4, hp67o12n5⟩ := SlR.out hA67o11n3
                have hr67o12n8 : repL IM.nil (((([] : List Value) ++ es67o4n3) ++ ([.int .i64 p2_id, .int .i64 x40.2.1, .int .i64 (w64 (x40.2.2 + x44.2.2))] : List Value)) ++ es67o12n3) q67o12n1 := app_rep hq67o12n2 hr67o7n5 (flat_rep hp67o12n5)
                refine HoldJ.step 12 rfl (by kernel_rfl) rfl (OpJ.appW hq67o12n2 rfl rfl (Src.ofR (RC.mono hs67o12n4 (IM.le_refl _))) hp67o12n5 (by exact rfl) (List.Perm.refl _) (by exact rfl) (by exact rfl) (by exact rfl) rfl rfl (fun A67o12n6 c67o12n7 => ?_))
                refine ⟨⟨(IM.le_refl _), (SubL.p2 (SubL.p2 (SubL.nil _)))⟩, ?_⟩
                refine HoldJ.take 13 rfl (by kernel_rfl) rfl (OpP.assign rfl) ⟨(IM.le_refl _), (SubL.p2 (SubL.p2 (SubL.nil _)))⟩ ?_
                refine HoldJ.take 14 rfl (by kernel_rfl) rfl (OpP.assign rfl) ⟨(IM.le_refl _), (SubL.p2 (SubL.p2 (SubL.nil _)))⟩ ?_
                refine HoldJ.fin (by kernel_rfl) ?_
                exact ⟨_, _, _, ⟨A67o12n6, c67o12n7, (((([] : List Value) ++ es67o4n3) ++ ([.int .i64 p2_id, .int .i64 x40.2.1, .int .i64 (w64 (x40.2.2 + x44.2.2))] : List Value)) ++ es67o12n3), hr67o12n8, rfl, rfl⟩, IM.le_refl _, (SubE.cons rfl (SubE.cons rfl (SubE.nil _))), (SubL.p0 (SubL.nil _))⟩
            · have hr67o6n2 : repL IM.nil [.int .i64 p2_id, .int .i64 x40.2.1, .int .i64 (w64 (x40.2.2 + x44.2.2))] ([(p2_id, x40.2.1, w64 (x40.2.2 + x44.2.2))] : List (Int × Int × Int)) := (repL_cons (c1 := [.int .i64 p2_id, .int .i64 x40.2.1, .int .i64 (w64 (x40.2.2 + x44.2.2))]) (show Dat.rep _ _ (p2_id, x40.2.1, w64 (x40.2.2 + x44.2.2)) from ⟨[.int .i64 p2_id], [.int .i64 x40.2.1, .int .i64 (w64 (x40.2.2 + x44.2.2))], rfl, rfl, ⟨[.int .i64 x40.2.1], [.int .i64 (w64 (x40.2.2 + x44.2.2))], rfl, rfl, rfl⟩⟩) (repL_nil _))
              refine StepAt.put rfl rfl (OpJ.buildSliceC (cs := [.int .i64 p2_id, .int .i64 x40.2.1, .int .i64 (w64 (x40.2.2 + x44.2.2))]) rfl rfl (by exact rfl) (by exact rfl) (by exact rfl) (by exact rfl) (fun g67o6n1 => ?_))
              refine ⟨⟨(IM.le_refl _), (SubL.p1 (SubL.p1 (SubL.nil _)))⟩, ?_⟩
              have hr67o0n2 : repL IM.nil [] ([] : List (Int × Int × Int)) := (repL_nil _)
              refine HoldJ.step 0 rfl (by kernel_rfl) rfl (OpJ.buildSliceC (cs := []) rfl rfl (by exact rfl) (by exact rfl) (by exact rfl) (by exact rfl) (fun g67o0n1 => ?_))
              refine ⟨⟨(IM.le_refl _), (SubL.p2 (SubL.p2 (SubL.nil _)))⟩, ?_⟩
              obtain ⟨es67o4n3, hs67o4n4, hp67o4n5⟩ := SlR.out hA67o3n3
              have hr67o4n8 : repL IM.nil (([] : List Value) ++ es67o4n3) q67o4n1 := app_rep hq67o4n2 hr67o0n2 (flat_rep hp67o4n5)
              refine HoldJ.step 4 rfl (by kernel_rfl) rfl (OpJ.appW hq67o4n2 rfl rfl (Src.ofR (RC.mono hs67o4n4 (IM.le_refl _))) hp67o4n5 (by exact rfl) (List.Perm.refl _) (by exact rfl) (by exact rfl) (by exact rfl) rfl rfl (fun A67o4n6 c67o4n7 => ?_))
              refine ⟨⟨(IM.le_refl _), (SubL.p2 (SubL.p2 (SubL.nil _)))⟩, ?_⟩
              have hr67o7n5 : repL IM.nil ((([] : List Value) ++ es67o4n3) ++ ([.int .i64 p2_id, .int .i64 x40.2.1, .int .i64 (w64 (x40.2.2 + x44.2.2))] : List Value)) q67o7n1 := app_rep hq67o7n2 hr67o4n8 hr67o6n2
              refine HoldJ.step 7 rfl (by kernel_rfl) rfl (OpJ.appW hq67o7n2 rfl rfl (Src.ofRow (List.Mem.tail _ (List.Mem.head _))) hr67o6n2 (by exact rfl) (List.Perm.refl _) (by exact rfl) (by exact rfl) (by exact rfl) rfl rfl (fun A67o7n3 c67o7n4 => ?_))
              refine ⟨⟨(IM.le_refl _), (SubL.p2 (SubL.p2 (SubL.nil _)))⟩, ?_⟩
              obtain ⟨es67o12n3, hs67o12n4, hp67o12n5⟩ := SlR.out hA67o11n3
              have hr67o12n8 : repL IM.nil (((([] : List Value) ++ es67o4n3) ++ ([.int .i64 p2_id, .int .i64 x40.2.1, .int .i64 (w64 (x40.2.2 + x44.2.2))] : List Value)) ++ es67o12n3) q67o12n1 := app_rep hq67o12n2 hr67o7n5 (flat_rep hp67o12n5)
              refine HoldJ.step 12 rfl (by kernel_rfl) rfl (OpJ.appW hq67o12n2 rfl rfl (Src.ofR (RC.mono hs67o12n4 (IM.le_refl _))) hp67o12n5 (by exact rfl) (List.Perm.refl _) (by exact rfl) (by exact rfl) (by exact rfl) rfl rfl (fun A67o12n6 c67o12n7 => ?_))
              refine ⟨⟨(IM.le_refl _), (SubL.p2 (SubL.p2 (SubL.nil _)))⟩, ?_⟩
              refine HoldJ.take 13 rfl (by kernel_rfl) rfl (OpP.assign rfl) ⟨(IM.le_refl _), (SubL.p2 (SubL.p2 (SubL.nil _)))⟩ ?_
              refine HoldJ.take 14 rfl (by kernel_rfl) rfl (OpP.assign rfl) ⟨(IM.le_refl _), (SubL.p2 (SubL.p2 (SubL.nil _)))⟩ ?_
              refine HoldJ.fin (by kernel_rfl) ?_
              exact ⟨_, _, _, ⟨A67o12n6, c67o12n7, (((([] : List Value) ++ es67o4n3) ++ ([.int .i64 p2_id, .int .i64 x40.2.1, .int .i64 (w64 (x40.2.2 + x44.2.2))] : List Value)) ++ es67o12n3), hr67o12n8, rfl, rfl⟩, IM.le_refl _, (SubE.cons rfl (SubE.cons rfl (SubE.nil _))), (SubL.p0 (SubL.nil _))⟩
          · rintro _ _ ⟨A68, c69, cs70, hr71, rfl, rfl⟩
            refine CodeJ.ret' ?_
            obtain rfl := Option.some.inj h67_q67o12n1
            exact Ret.mk0 ⟨A68, c69, cs70, rfl, hr71, rfl⟩ (ResJ.two Try.results29 rfl rfl) (IM.le_refl _) (SubL.p0 (SubL.nil _))
  · rw [if_neg hc37] at h36
    refine HoldJ.take_n 4 rfl (by kernel_rfl) rfl rfl rfl rfl (congrArg Bool.not (Bool.eq_false_iff.2 hc37)) ⟨(IM.le_refl _), (SubL.p0 (SubL.nil _))⟩ ?_
    refine HoldJ.take_n 5 rfl (by kernel_rfl) rfl rfl rfl rfl (congrArg Bool.not (Bool.eq_false_iff.2 hc37)) ⟨(IM.le_refl _), (SubL.p0 (SubL.nil _))⟩ ?_
    refine HoldJ.take 6 rfl (by kernel_rfl) rfl (OpP.pick_t rfl (congrArg Bool.not (Bool.eq_false_iff.2 hc37)) rfl) ⟨(IM.le_refl _), (SubL.p0 (SubL.nil _))⟩ ?_
    refine HoldJ.take 7 rfl (by kernel_rfl) rfl (OpP.move rfl) ⟨(IM.le_refl _), (SubL.p0 (SubL.nil _))⟩ ?_
    refine HoldJ.take_n 8 rfl (by kernel_rfl) rfl rfl rfl rfl rfl ⟨(IM.le_refl _), (SubL.p0 (SubL.nil _))⟩ ?_
    refine HoldJ.take_n 9 rfl (by kernel_rfl) rfl rfl rfl rfl rfl ⟨(IM.le_refl _), (SubL.p0 (SubL.nil _))⟩ ?_
    refine HoldJ.take_n 10 rfl (by kernel_rfl) rfl rfl rfl rfl rfl ⟨(IM.le_refl _), (SubL.p0 (SubL.nil _))⟩ ?_
    refine HoldJ.take_n 11 rfl (by kernel_rfl) rfl rfl rfl rfl rfl ⟨(IM.le_refl _), (SubL.p0 (SubL.nil _))⟩ ?_
    refine HoldJ.take_n 12 rfl (by kernel_rfl) rfl rfl rfl rfl rfl ⟨(IM.le_refl _), (SubL.p0 (SubL.nil _))⟩ ?_
    refine HoldJ.take 13 rfl (by kernel_rfl) rfl (OpP.pick_t rfl rfl rfl) ⟨(IM.le_refl _), (SubL.p0 (SubL.nil _))⟩ ?_
    refine HoldJ.take 14 rfl (by kernel_rfl) rfl (OpP.move rfl) ⟨(IM.le_refl _), (SubL.p0 (SubL.nil _))⟩ ?_
    refine HoldJ.take_n 15 rfl (by kernel_rfl) rfl rfl rfl rfl rfl ⟨(IM.le_refl _), (SubL.p0 (SubL.nil _))⟩ ?_
    refine HoldJ.take_n 16 rfl (by kernel_rfl) rfl rfl rfl rfl rfl ⟨(IM.le_refl _), (SubL.p0 (SubL.nil _))⟩ ?_
    refine HoldJ.take_n 17 rfl (by kernel_rfl) rfl rfl rfl rfl rfl ⟨(IM.le_refl _), (SubL.p0 (SubL.nil _))⟩ ?_
    refine HoldJ.take_n 18 rfl (by kernel_rfl) rfl rfl rfl rfl rfl ⟨(IM.le_refl _), (SubL.p0 (SubL.nil _))⟩ ?_
    refine HoldJ.take_n 19 rfl (by kernel_rfl) rfl rfl rfl rfl rfl ⟨(IM.le_refl _), (SubL.p0 (SubL.nil _))⟩ ?_
    refine HoldJ.take_n 20 rfl (by kernel_rfl) rfl rfl rfl rfl rfl ⟨(IM.le_refl _), (SubL.p0 (SubL.nil _))⟩ ?_
    refine HoldJ.take_n 21 rfl (by kernel_rfl) rfl rfl rfl rfl rfl ⟨(IM.le_refl _), (SubL.p0 (SubL.nil _))⟩ ?_
    refine HoldJ.take_n 22 rfl (by kernel_rfl) rfl rfl rfl rfl rfl ⟨(IM.le_refl _), (SubL.p0 (SubL.nil _))⟩ ?_
    refine HoldJ.take_n 23 rfl (by kernel_rfl) rfl rfl rfl rfl rfl ⟨(IM.le_refl _), (SubL.p0 (SubL.nil _))⟩ ?_
    refine HoldJ.take_n 24 rfl (by kernel_rfl) rfl rfl rfl rfl rfl ⟨(IM.le_refl _), (SubL.p0 (SubL.nil _))⟩ ?_
    refine HoldJ.take_n 25 rfl (by kernel_rfl) rfl rfl rfl rfl rfl ⟨(IM.le_refl _), (SubL.p0 (SubL.nil _))⟩ ?_
    refine HoldJ.take_n 26 rfl (by kernel_rfl) rfl rfl rfl rfl rfl ⟨(IM.le_refl _), (SubL.p0 (SubL.nil _))⟩ ?_
    refine HoldJ.take_n 27 rfl (by kernel_rfl) rfl rfl rfl rfl rfl ⟨(IM.le_refl _), (SubL.p0 (SubL.nil _))⟩ ?_
    refine HoldJ.take 28 rfl (by kernel_rfl) rfl (OpP.pick_t rfl rfl rfl) ⟨(IM.le_refl _), (SubL.p0 (SubL.nil _))⟩ ?_
    refine HoldJ.fin (by kernel_rfl) ?_
    refine CodeJ.cond_t rfl rfl ?_
    refine CodeJ.seq' ?_
    refine CodeJ.region ?_
    refine OpsJ.put rfl (OpJ.pure (OpP.move rfl) ?_)
    refine OpsJ.put rfl (OpJ.pure (OpP.assign rfl) ?_)
    refine OpsJ.put rfl (OpJ.pure (OpP.assign rfl) ?_)
    refine OpsJ.nil ?_
    refine CodeJ.ret' ?_
    obtain rfl := Option.some.inj h36
    exact Ret.mk0 ⟨A10, c11, (([] : List Value) ++ es7), rfl, hr12, rfl⟩ (ResJ.two Try.results29 rfl rfl) (IM.le_refl _) (SubL.p0 (SubL.nil _))
theorem winnowerref19_Drop_w (R : IM) (A0_ : Option Addr) (n0_ c0_ : Nat) (p0_l : List (Int × Int × Int)) (hA0_ : SlR R A0_ p0_l) (hn0_ : p0_l.length = n0_) (hc0_ : n0_ ≤ c0_) (p1_n : Int) (y : (List (Int × Int × Int)) × (List (Int × Int × Int))) (h : winnowerref19_Drop p0_l p1_n = some y) :
    CallJ Try.prog 30 #[.slice A0_ n0_ c0_, .int .i64 p1_n] ⟨R, []⟩ (fun v D hs' => ∃ (A0 : Option Addr) (c0 : Nat) (cs0 : List Value) (A1 : Option Addr) (c1 : Nat) (cs1 : List Value), v = .tuple #[.slice A0 y.1.length c0, .slice A1 y.2.length c1] ∧ repL IM.nil cs0 y.1 ∧ repL IM.nil cs1 y.2 ∧ hs' = [.row 27 3 A0 y.1.length c0 cs0, .row 27 3 A1 y.2.length c1 cs1]) := by
  subst hn0_
  unfold winnowerref19_Drop at h
  refine CallJ.of2 Try.func30 rfl Try.ntmps30 rfl (fun W0 => ?_)
  refine CodeJ.seq' ?_
  refine CodeJ.region ?_
  refine OpsJ.put rfl (OpJ.pure (OpP.assign rfl) ?_)
  refine OpsJ.put rfl (OpJ.pure (OpP.assign rfl) ?_)
  refine OpsJ.nil ?_
  refine CodeJ.seq' ?_
  refine CodeJ.region ?_
  refine OpsJ.put rfl (OpJ.pure (OpP.assign rfl) ?_)
  refine OpsJ.put rfl (OpJ.pure (OpP.assign rfl) ?_)
  refine OpsJ.nil ?_
  refine CodeJ.seq' ?_
  refine CodeJ.seq' ?_
  refine CodeJ.region ?_
  refine OpsJ.put rfl (OpJ.pure (OpP.assign rfl) ?_)
  refine OpsJ.nil ?_
  refine CodeJ.nilrow 27 3 ?_
  refine CodeJ.nilrow 27 3 ?_
  obtain ⟨t172, hl173, h174⟩ := bind_ok h
  clear h
  refine CodeJ.mid (fun e s => ∃ (A159 : Option Addr) (c160 : Nat) (cs161 : List Value) (A165 : Option Addr) (c166 : Nat) (cs167 : List Value) (gone_158 : List (Int × Int × Int)) (stay_164 : List (Int × Int × Int)), (gone_158, stay_164) = t172 ∧ repL IM.nil cs161 gone_158 ∧ repL IM.nil cs167 stay_164 ∧ e = [(6, .slice A159 gone_158.length c160), (7, .slice A165 stay_164.length c166)] ∧ s = ⟨R, [.row 27 3 A159 gone_158.length c160 cs161, .row 27 3 A165 stay_164.length c166 cs167]⟩) ?_ ?_
  · refine CodeJ.block ?_
    refine CodeJ.loopM hl173 (fun (gone_103, stay_109, i_115) e s => ∃ (A104 : Option Addr) (c105 : Nat) (cs106 : List Value) (A110 : Option Addr) (c111 : Nat) (cs112 : List Value), repL IM.nil cs106 gone_103 ∧ repL IM.nil cs112 stay_109 ∧ e = [(0, .slice A0_ p0_l.length c0_), (1, .int .i64 p1_n), (6, .slice A104 gone_103.length c105), (7, .slice A110 stay_109.length c111), (8, .int .i64 i_115)] ∧ s = ⟨R, [.row 27 3 A104 gone_103.length c105 cs106, .row 27 3 A110 stay_109.length c111 cs112]⟩) ⟨none, 0, ([] : List Value), none, 0, ([] : List Value), (repL_nil IM.nil), (repL_nil IM.nil), rfl, rfl⟩ (SubE.cons rfl (SubE.cons rfl (SubE.cons rfl (SubE.cons rfl (SubE.cons rfl (SubE.nil _)))))) (SubL.p1 (SubL.p0 (SubL.nil _))) ?_
    rintro ⟨gone_103, stay_109, i_115⟩ _ _ _ ⟨A104, c105, cs106, A110, c111, cs112, hr107, hr113, rfl, rfl⟩ h170 hne171
    (try dsimp only at h170); unfold winnowerref19_Drop_l0 at h170
    refine CodeJ.seq' ?_
    refine CodeJ.seq' ?_
    refine CodeJ.region ?_
    refine OpsJ.put rfl (OpJ.pure (OpP.move rfl) ?_)
    refine OpsJ.put rfl (OpJ.pure (OpP.move rfl) ?_)
    refine OpsJ.put rfl (OpJ.pure (OpP.len rfl) ?_)
    refine OpsJ.put rfl (OpJ.pure (OpP.lss rfl rfl) ?_)
    refine OpsJ.nil ?_
    by_cases hc175 : i_115 < ((p0_l.length : Nat) : Int)
    · rw [if_pos hc175] at h170
      refine CodeJ.cond_t rfl (decide_eq_true hc175) ?_
      refine CodeJ.skip ?_
      refine CodeJ.seq' ?_
      refine CodeJ.block ?_
      refine CodeJ.seq' ?_
      refine CodeJ.drawn (by kernel_rfl) (by kernel_rfl) ?_
      refine QuietJ.put rfl (OpQ.pure (OpP.move rfl) ?_)
      refine QuietJ.put rfl (OpQ.pure (OpP.move rfl) ?_)
      obtain ⟨x176, hx177, h178⟩ := bind_ok h170
      clear h170
      have hE179 : RC _ (some ((adr A0_).add (Int.toNat i_115 * Dat.size (Int × Int × Int)))) [.int .i64 x176.1, .int .i64 x176.2.1, .int .i64 x176.2.2] := SlR.getF (α := Int × Int × Int) hA0_ hx177
      refine QuietJ.put rfl (OpQ.pure (OpP.ixR hA0_ rfl hx177 (by exact rfl) (by exact rfl) rfl rfl) ?_)
      refine QuietJ.put rfl (OpQ.pure (OpP.fldAddr rfl (by exact rfl)) ?_)
      refine QuietJ.put rfl (OpQ.pure (OpP.ldR (by exact rfl) hE179 (IM.le_refl _) rfl rfl) ?_)
      refine QuietJ.put rfl (OpQ.pure (OpP.move rfl) ?_)
      refine QuietJ.put rfl (OpQ.pure (OpP.leq rfl rfl) ?_)
      refine QuietJ.put rfl (OpQ.pure (OpP.move rfl) ?_)
      by_cases hc180 : x176.2.1 ≤ p1_n
      · rw [if_pos hc180] at h178
        refine QuietJ.guard_y rfl rfl rfl rfl (decide_eq_true hc180) ?_
        refine QuietJ.put rfl (OpQ.pure (OpP.move rfl) ?_)
        refine QuietJ.guard_y rfl rfl rfl rfl (decide_eq_true hc180) ?_
        refine QuietJ.put rfl (OpQ.pure (OpP.move rfl) ?_)
        refine QuietJ.guard_y rfl rfl rfl rfl (decide_eq_true hc180) ?_
        have hE181 : RC _ (some ((adr A0_).add (Int.toNat i_115 * Dat.size (Int × Int × Int)))) [.int .i64 x176.1, .int .i64 x176.2.1, .int .i64 x176.2.2] := SlR.getF (α := Int × Int × Int) hA0_ hx177
        refine QuietJ.put rfl (OpQ.pure (OpP.ixR hA0_ rfl hx177 (by exact rfl) (by exact rfl) rfl rfl) ?_)
        refine QuietJ.guard_y rfl rfl rfl rfl (decide_eq_true hc180) ?_
        refine QuietJ.put rfl (OpQ.pure (OpP.fldAddr rfl (by exact rfl)) ?_)
        refine QuietJ.guard_y rfl rfl rfl rfl (decide_eq_true hc180) ?_
        refine QuietJ.put rfl (OpQ.pure (OpP.ldR (by exact rfl) hE181 (IM.le_refl _) rfl rfl) ?_)
        refine QuietJ.guard_y rfl rfl rfl rfl (decide_eq_true hc180) ?_
        refine QuietJ.put rfl (OpQ.pure (OpP.move rfl) ?_)
        refine QuietJ.guard_y rfl rfl rfl rfl (decide_eq_true hc180) ?_
        refine QuietJ.put rfl (OpQ.pure (OpP.move rfl) ?_)
        refine QuietJ.guard_y rfl rfl rfl rfl (decide_eq_true hc180) ?_
        refine QuietJ.put rfl (OpQ.pure (OpP.move rfl) ?_)
        refine QuietJ.guard_y rfl rfl rfl rfl (decide_eq_true hc180) ?_
        have hE182 : RC _ (some ((adr A0_).add (Int.toNat i_115 * Dat.size (Int × Int × Int)))) [.int .i64 x176.1, .int .i64 x176.2.1, .int .i64 x176.2.2] := SlR.getF (α := Int × Int × Int) hA0_ hx177
        refine QuietJ.put rfl (OpQ.pure (OpP.ixR hA0_ rfl hx177 (by exact rfl) (by exact rfl) rfl rfl) ?_)
        refine QuietJ.guard_y rfl rfl rfl rfl (decide_eq_true hc180) ?_
        refine QuietJ.put rfl (OpQ.pure (OpP.fldAddr rfl (by exact rfl)) ?_)
        refine QuietJ.guard_y rfl rfl rfl rfl (decide_eq_true hc180) ?_
        refine QuietJ.put rfl (OpQ.pure (OpP.ldR (by exact rfl) hE182 (IM.le_refl _) rfl rfl) ?_)
        refine QuietJ.guard_y rfl rfl rfl rfl (decide_eq_true hc180) ?_
        refine QuietJ.put rfl (OpQ.pure (OpP.sub64 rfl rfl) ?_)
        refine QuietJ.guard_y rfl rfl rfl rfl (decide_eq_true hc180) ?_
        refine QuietJ.put rfl (OpQ.pure (OpP.leq rfl rfl) ?_)
        refine QuietJ.put rfl (OpQ.pure (OpP.pick_t rfl (decide_eq_true hc180) rfl) ?_)
        refine QuietJ.nil ?_
        by_cases hc183 : x176.2.2 ≤ w64 (p1_n - x176.2.1)
        · rw [if_pos hc183] at h178
          refine CodeJ.cond_t rfl (decide_eq_true hc183) ?_
          refine CodeJ.region ?_
          refine OpsJ.put rfl (OpJ.pure (OpP.move rfl) ?_)
          refine OpsJ.put rfl (OpJ.pure (OpP.move rfl) ?_)
          refine OpsJ.put rfl (OpJ.pure (OpP.move rfl) ?_)
          have hE184 : RC _ (some ((adr A0_).add (Int.toNat i_115 * Dat.size (Int × Int × Int)))) [.int .i64 x176.1, .int .i64 x176.2.1, .int .i64 x176.2.2] := SlR.getF (α := Int × Int × Int) hA0_ hx177
          refine OpsJ.put rfl (OpJ.pure (OpP.ixR hA0_ rfl hx177 (by exact rfl) (by exact rfl) rfl rfl) ?_)
          refine OpsJ.put rfl (OpJ.pure (OpP.ldRN (by exact rfl) hE184 (IM.le_refl _) rfl (by exact rfl)) ?_)
          have hr186 : repL IM.nil [.int .i64 x176.1, .int .i64 x176.2.1, .int .i64 x176.2.2] ([(x176.1, x176.2.1, x176.2.2)] : List (Int × Int × Int)) := (repL_cons (c1 := [.int .i64 x176.1, .int .i64 x176.2.1, .int .i64 x176.2.2]) (show Dat.rep _ _ (x176.1, x176.2.1, x176.2.2) from ⟨[.int .i64 x176.1], [.int .i64 x176.2.1, .int .i64 x176.2.2], rfl, rfl, ⟨[.int .i64 x176.2.1], [.int .i64 x176.2.2], rfl, rfl, rfl⟩⟩) (repL_nil _))
          refine OpsJ.put rfl (OpJ.buildSliceC (cs := [.int .i64 x176.1, .int .i64 x176.2.1, .int .i64 x176.2.2]) rfl rfl (by exact rfl) (by exact rfl) (by exact rfl) (by exact rfl) (fun g185 => ?_))
          obtain ⟨q188, hq189, h190⟩ := bind_ok h178
          clear h178
          have hr193 : repL IM.nil (cs106 ++ ([.int .i64 x176.1, .int .i64 x176.2.1, .int .i64 x176.2.2] : List Value)) q188 := app_rep hq189 hr107 hr186
          refine OpsJ.put rfl (OpJ.appW hq189 rfl rfl (Src.ofRow (List.Mem.head _)) hr186 (by exact rfl) (List.Perm.swap _ _ _) (by exact rfl) (by exact rfl) (by exact rfl) rfl rfl (fun A191 c192 => ?_))
          refine OpsJ.put rfl (OpJ.pure (OpP.assign rfl) ?_)
          refine OpsJ.nil ?_
          refine CodeJ.region ?_
          refine OpsJ.put rfl (OpJ.pure (OpP.move rfl) ?_)
          refine OpsJ.put rfl (OpJ.pure (OpP.add64 rfl rfl) ?_)
          refine OpsJ.put rfl (OpJ.pure (OpP.assign rfl) ?_)
          refine OpsJ.nil ?_
          obtain rfl := Option.some.inj h190
          exact ⟨_, _, _, _, rfl, ⟨A191, c192, (cs106 ++ ([.int .i64 x176.1, .int .i64 x176.2.1, .int .i64 x176.2.2] : List Value)), A110, c111, cs112, hr193, hr113, rfl, rfl⟩, IM.le_refl _, (SubE.cons rfl (SubE.cons rfl (SubE.cons rfl (SubE.cons rfl (SubE.cons rfl (SubE.nil _)))))), (SubL.p0 (SubL.p1 (SubL.nil _)))⟩
        · rw [if_neg hc183] at h178
          refine CodeJ.cond_f rfl (decide_eq_false hc183) ?_
          refine CodeJ.region ?_
          refine OpsJ.put rfl (OpJ.pure (OpP.move rfl) ?_)
          refine OpsJ.put rfl (OpJ.pure (OpP.move rfl) ?_)
          refine OpsJ.put rfl (OpJ.pure (OpP.move rfl) ?_)
          have hE195 : RC _ (some ((adr A0_).add (Int.toNat i_115 * Dat.size (Int × Int × Int)))) [.int .i64 x176.1, .int .i64 x176.2.1, .int .i64 x176.2.2] := SlR.getF (α := Int × Int × Int) hA0_ hx177
          refine OpsJ.put rfl (OpJ.pure (OpP.ixR hA0_ rfl hx177 (by exact rfl) (by exact rfl) rfl rfl) ?_)
          refine OpsJ.put rfl (OpJ.pure (OpP.ldRN (by exact rfl) hE195 (IM.le_refl _) rfl (by exact rfl)) ?_)
          have hr197 : repL IM.nil [.int .i64 x176.1, .int .i64 x176.2.1, .int .i64 x176.2.2] ([(x176.1, x176.2.1, x176.2.2)] : List (Int × Int × Int)) := (repL_cons (c1 := [.int .i64 x176.1, .int .i64 x176.2.1, .int .i64 x176.2.2]) (show Dat.rep _ _ (x176.1, x176.2.1, x176.2.2) from ⟨[.int .i64 x176.1], [.int .i64 x176.2.1, .int .i64 x176.2.2], rfl, rfl, ⟨[.int .i64 x176.2.1], [.int .i64 x176.2.2], rfl, rfl, rfl⟩⟩) (repL_nil _))
          refine OpsJ.put rfl (OpJ.buildSliceC (cs := [.int .i64 x176.1, .int .i64 x176.2.1, .int .i64 x176.2.2]) rfl rfl (by exact rfl) (by exact rfl) (by exact rfl) (by exact rfl) (fun g196 => ?_))
          obtain ⟨q199, hq200, h201⟩ := bind_ok h178
          clear h178
          have hr204 : repL IM.nil (cs112 ++ ([.int .i64 x176.1, .int .i64 x176.2.1, .int .i64 x176.2.2] : List Value)) q199 := app_rep hq200 hr113 hr197
          refine OpsJ.put rfl (OpJ.appW hq200 rfl rfl (Src.ofRow (List.Mem.head _)) hr197 (by exact rfl) (permm2 _ _ _ _) (by exact rfl) (by exact rfl) (by exact rfl) rfl rfl (fun A202 c203 => ?_))
          refine OpsJ.put rfl (OpJ.pure (OpP.assign rfl) ?_)
          refine OpsJ.nil ?_
          refine CodeJ.region ?_
          refine OpsJ.put rfl (OpJ.pure (OpP.move rfl) ?_)
          refine OpsJ.put rfl (OpJ.pure (OpP.add64 rfl rfl) ?_)
          refine OpsJ.put rfl (OpJ.pure (OpP.assign rfl) ?_)
          refine OpsJ.nil ?_
          obtain rfl := Option.some.inj h201
          exact ⟨_, _, _, _, rfl, ⟨A104, c105, cs106, A202, c203, (cs112 ++ ([.int .i64 x176.1, .int .i64 x176.2.1, .int .i64 x176.2.2] : List Value)), hr107, hr204, rfl, rfl⟩, IM.le_refl _, (SubE.cons rfl (SubE.cons rfl (SubE.cons rfl (SubE.cons rfl (SubE.cons rfl (SubE.nil _)))))), (SubL.p2 (SubL.p0 (SubL.nil _)))⟩
      · rw [if_neg hc180] at h178
        refine QuietJ.guard_n rfl rfl rfl rfl (decide_eq_false hc180) ?_
        refine QuietJ.guard_n rfl rfl rfl rfl (decide_eq_false hc180) ?_
        refine QuietJ.guard_n rfl rfl rfl rfl (decide_eq_false hc180) ?_
        refine QuietJ.guard_n rfl rfl rfl rfl (decide_eq_false hc180) ?_
        refine QuietJ.guard_n rfl rfl rfl rfl (decide_eq_false hc180) ?_
        refine QuietJ.guard_n rfl rfl rfl rfl (decide_eq_false hc180) ?_
        refine QuietJ.guard_n rfl rfl rfl rfl (decide_eq_false hc180) ?_
        refine QuietJ.guard_n rfl rfl rfl rfl (decide_eq_false hc180) ?_
        refine QuietJ.guard_n rfl rfl rfl rfl (decide_eq_false hc180) ?_
        refine QuietJ.guard_n rfl rfl rfl rfl (decide_eq_false hc180) ?_
        refine QuietJ.guard_n rfl rfl rfl rfl (decide_eq_false hc180) ?_
        refine QuietJ.guard_n rfl rfl rfl rfl (decide_eq_false hc180) ?_
        refine QuietJ.guard_n rfl rfl rfl rfl (decide_eq_false hc180) ?_
        refine QuietJ.put rfl (OpQ.pure (OpP.pick_f rfl (decide_eq_false hc180) rfl) ?_)
        refine QuietJ.nil ?_
        refine CodeJ.cond_f rfl rfl ?_
        refine CodeJ.region ?_
        refine OpsJ.put rfl (OpJ.pure (OpP.move rfl) ?_)
        refine OpsJ.put rfl (OpJ.pure (OpP.move rfl) ?_)
        refine OpsJ.put rfl (OpJ.pure (OpP.move rfl) ?_)
        have hE206 : RC _ (some ((adr A0_).add (Int.toNat i_115 * Dat.size (Int × Int × Int)))) [.int .i64 x176.1, .int .i64 x176.2.1, .int .i64 x176.2.2] := SlR.getF (α := Int × Int × Int) hA0_ hx177
        refine OpsJ.put rfl (OpJ.pure (OpP.ixR hA0_ rfl hx177 (by exact rfl) (by exact rfl) rfl rfl) ?_)
        refine OpsJ.put rfl (OpJ.pure (OpP.ldRN (by exact rfl) hE206 (IM.le_refl _) rfl (by exact rfl)) ?_)
        have hr208 : repL IM.nil [.int .i64 x176.1, .int .i64 x176.2.1, .int .i64 x176.2.2] ([(x176.1, x176.2.1, x176.2.2)] : List (Int × Int × Int)) := (repL_cons (c1 := [.int .i64 x176.1, .int .i64 x176.2.1, .int .i64 x176.2.2]) (show Dat.rep _ _ (x176.1, x176.2.1, x176.2.2) from ⟨[.int .i64 x176.1], [.int .i64 x176.2.1, .int .i64 x176.2.2], rfl, rfl, ⟨[.int .i64 x176.2.1], [.int .i64 x176.2.2], rfl, rfl, rfl⟩⟩) (repL_nil _))
        refine OpsJ.put rfl (OpJ.buildSliceC (cs := [.int .i64 x176.1, .int .i64 x176.2.1, .int .i64 x176.2.2]) rfl rfl (by exact rfl) (by exact rfl) (by exact rfl) (by exact rfl) (fun g207 => ?_))
        obtain ⟨q210, hq211, h212⟩ := bind_ok h178
        clear h178
        have hr215 : repL IM.nil (cs112 ++ ([.int .i64 x176.1, .int .i64 x176.2.1, .int .i64 x176.2.2] : List Value)) q210 := app_rep hq211 hr113 hr208
        refine OpsJ.put rfl (OpJ.appW hq211 rfl rfl (Src.ofRow (List.Mem.head _)) hr208 (by exact rfl) (permm2 _ _ _ _) (by exact rfl) (by exact rfl) (by exact rfl) rfl rfl (fun A213 c214 => ?_))
        refine OpsJ.put rfl (OpJ.pure (OpP.assign rfl) ?_)
        refine OpsJ.nil ?_
        refine CodeJ.region ?_
        refine OpsJ.put rfl (OpJ.pure (OpP.move rfl) ?_)
        refine OpsJ.put rfl (OpJ.pure (OpP.add64 rfl rfl) ?_)
        refine OpsJ.put rfl (OpJ.pure (OpP.assign rfl) ?_)
        refine OpsJ.nil ?_
        obtain rfl := Option.some.inj h212
        exact ⟨_, _, _, _, rfl, ⟨A104, c105, cs106, A213, c214, (cs112 ++ ([.int .i64 x176.1, .int .i64 x176.2.1, .int .i64 x176.2.2] : List Value)), hr107, hr215, rfl, rfl⟩, IM.le_refl _, (SubE.cons rfl (SubE.cons rfl (SubE.cons rfl (SubE.cons rfl (SubE.cons rfl (SubE.nil _)))))), (SubL.p2 (SubL.p0 (SubL.nil _)))⟩
    · rw [if_neg hc175] at h170
      refine CodeJ.cond_f rfl (decide_eq_false hc175) ?_
      refine CodeJ.exit rfl ?_
      obtain rfl := Option.some.inj h170
      have ht217 := hne171 _ rfl
      exact ⟨_, _, _, ⟨A104, c105, cs106, A110, c111, cs112, gone_103, stay_109, ht217, hr107, hr113, rfl, rfl⟩, IM.le_refl _, (SubE.cons rfl (SubE.cons rfl (SubE.nil _))), (SubL.p0 (SubL.p0 (SubL.nil _)))⟩
  · rintro _ _ ⟨A159, c160, cs161, A165, c166, cs167, gone_158, stay_164, rfl, hr162, hr168, rfl, rfl⟩
    (try dsimp only at h174)
    refine CodeJ.seq' ?_
    refine CodeJ.region ?_
    refine OpsJ.put rfl (OpJ.pure (OpP.move rfl) ?_)
    refine OpsJ.put rfl (OpJ.pure (OpP.move rfl) ?_)
    refine OpsJ.put rfl (OpJ.pure (OpP.assign rfl) ?_)
    refine OpsJ.put rfl (OpJ.pure (OpP.assign rfl) ?_)
    refine OpsJ.nil ?_
    refine CodeJ.ret' ?_
    obtain rfl := Option.some.inj h174
    exact Ret.mk0 ⟨A159, c160, cs161, A165, c166, cs167, rfl, hr162, hr168, rfl⟩ (ResJ.two Try.results30 rfl rfl) (IM.le_refl _) (SubL.p0 (SubL.p0 (SubL.nil _)))
theorem slices_Clone_Span_w (R : IM) (A0_ : Option Addr) (n0_ c0_ : Nat) (p0 : List (Int × Int × Int)) (hA0_ : SlR R A0_ p0) (hn0_ : p0.length = n0_) (hc0_ : n0_ ≤ c0_) (y : List (Int × Int × Int)) (h : slices_Clone_Span p0 = some y) :
    CallJ Try.prog 44 #[.slice A0_ n0_ c0_] ⟨R, []⟩ (fun v D hs' => ∃ (A0 : Option Addr) (c0 : Nat) (cs0 : List Value), v = .slice A0 y.length c0 ∧ repL IM.nil cs0 y ∧ hs' = [.row 27 3 A0 y.length c0 cs0]) := by
  subst hn0_
  unfold slices_Clone_Span at h
  refine CallJ.of1 Try.func44 rfl Try.ntmps44 rfl (fun W0 => ?_)
  refine CodeJ.seq' ?_
  refine CodeJ.region ?_
  refine OpsJ.put rfl (OpJ.pure (OpP.assign rfl) ?_)
  refine OpsJ.nil ?_
  refine CodeJ.seq' ?_
  refine CodeJ.seq' ?_
  refine CodeJ.region ?_
  refine OpsJ.put rfl (OpJ.pure (OpP.move rfl) ?_)
  refine OpsJ.put rfl (OpJ.pure (OpP.eql_nil_slice rfl rfl) ?_)
  refine OpsJ.nil ?_
  cases A0_ with
  | none =>
    have hp : p0 = [] := SlR.none_nil hA0_ (by exact rfl)
    subst hp
    obtain ⟨_, rfl⟩ := app?_ok h
    refine CodeJ.cond_t rfl rfl ?_
    refine CodeJ.seq' ?_
    refine CodeJ.region ?_
    refine OpsJ.put rfl (OpJ.pure (OpP.assign rfl) ?_)
    refine OpsJ.nil ?_
    refine CodeJ.nilrow 27 3 ?_
    refine CodeJ.ret' ?_
    exact Ret.mk0 ⟨none, 0, [], rfl, repL_nil _, rfl⟩ (ResJ.one Try.results44 rfl) (IM.le_refl _) (SubL.p0 (SubL.nil _))
  | some a0 =>
    refine CodeJ.cond_f rfl rfl ?_
    refine CodeJ.skip ?_
    refine CodeJ.seq' ?_
    refine CodeJ.region ?_
    refine OpsJ.put rfl (OpJ.buildSliceC (cs := []) rfl rfl (by exact rfl) (by exact rfl) (by exact rfl) (by exact rfl) (fun g => ?_))
    refine OpsJ.put rfl (OpJ.pure (OpP.move rfl) ?_)
    obtain ⟨es, hs, hp⟩ := SlR.out hA0_
    have hr : repL IM.nil ([] ++ es) y := app_rep h (repL_nil _) (flat_rep hp)
    refine OpsJ.put rfl (OpJ.appW h rfl rfl (Src.ofR hs) hp (by exact rfl) (List.Perm.refl _) (by exact rfl) (by exact rfl) (by exact rfl) rfl rfl (fun A2 c2 => ?_))
    refine OpsJ.put rfl (OpJ.pure (OpP.assign rfl) ?_)
    refine OpsJ.nil ?_
    refine CodeJ.ret' ?_
    exact Ret.mk0 ⟨A2, c2, _, rfl, hr, rfl⟩ (ResJ.one Try.results44 rfl) (IM.le_refl _) (SubL.p0 (SubL.nil _))
theorem slices_Grow_Span_w (R : IM) (A0_ : Option Addr) (n0_ c0_ : Nat) (p0 : List (Int × Int × Int)) (hA0_ : SlR R A0_ p0) (hn0_ : p0.length = n0_) (hc0_ : n0_ ≤ c0_) (p1 : Int) (hz : A0_ = none ∧ c0_ = 0) (y : List (Int × Int × Int)) (h : slices_Grow_Span p0 p1 = some y) :
    CallJ Try.prog 51 #[.slice A0_ n0_ c0_, .int .i64 p1] ⟨R, []⟩ (fun v D hs' => ∃ (A0 : Option Addr) (c0 : Nat) (cs0 : List Value), v = .slice A0 y.length c0 ∧ repL IM.nil cs0 y ∧ hs' = [.row 27 3 A0 y.length c0 cs0]) := by
  obtain ⟨rfl, rfl⟩ := hz
  obtain rfl : n0_ = 0 := by omega
  unfold slices_Grow_Span at h
  by_cases hc1 : p1 < 0
  · rw [if_pos hc1] at h; cases h
  rw [if_neg hc1] at h
  by_cases hc2 : p1 * 24 ≤ 140737488355328
  · rw [if_pos hc2] at h
    obtain rfl := Option.some.inj h
    have hw : w64 (p1 - w64 (((0 : Nat) : Int) - ((0 : Nat) : Int))) = p1 := by unfold w64; omega
    refine CallJ.of2 Try.func51 rfl Try.ntmps51 rfl (fun W0 => ?_)
    refine CodeJ.seq' ?_
    refine CodeJ.region ?_
    refine OpsJ.put rfl (OpJ.pure (OpP.assign rfl) ?_)
    refine OpsJ.nil ?_
    refine CodeJ.seq' ?_
    refine CodeJ.seq' ?_
    refine CodeJ.region ?_
    refine OpsJ.put rfl (OpJ.pure (OpP.move rfl) ?_)
    refine OpsJ.put rfl (OpJ.pure (OpP.lss rfl rfl) ?_)
    refine OpsJ.nil ?_
    refine CodeJ.cond_f rfl (decide_eq_false hc1) ?_
    refine CodeJ.skip ?_
    refine CodeJ.seq' ?_
    refine CodeJ.seq' ?_
    refine CodeJ.region ?_
    refine OpsJ.put rfl (OpJ.pure (OpP.move rfl) ?_)
    refine OpsJ.put rfl (OpJ.pure (OpP.move rfl) ?_)
    refine OpsJ.put rfl (OpJ.pure (OpP.cap rfl) ?_)
    refine OpsJ.put rfl (OpJ.pure (OpP.move rfl) ?_)
    refine OpsJ.put rfl (OpJ.pure (OpP.len rfl) ?_)
    refine OpsJ.put rfl (OpJ.pure (OpP.sub64 rfl rfl) ?_)
    refine OpsJ.put rfl (OpJ.pure (OpP.sub64 rfl rfl) ?_)
    rw [hw]
    refine OpsJ.put rfl (OpJ.pure (OpP.assign rfl) ?_)
    refine OpsJ.nil ?_
    refine CodeJ.seq' ?_
    refine CodeJ.region ?_
    refine OpsJ.put rfl (OpJ.pure (OpP.move rfl) ?_)
    refine OpsJ.put rfl (OpJ.pure (OpP.gtr rfl rfl) ?_)
    refine OpsJ.nil ?_
    by_cases hp : p1 > 0
    · refine CodeJ.cond_t rfl (decide_eq_true hp) ?_
      refine CodeJ.region ?_
      refine OpsJ.put rfl (OpJ.pure (OpP.move rfl) ?_)
      refine OpsJ.put rfl (OpJ.pure (OpP.move rfl) ?_)
      refine OpsJ.put rfl (OpJ.pure (OpP.cap rfl) ?_)
      refine OpsJ.put rfl (OpJ.pure (OpP.slice_hi rfl rfl (by omega) (by omega)) ?_)
      refine OpsJ.put rfl (OpJ.pure (OpP.move rfl) ?_)
      refine OpsJ.put rfl (OpJ.appMake rfl rfl hp hc2 (by exact rfl) (by exact rfl) (by exact rfl) (fun g c cs hcs => ?_))
      refine OpsJ.put rfl (OpJ.pure (OpP.move rfl) ?_)
      refine OpsJ.put rfl (OpJ.pure (OpP.len rfl) ?_)
      refine OpsJ.put rfl (OpJ.pure (OpP.slice_hi rfl rfl (by omega) (by omega)) ?_)
      refine OpsJ.shrink (m := 0) (List.Perm.refl _) (by omega) (by omega) ?_
      refine OpsJ.put rfl (OpJ.pure (OpP.assign rfl) ?_)
      refine OpsJ.nil ?_
      refine CodeJ.seq' ?_
      refine CodeJ.region ?_
      refine OpsJ.put rfl (OpJ.pure (OpP.move rfl) ?_)
      refine OpsJ.put rfl (OpJ.pure (OpP.assign rfl) ?_)
      refine OpsJ.nil ?_
      refine CodeJ.ret' ?_
      exact Ret.mk0 ⟨some ⟨g, 0, none⟩, c, cs.take (0 * 3), rfl, by simp [repL], rfl⟩ (ResJ.one Try.results51 rfl) (IM.le_refl _) (SubL.p0 (SubL.nil _))
    · refine CodeJ.cond_f rfl (decide_eq_false hp) ?_
      refine CodeJ.skip ?_
      refine CodeJ.seq' ?_
      refine CodeJ.region ?_
      refine OpsJ.put rfl (OpJ.pure (OpP.move rfl) ?_)
      refine OpsJ.put rfl (OpJ.pure (OpP.assign rfl) ?_)
      refine OpsJ.nil ?_
      refine CodeJ.nilrow 27 3 ?_
      refine CodeJ.ret' ?_
      exact Ret.mk0 ⟨none, 0, [], rfl, repL_nil _, rfl⟩ (ResJ.one Try.results51 rfl) (IM.le_refl _) (SubL.p0 (SubL.nil _))
  · rw [if_neg hc2] at h; cases h
theorem plan_Pick_w (R : IM) (A0_ : Option Addr) (n0_ c0_ : Nat) (p0_l : List (Int × Int × Int)) (hA0_ : SlR R A0_ p0_l) (hn0_ : p0_l.length = n0_) (hc0_ : n0_ ≤ c0_) (y : Int × Bool) (h : plan_Pick p0_l = some y) :
    CallJ Try.prog 13 #[.slice A0_ n0_ c0_] ⟨R, []⟩ (fun v D hs' => v = .tuple #[.int .i64 y.1, .bool y.2] ∧ hs' = []) := by
  subst hn0_
  unfold plan_Pick at h
  refine CallJ.of1 Try.func13 rfl Try.ntmps13 rfl (fun W0 => ?_)
  refine CodeJ.seq' ?_
  refine CodeJ.region ?_
  refine OpsJ.put rfl (OpJ.pure (OpP.assign rfl) ?_)
  refine OpsJ.put rfl (OpJ.pure (OpP.assign rfl) ?_)
  refine OpsJ.nil ?_
  refine CodeJ.seq' ?_
  refine CodeJ.seq' ?_
  refine CodeJ.region ?_
  refine OpsJ.put rfl (OpJ.pure (OpP.move rfl) ?_)
  obtain ⟨y4, hy5, h6⟩ := bind_ok h
  clear h
  refine OpsJ.put rfl (OpJ.call0 rfl (fun R1 hle2 hin3 => plan_Is_w R1 A0_ p0_l.length c0_ p0_l (SlR.mono hA0_ (IM.le_trans (IM.le_refl _) hle2)) rfl hc0_  _ hy5) ?_)
  rintro _ _ _ ⟨rfl, rfl⟩
  refine OpsJ.put rfl (OpJ.pure (OpP.not rfl) ?_)
  refine OpsJ.nil ?_
  by_cases hc7 : y4 = true
  · rw [if_pos hc7] at h6
    refine CodeJ.cond_f rfl (congrArg Bool.not hc7) ?_
    refine CodeJ.skip ?_
    refine CodeJ.seq' ?_
    refine CodeJ.region ?_
    refine OpsJ.put rfl (OpJ.pure (OpP.assign rfl) ?_)
    refine OpsJ.put rfl (OpJ.pure (OpP.assign rfl) ?_)
    refine OpsJ.nil ?_
    refine CodeJ.seq' ?_
    refine CodeJ.seq' ?_
    refine CodeJ.region ?_
    refine OpsJ.put rfl (OpJ.pure (OpP.assign rfl) ?_)
    refine OpsJ.nil ?_
    obtain ⟨t48, hl49, h50⟩ := bind_ok h6
    clear h6
    refine CodeJ.mid (fun e s => ∃ (best_44 : Int) (fewest_45 : Int), (best_44, fewest_45) = t48 ∧ e = [(4, .int .i64 best_44), (5, .int .i64 fewest_45)] ∧ s = ⟨R, []⟩) ?_ ?_
    · refine CodeJ.block ?_
      refine CodeJ.loopM hl49 (fun (best_31, fewest_32, i_33) e s => e = [(0, .slice A0_ p0_l.length c0_), (4, .int .i64 best_31), (5, .int .i64 fewest_32), (6, .int .i64 i_33)] ∧ s = ⟨R, []⟩) ⟨rfl, rfl⟩ (SubE.cons rfl (SubE.cons rfl (SubE.cons rfl (SubE.cons rfl (SubE.nil _))))) (SubL.nil _) ?_
      rintro ⟨best_31, fewest_32, i_33⟩ _ _ _ ⟨rfl, rfl⟩ h46 hne47
      (try dsimp only at h46); unfold plan_Pick_l0 at h46
      refine CodeJ.seq' ?_
      refine CodeJ.seq' ?_
      refine CodeJ.region ?_
      refine OpsJ.put rfl (OpJ.pure (OpP.move rfl) ?_)
      refine OpsJ.put rfl (OpJ.pure (OpP.move rfl) ?_)
      refine OpsJ.put rfl (OpJ.pure (OpP.len rfl) ?_)
      refine OpsJ.put rfl (OpJ.pure (OpP.lss rfl rfl) ?_)
      refine OpsJ.nil ?_
      by_cases hc51 : i_33 < ((p0_l.length : Nat) : Int)
      · rw [if_pos hc51] at h46
        refine CodeJ.cond_t rfl (decide_eq_true hc51) ?_
        refine CodeJ.skip ?_
        refine CodeJ.seq' ?_
        refine CodeJ.block ?_
        refine CodeJ.seq' ?_
        refine CodeJ.drawn (by kernel_rfl) (by kernel_rfl) ?_
        refine QuietJ.put rfl (OpQ.pure (OpP.move rfl) ?_)
        refine QuietJ.put rfl (OpQ.pure (OpP.move rfl) ?_)
        refine QuietJ.put rfl (OpQ.pure (OpP.sub64 rfl rfl) ?_)
        obtain ⟨x52, hx53, h54⟩ := bind_ok h46
        clear h46
        have hE55 : RC _ (some ((adr A0_).add (Int.toNat (w64 (i_33 - 1)) * Dat.size (Int × Int × Int)))) [.int .i64 x52.1, .int .i64 x52.2.1, .int .i64 x52.2.2] := SlR.getF (α := Int × Int × Int) hA0_ hx53
        refine QuietJ.put rfl (OpQ.pure (OpP.ixR hA0_ rfl hx53 (by exact rfl) (by exact rfl) rfl rfl) ?_)
        refine QuietJ.put rfl (OpQ.pure (OpP.fldAddr rfl (by exact rfl)) ?_)
        refine QuietJ.put rfl (OpQ.pure (OpP.ldR (by exact rfl) hE55 (IM.le_refl _) rfl rfl) ?_)
        refine QuietJ.put rfl (OpQ.pure (OpP.move rfl) ?_)
        refine QuietJ.put rfl (OpQ.pure (OpP.move rfl) ?_)
        obtain ⟨x56, hx57, h58⟩ := bind_ok h54
        clear h54
        have hE59 : RC _ (some ((adr A0_).add (Int.toNat i_33 * Dat.size (Int × Int × Int)))) [.int .i64 x56.1, .int .i64 x56.2.1, .int .i64 x56.2.2] := SlR.getF (α := Int × Int × Int) hA0_ hx57
        refine QuietJ.put rfl (OpQ.pure (OpP.ixR hA0_ rfl hx57 (by exact rfl) (by exact rfl) rfl rfl) ?_)
        refine QuietJ.put rfl (OpQ.pure (OpP.fldAddr rfl (by exact rfl)) ?_)
        refine QuietJ.put rfl (OpQ.pure (OpP.ldR (by exact rfl) hE59 (IM.le_refl _) rfl rfl) ?_)
        refine QuietJ.put rfl (OpQ.pure (OpP.add64 rfl rfl) ?_)
        refine QuietJ.put rfl (OpQ.pure (OpP.assign rfl) ?_)
        refine QuietJ.nil ?_
        refine CodeJ.seq' ?_
        refine CodeJ.region ?_
        refine OpsJ.put rfl (OpJ.pure (OpP.move rfl) ?_)
        refine OpsJ.put rfl (OpJ.pure (OpP.move rfl) ?_)
        refine OpsJ.put rfl (OpJ.pure (OpP.lss rfl rfl) ?_)
        refine OpsJ.nil ?_
        by_cases hc60 : w64 (x52.2.2 + x56.2.2) < fewest_32
        · rw [if_pos hc60] at h58
          refine CodeJ.cond_t rfl (decide_eq_true hc60) ?_
          refine CodeJ.region ?_
          refine OpsJ.put rfl (OpJ.pure (OpP.move rfl) ?_)
          refine OpsJ.put rfl (OpJ.pure (OpP.sub64 rfl rfl) ?_)
          refine OpsJ.put rfl (OpJ.pure (OpP.move rfl) ?_)
          refine OpsJ.put rfl (OpJ.pure (OpP.assign rfl) ?_)
          refine OpsJ.put rfl (OpJ.pure (OpP.assign rfl) ?_)
          refine OpsJ.nil ?_
          refine CodeJ.region ?_
          refine OpsJ.put rfl (OpJ.pure (OpP.move rfl) ?_)
          refine OpsJ.put rfl (OpJ.pure (OpP.add64 rfl rfl) ?_)
          refine OpsJ.put rfl (OpJ.pure (OpP.assign rfl) ?_)
          refine OpsJ.nil ?_
          obtain rfl := Option.some.inj h58
          exact ⟨_, _, _, _, rfl, ⟨rfl, rfl⟩, IM.le_refl _, (SubE.cons rfl (SubE.cons rfl (SubE.cons rfl (SubE.cons rfl (SubE.nil _))))), (SubL.nil _)⟩
        · rw [if_neg hc60] at h58
          refine CodeJ.cond_f rfl (decide_eq_false hc60) ?_
          refine CodeJ.skip ?_
          refine CodeJ.region ?_
          refine OpsJ.put rfl (OpJ.pure (OpP.move rfl) ?_)
          refine OpsJ.put rfl (OpJ.pure (OpP.add64 rfl rfl) ?_)
          refine OpsJ.put rfl (OpJ.pure (OpP.assign rfl) ?_)
          refine OpsJ.nil ?_
          obtain rfl := Option.some.inj h58
          exact ⟨_, _, _, _, rfl, ⟨rfl, rfl⟩, IM.le_refl _, (SubE.cons rfl (SubE.cons rfl (SubE.cons rfl (SubE.cons rfl (SubE.nil _))))), (SubL.nil _)⟩
      · rw [if_neg hc51] at h46
        refine CodeJ.cond_f rfl (decide_eq_false hc51) ?_
        refine CodeJ.exit rfl ?_
        obtain rfl := Option.some.inj h46
        have ht61 := hne47 _ rfl
        exact ⟨_, _, _, ⟨best_31, fewest_32, ht61, rfl, rfl⟩, IM.le_refl _, (SubE.cons rfl (SubE.cons rfl (SubE.nil _))), (SubL.nil _)⟩
    · rintro _ _ ⟨best_44, fewest_45, rfl, rfl, rfl⟩
      (try dsimp only at h50)
      refine CodeJ.seq' ?_
      refine CodeJ.region ?_
      refine OpsJ.put rfl (OpJ.pure (OpP.move rfl) ?_)
      refine OpsJ.put rfl (OpJ.pure (OpP.move rfl) ?_)
      refine OpsJ.put rfl (OpJ.pure (OpP.leq rfl rfl) ?_)
      refine OpsJ.put rfl (OpJ.pure (OpP.assign rfl) ?_)
      refine OpsJ.put rfl (OpJ.pure (OpP.assign rfl) ?_)
      refine OpsJ.nil ?_
      refine CodeJ.ret' ?_
      obtain rfl := Option.some.inj h50
      exact Ret.mk0 ⟨rfl, rfl⟩ (ResJ.two Try.results13 rfl rfl) (IM.le_refl _) (SubL.nil _)
  · rw [if_neg hc7] at h6
    refine CodeJ.cond_t rfl (congrArg Bool.not (Bool.eq_false_iff.2 hc7)) ?_
    refine CodeJ.seq' ?_
    refine CodeJ.region ?_
    refine OpsJ.put rfl (OpJ.pure (OpP.assign rfl) ?_)
    refine OpsJ.put rfl (OpJ.pure (OpP.assign rfl) ?_)
    refine OpsJ.nil ?_
    refine CodeJ.ret' ?_
    obtain rfl := Option.some.inj h6
    exact Ret.mk0 ⟨rfl, rfl⟩ (ResJ.two Try.results13 rfl rfl) (IM.le_refl _) (SubL.nil _)
theorem winnowerlaw19_known_w (R : IM)  (y : Bool) (h : winnowerlaw19_known = some y) :
    CallJ Try.prog 14 #[] ⟨R, []⟩ (fun v D hs' => v = .bool y ∧ hs' = []) := by
  unfold winnowerlaw19_known at h
  refine CallJ.of0 Try.func14 rfl Try.ntmps14 (fun W0 => ?_)
  refine CodeJ.seq' ?_
  refine CodeJ.region ?_
  refine OpsJ.put rfl (OpJ.pure (OpP.assign rfl) ?_)
  refine OpsJ.nil ?_
  refine CodeJ.seq' ?_
  refine CodeJ.region ?_
  refine OpsJ.put rfl (OpJ.pure (OpP.buildC (cs := [.int .i64 1, .int .i64 0, .int .i64 5]) rfl (by exact rfl) (by exact rfl)) ?_)
  refine OpsJ.put rfl (OpJ.pure (OpP.buildC (cs := [.int .i64 2, .int .i64 5, .int .i64 3]) rfl (by exact rfl) (by exact rfl)) ?_)
  refine OpsJ.put rfl (OpJ.pure (OpP.buildC (cs := [.int .i64 3, .int .i64 8, .int .i64 4]) rfl (by exact rfl) (by exact rfl)) ?_)
  have hr2 : repL IM.nil [.int .i64 1, .int .i64 0, .int .i64 5, .int .i64 2, .int .i64 5, .int .i64 3, .int .i64 3, .int .i64 8, .int .i64 4] ([(1, 0, 5), (2, 5, 3), (3, 8, 4)] : List (Int × Int × Int)) := (repL_cons (c1 := [.int .i64 1, .int .i64 0, .int .i64 5]) (show Dat.rep _ _ (1, 0, 5) from ⟨[.int .i64 1], [.int .i64 0, .int .i64 5], rfl, rfl, ⟨[.int .i64 0], [.int .i64 5], rfl, rfl, rfl⟩⟩) (repL_cons (c1 := [.int .i64 2, .int .i64 5, .int .i64 3]) (show Dat.rep _ _ (2, 5, 3) from ⟨[.int .i64 2], [.int .i64 5, .int .i64 3], rfl, rfl, ⟨[.int .i64 5], [.int .i64 3], rfl, rfl, rfl⟩⟩) (repL_cons (c1 := [.int .i64 3, .int .i64 8, .int .i64 4]) (show Dat.rep _ _ (3, 8, 4) from ⟨[.int .i64 3], [.int .i64 8, .int .i64 4], rfl, rfl, ⟨[.int .i64 8], [.int .i64 4], rfl, rfl, rfl⟩⟩) (repL_nil _))))
  refine OpsJ.put rfl (OpJ.buildSliceC (cs := [.int .i64 1, .int .i64 0, .int .i64 5, .int .i64 2, .int .i64 5, .int .i64 3, .int .i64 3, .int .i64 8, .int .i64 4]) rfl rfl (by exact rfl) (by exact rfl) (by exact rfl) (by exact rfl) (fun g1 => ?_))
  refine OpsJ.rowle (List.Perm.refl _) (fun hcap4 _ => ?_)
  obtain ⟨y8, hy9, h10⟩ := bind_ok h
  clear h
  refine OpsJ.put rfl (OpJ.call0 rfl (fun R5 hle6 hin7 => plan_Pick_w R5 (some ⟨g1, 0, none⟩) 3 3 ([(1, 0, 5), (2, 5, 3), (3, 8, 4)] : List (Int × Int × Int)) (SlR.of_row (inRow hin7 (List.Mem.head _)) hr2 (IM.le_nil _)) rfl hcap4  _ hy9) ?_)
  rintro _ _ _ ⟨rfl, rfl⟩
  refine OpsJ.put rfl (OpJ.pure (OpP.move rfl) ?_)
  refine OpsJ.put rfl (OpJ.pure (OpP.extract rfl rfl) ?_)
  refine OpsJ.put rfl (OpJ.pure (OpP.extract rfl rfl) ?_)
  refine OpsJ.put rfl (OpJ.pure (OpP.assign rfl) ?_)
  refine OpsJ.put rfl (OpJ.pure (OpP.assign rfl) ?_)
  refine OpsJ.nil ?_
  refine CodeJ.seq' ?_
  refine CodeJ.region ?_
  refine OpsJ.put rfl (OpJ.pure (OpP.move rfl) ?_)
  refine OpsJ.put rfl (OpJ.pure (OpP.move rfl) ?_)
  by_cases hc11 : y8.2 = true
  · rw [if_pos hc11] at h10
    refine OpsJ.guard_y rfl rfl rfl rfl hc11 ?_
    refine OpsJ.put rfl (OpJ.pure (OpP.move rfl) ?_)
    refine OpsJ.guard_y rfl rfl rfl rfl hc11 ?_
    refine OpsJ.put rfl (OpJ.pure (OpP.eql rfl rfl) ?_)
    refine OpsJ.put rfl (OpJ.pure (OpP.pick_t rfl hc11 rfl) ?_)
    refine OpsJ.put rfl (OpJ.pure (OpP.assign rfl) ?_)
    refine OpsJ.nil ?_
    refine CodeJ.ret' ?_
    obtain rfl := Option.some.inj h10
    exact Ret.mk0 ⟨rfl, rfl⟩ (ResJ.one Try.results14 rfl) (IM.le_refl _) (SubL.nil _)
  · rw [if_neg hc11] at h10
    refine OpsJ.guard_n rfl rfl rfl rfl (Bool.eq_false_iff.2 hc11) ?_
    refine OpsJ.guard_n rfl rfl rfl rfl (Bool.eq_false_iff.2 hc11) ?_
    refine OpsJ.put rfl (OpJ.pure (OpP.pick_f rfl (Bool.eq_false_iff.2 hc11) rfl) ?_)
    refine OpsJ.put rfl (OpJ.pure (OpP.assign rfl) ?_)
    refine OpsJ.nil ?_
    refine CodeJ.ret' ?_
    obtain rfl := Option.some.inj h10
    exact Ret.mk0 ⟨rfl, rfl⟩ (ResJ.one Try.results14 rfl) (IM.le_refl _) (SubL.nil _)
theorem slices_Concat_Span_w (R : IM) (A0_ : Option Addr) (n0_ c0_ : Nat) (p0_slices : List (List (Int × Int × Int))) (hA0_ : SlR R A0_ p0_slices) (hn0_ : p0_slices.length = n0_) (hc0_ : n0_ ≤ c0_) (y : (List (Int × Int × Int))) (h : slices_Concat_Span p0_slices = some y) :
    CallJ Try.prog 45 #[.slice A0_ n0_ c0_] ⟨R, []⟩ (fun v D hs' => ∃ (A0 : Option Addr) (c0 : Nat) (cs0 : List Value), v = .slice A0 y.length c0 ∧ repL IM.nil cs0 y ∧ hs' = [.row 27 3 A0 y.length c0 cs0]) := by
  subst hn0_
  unfold slices_Concat_Span at h
  refine CallJ.of1 Try.func45 rfl Try.ntmps45 rfl (fun W0 => ?_)
  refine CodeJ.seq' ?_
  refine CodeJ.region ?_
  refine OpsJ.put rfl (OpJ.pure (OpP.assign rfl) ?_)
  refine OpsJ.nil ?_
  refine CodeJ.seq' ?_
  refine CodeJ.region ?_
  refine OpsJ.put rfl (OpJ.pure (OpP.assign rfl) ?_)
  refine OpsJ.nil ?_
  refine CodeJ.seq' ?_
  refine CodeJ.seq' ?_
  refine CodeJ.region ?_
  refine OpsJ.put rfl (OpJ.pure (OpP.move rfl) ?_)
  refine OpsJ.put rfl (OpJ.pure (OpP.len rfl) ?_)
  refine OpsJ.put rfl (OpJ.pure (OpP.move rfl) ?_)
  refine OpsJ.nil ?_
  obtain ⟨t38, hl39, h40⟩ := bind_ok h
  clear h
  refine CodeJ.mid (fun e s => ∃ (size_35 : Int), size_35 = t38 ∧ e = [(0, .slice A0_ p0_slices.length c0_), (3, .int .i64 size_35)] ∧ s = ⟨R, []⟩) ?_ ?_
  · refine CodeJ.block ?_
    refine CodeJ.loopM hl39 (fun (size_23, v24) e s => e = [(0, .slice A0_ p0_slices.length c0_), (3, .int .i64 size_23), (9, .slice A0_ p0_slices.length c0_), (10, .int .i64 ((p0_slices.length : Nat) : Int)), (11, .int .i64 v24)] ∧ s = ⟨R, []⟩) ⟨rfl, rfl⟩ (SubE.cons rfl (SubE.cons rfl (SubE.cons rfl (SubE.cons rfl (SubE.cons rfl (SubE.nil _)))))) (SubL.nil _) ?_
    rintro ⟨size_23, v24⟩ _ _ _ ⟨rfl, rfl⟩ h36 hne37
    (try dsimp only at h36); unfold slices_Concat_Span_l0 at h36
    refine CodeJ.seq' ?_
    refine CodeJ.region ?_
    refine OpsJ.put rfl (OpJ.pure (OpP.lss rfl rfl) ?_)
    refine OpsJ.nil ?_
    refine CodeJ.seq' ?_
    by_cases hc41 : v24 < ((p0_slices.length : Nat) : Int)
    · rw [if_pos hc41] at h36
      refine CodeJ.cond_t rfl (decide_eq_true hc41) ?_
      refine CodeJ.skip ?_
      refine CodeJ.seq' ?_
      refine CodeJ.block ?_
      refine CodeJ.seq' ?_
      refine CodeJ.region ?_
      obtain ⟨x42, hx43, h44⟩ := bind_ok h36
      clear h36
      obtain ⟨_, ⟨A46, c47, rfl, hc48, hA49⟩, hE45⟩ := SlR.getN hA0_ hx43
      refine OpsJ.put rfl (OpJ.pure (OpP.ixR hA0_ rfl hx43 (by exact rfl) (by exact rfl) rfl rfl) ?_)
      refine OpsJ.put rfl (OpJ.pure (OpP.ldR0 (by exact rfl) hE45 (IM.le_refl _) rfl rfl) ?_)
      refine OpsJ.put rfl (OpJ.pure (OpP.assign rfl) ?_)
      refine OpsJ.nil ?_
      refine CodeJ.seq' ?_
      refine CodeJ.region ?_
      refine OpsJ.put rfl (OpJ.pure (OpP.move rfl) ?_)
      refine OpsJ.put rfl (OpJ.pure (OpP.move rfl) ?_)
      refine OpsJ.put rfl (OpJ.pure (OpP.len rfl) ?_)
      refine OpsJ.put rfl (OpJ.pure (OpP.add64 rfl rfl) ?_)
      refine OpsJ.put rfl (OpJ.pure (OpP.assign rfl) ?_)
      refine OpsJ.nil ?_
      refine CodeJ.seq' ?_
      refine CodeJ.region ?_
      refine OpsJ.put rfl (OpJ.pure (OpP.move rfl) ?_)
      refine OpsJ.put rfl (OpJ.pure (OpP.lss rfl rfl) ?_)
      refine OpsJ.nil ?_
      by_cases hc50 : w64 (size_23 + ((x42.length : Nat) : Int)) < 0
      · rw [if_pos hc50] at h44
        refine CodeJ.cond_t rfl (decide_eq_true hc50) ?_
        cases h44
      · rw [if_neg hc50] at h44
        refine CodeJ.cond_f rfl (decide_eq_false hc50) ?_
        refine CodeJ.skip ?_
        refine CodeJ.region ?_
        refine OpsJ.put rfl (OpJ.pure (OpP.add64 rfl rfl) ?_)
        refine OpsJ.put rfl (OpJ.pure (OpP.move rfl) ?_)
        refine OpsJ.nil ?_
        obtain rfl := Option.some.inj h44
        exact ⟨_, _, _, _, rfl, ⟨rfl, rfl⟩, IM.le_refl _, (SubE.cons rfl (SubE.cons rfl (SubE.cons rfl (SubE.cons rfl (SubE.cons rfl (SubE.nil _)))))), (SubL.nil _)⟩
    · rw [if_neg hc41] at h36
      refine CodeJ.cond_f rfl (decide_eq_false hc41) ?_
      refine CodeJ.exit rfl ?_
      obtain rfl := Option.some.inj h36
      have ht51 := hne37 _ rfl
      exact ⟨_, _, _, ⟨size_23, ht51, rfl, rfl⟩, IM.le_refl _, (SubE.cons rfl (SubE.cons rfl (SubE.nil _))), (SubL.nil _)⟩
  · rintro _ _ ⟨size_35, rfl, rfl, rfl⟩
    (try dsimp only at h40)
    refine CodeJ.seq' ?_
    refine CodeJ.region ?_
    refine OpsJ.put rfl (OpJ.pure (OpP.move rfl) ?_)
    obtain ⟨y55, hy56, h57⟩ := bind_ok h40
    clear h40
    refine OpsJ.put rfl (OpJ.call1 rfl (fun R52 hle53 hin54 => slices_Grow_Span_w R52 none 0 0 ([] : List (Int × Int × Int)) (SlR.nil _ _) rfl (Nat.le_refl _) size_35 ⟨rfl, rfl⟩ _ hy56) ?_)
    rintro _ _ _ ⟨A58, c59, cs60, rfl, hr61, rfl⟩
    refine OpsJ.put rfl (OpJ.pure (OpP.assign rfl) ?_)
    refine OpsJ.nil ?_
    refine CodeJ.seq' ?_
    refine CodeJ.seq' ?_
    refine CodeJ.region ?_
    refine OpsJ.put rfl (OpJ.pure (OpP.move rfl) ?_)
    refine OpsJ.put rfl (OpJ.pure (OpP.len rfl) ?_)
    refine OpsJ.put rfl (OpJ.pure (OpP.move rfl) ?_)
    refine OpsJ.nil ?_
    obtain ⟨t142, hl143, h144⟩ := bind_ok h57
    clear h57
    refine CodeJ.mid (fun e s => ∃ (A135 : Option Addr) (c136 : Nat) (cs137 : List Value) (newslice_134 : List (Int × Int × Int)), newslice_134 = t142 ∧ repL IM.nil cs137 newslice_134 ∧ e = [(6, .slice A135 newslice_134.length c136)] ∧ s = ⟨R, [.row 27 3 A135 newslice_134.length c136 cs137]⟩) ?_ ?_
    · refine CodeJ.block ?_
      refine CodeJ.loopM hl143 (fun (newslice_108, v114) e s => ∃ (A109 : Option Addr) (c110 : Nat) (cs111 : List Value), repL IM.nil cs111 newslice_108 ∧ e = [(6, .slice A109 newslice_108.length c110), (25, .slice A0_ p0_slices.length c0_), (26, .int .i64 ((p0_slices.length : Nat) : Int)), (27, .int .i64 v114)] ∧ s = ⟨R, [.row 27 3 A109 newslice_108.length c110 cs111]⟩) ⟨A58, c59, cs60, hr61, rfl, rfl⟩ (SubE.cons rfl (SubE.cons rfl (SubE.cons rfl (SubE.cons rfl (SubE.nil _))))) (SubL.p0 (SubL.nil _)) ?_
      rintro ⟨newslice_108, v114⟩ _ _ _ ⟨A109, c110, cs111, hr112, rfl, rfl⟩ h140 hne141
      (try dsimp only at h140); unfold slices_Concat_Span_l1 at h140
      refine CodeJ.seq' ?_
      refine CodeJ.region ?_
      refine OpsJ.put rfl (OpJ.pure (OpP.lss rfl rfl) ?_)
      refine OpsJ.nil ?_
      refine CodeJ.seq' ?_
      by_cases hc145 : v114 < ((p0_slices.length : Nat) : Int)
      · rw [if_pos hc145] at h140
        refine CodeJ.cond_t rfl (decide_eq_true hc145) ?_
        refine CodeJ.skip ?_
        refine CodeJ.seq' ?_
        refine CodeJ.block ?_
        refine CodeJ.seq' ?_
        refine CodeJ.region ?_
        obtain ⟨x146, hx147, h148⟩ := bind_ok h140
        clear h140
        obtain ⟨_, ⟨A150, c151, rfl, hc152, hA153⟩, hE149⟩ := SlR.getN hA0_ hx147
        refine OpsJ.put rfl (OpJ.pure (OpP.ixR hA0_ rfl hx147 (by exact rfl) (by exact rfl) rfl rfl) ?_)
        refine OpsJ.put rfl (OpJ.pure (OpP.ldR0 (by exact rfl) hE149 (IM.le_refl _) rfl rfl) ?_)
        refine OpsJ.put rfl (OpJ.pure (OpP.assign rfl) ?_)
        refine OpsJ.nil ?_
        refine CodeJ.region ?_
        refine OpsJ.put rfl (OpJ.pure (OpP.move rfl) ?_)
        refine OpsJ.put rfl (OpJ.pure (OpP.move rfl) ?_)
        obtain ⟨q154, hq155, h156⟩ := bind_ok h148
        clear h148
        obtain ⟨es157, hs158, hp159⟩ := SlR.out hA153
        have hr162 : repL IM.nil (cs111 ++ es157) q154 := app_rep hq155 hr112 (flat_rep hp159)
        refine OpsJ.put rfl (OpJ.appW hq155 rfl rfl (Src.ofR (RC.mono hs158 (IM.le_refl _))) hp159 (by exact rfl) (List.Perm.refl _) (by exact rfl) (by exact rfl) (by exact rfl) rfl rfl (fun A160 c161 => ?_))
        refine OpsJ.put rfl (OpJ.pure (OpP.assign rfl) ?_)
        refine OpsJ.nil ?_
        refine CodeJ.region ?_
        refine OpsJ.put rfl (OpJ.pure (OpP.add64 rfl rfl) ?_)
        refine OpsJ.put rfl (OpJ.pure (OpP.move rfl) ?_)
        refine OpsJ.nil ?_
        obtain rfl := Option.some.inj h156
        exact ⟨_, _, _, _, rfl, ⟨A160, c161, (cs111 ++ es157), hr162, rfl, rfl⟩, IM.le_refl _, (SubE.cons rfl (SubE.cons rfl (SubE.cons rfl (SubE.cons rfl (SubE.nil _))))), (SubL.p0 (SubL.nil _))⟩
      · rw [if_neg hc145] at h140
        refine CodeJ.cond_f rfl (decide_eq_false hc145) ?_
        refine CodeJ.exit rfl ?_
        obtain rfl := Option.some.inj h140
        have ht164 := hne141 _ rfl
        exact ⟨_, _, _, ⟨A109, c110, cs111, newslice_108, ht164, hr112, rfl, rfl⟩, IM.le_refl _, (SubE.cons rfl (SubE.nil _)), (SubL.p0 (SubL.nil _))⟩
    · rintro _ _ ⟨A135, c136, cs137, newslice_134, rfl, hr138, rfl, rfl⟩
      (try dsimp only at h144)
      refine CodeJ.seq' ?_
      refine CodeJ.region ?_
      refine OpsJ.put rfl (OpJ.pure (OpP.move rfl) ?_)
      refine OpsJ.put rfl (OpJ.pure (OpP.assign rfl) ?_)
      refine OpsJ.nil ?_
      refine CodeJ.ret' ?_
      obtain rfl := Option.some.inj h144
      exact Ret.mk0 ⟨A135, c136, cs137, rfl, hr138, rfl⟩ (ResJ.one Try.results45 rfl) (IM.le_refl _) (SubL.p0 (SubL.nil _))
theorem winnowerlaw19_PlanLeast_w (R : IM) (A0_ : Option Addr) (n0_ c0_ : Nat) (p0_l : List (Int × Int × Int)) (hA0_ : SlR R A0_ p0_l) (hn0_ : p0_l.length = n0_) (hc0_ : n0_ ≤ c0_) (y : Bool) (h : winnowerlaw19_PlanLeast p0_l = some y) :
    CallJ Try.prog 3 #[.slice A0_ n0_ c0_] ⟨R, []⟩ (fun v D hs' => v = .bool y ∧ hs' = []) := by
  subst hn0_
  unfold winnowerlaw19_PlanLeast at h
  refine CallJ.of1 Try.func3 rfl Try.ntmps3 rfl (fun W0 => ?_)
  refine CodeJ.seq' ?_
  refine CodeJ.region ?_
  refine OpsJ.put rfl (OpJ.pure (OpP.assign rfl) ?_)
  refine OpsJ.nil ?_
  refine CodeJ.seq' ?_
  refine CodeJ.seq' ?_
  refine CodeJ.region ?_
  refine OpsJ.put rfl (OpJ.pure (OpP.move rfl) ?_)
  refine OpsJ.put rfl (OpJ.pure (OpP.len rfl) ?_)
  refine OpsJ.put rfl (OpJ.pure (OpP.gtr rfl rfl) ?_)
  refine OpsJ.put rfl (OpJ.pure (OpP.move rfl) ?_)
  by_cases hc1 : ((p0_l.length : Nat) : Int) > 100
  · rw [if_pos hc1] at h
    refine OpsJ.guard_n rfl rfl rfl rfl (decide_eq_true hc1) ?_
    refine OpsJ.guard_n rfl rfl rfl rfl (decide_eq_true hc1) ?_
    refine OpsJ.guard_n rfl rfl rfl rfl (decide_eq_true hc1) ?_
    refine OpsJ.put rfl (OpJ.pure (OpP.pick_t rfl (decide_eq_true hc1) rfl) ?_)
    refine OpsJ.nil ?_
    refine CodeJ.cond_t rfl rfl ?_
    refine CodeJ.seq' ?_
    refine CodeJ.region ?_
    refine OpsJ.put rfl (OpJ.pure (OpP.assign rfl) ?_)
    refine OpsJ.nil ?_
    refine CodeJ.ret' ?_
    obtain rfl := Option.some.inj h
    exact Ret.mk0 ⟨rfl, rfl⟩ (ResJ.one Try.results3 rfl) (IM.le_refl _) (SubL.nil _)
  · rw [if_neg hc1] at h
    refine OpsJ.guard_y rfl rfl rfl rfl (decide_eq_false hc1) ?_
    refine OpsJ.put rfl (OpJ.pure (OpP.move rfl) ?_)
    refine OpsJ.guard_y rfl rfl rfl rfl (decide_eq_false hc1) ?_
    obtain ⟨y5, hy6, h7⟩ := bind_ok h
    clear h
    refine OpsJ.put rfl (OpJ.call0 rfl (fun R2 hle3 hin4 => winnowerref19_Is_w R2 A0_ p0_l.length c0_ p0_l (SlR.mono hA0_ (IM.le_trans (IM.le_refl _) hle3)) rfl hc0_  _ hy6) ?_)
    rintro _ _ _ ⟨rfl, rfl⟩
    refine OpsJ.guard_y rfl rfl rfl rfl (decide_eq_false hc1) ?_
    refine OpsJ.put rfl (OpJ.pure (OpP.not rfl) ?_)
    refine OpsJ.put rfl (OpJ.pure (OpP.pick_f rfl (decide_eq_false hc1) rfl) ?_)
    refine OpsJ.nil ?_
    by_cases hc8 : y5 = true
    · rw [if_pos hc8] at h7
      refine CodeJ.cond_f rfl (congrArg Bool.not hc8) ?_
      refine CodeJ.skip ?_
      refine CodeJ.seq' ?_
      refine CodeJ.region ?_
      refine OpsJ.put rfl (OpJ.pure (OpP.move rfl) ?_)
      obtain ⟨y12, hy13, h14⟩ := bind_ok h7
      clear h7
      refine OpsJ.put rfl (OpJ.call0 rfl (fun R9 hle10 hin11 => plan_Pick_w R9 A0_ p0_l.length c0_ p0_l (SlR.mono hA0_ (IM.le_trans (IM.le_refl _) hle10)) rfl hc0_  _ hy13) ?_)
      rintro _ _ _ ⟨rfl, rfl⟩
      refine OpsJ.put rfl (OpJ.pure (OpP.move rfl) ?_)
      refine OpsJ.put rfl (OpJ.pure (OpP.extract rfl rfl) ?_)
      refine OpsJ.put rfl (OpJ.pure (OpP.extract rfl rfl) ?_)
      refine OpsJ.put rfl (OpJ.pure (OpP.assign rfl) ?_)
      refine OpsJ.put rfl (OpJ.pure (OpP.assign rfl) ?_)
      refine OpsJ.nil ?_
      refine CodeJ.seq' ?_
      refine CodeJ.seq' ?_
      refine CodeJ.region ?_
      refine OpsJ.put rfl (OpJ.pure (OpP.assign rfl) ?_)
      refine OpsJ.nil ?_
      obtain ⟨t91, hl92, h93⟩ := bind_ok h14
      clear h14
      refine CodeJ.mid (fun e s => .inr () = t91 ∧ e = [] ∧ s = ⟨R, []⟩) ?_ ?_
      · refine CodeJ.block ?_
        refine CodeJ.loopM hl92 (fun i_64 e s => e = [(0, .slice A0_ p0_l.length c0_), (3, .int .i64 y12.1), (4, .bool y12.2), (5, .int .i64 i_64)] ∧ s = ⟨R, []⟩) ⟨rfl, rfl⟩ (SubE.cons rfl (SubE.cons rfl (SubE.cons rfl (SubE.cons rfl (SubE.nil _))))) (SubL.nil _) ?_
        rintro i_64 _ _ _ ⟨rfl, rfl⟩ h89 hne90
        (try dsimp only at h89); unfold winnowerlaw19_PlanLeast_l0 at h89
        refine CodeJ.seq' ?_
        refine CodeJ.seq' ?_
        refine CodeJ.region ?_
        refine OpsJ.put rfl (OpJ.pure (OpP.move rfl) ?_)
        refine OpsJ.put rfl (OpJ.pure (OpP.add64 rfl rfl) ?_)
        refine OpsJ.put rfl (OpJ.pure (OpP.move rfl) ?_)
        refine OpsJ.put rfl (OpJ.pure (OpP.len rfl) ?_)
        refine OpsJ.put rfl (OpJ.pure (OpP.lss rfl rfl) ?_)
        refine OpsJ.nil ?_
        by_cases hc94 : w64 (i_64 + 1) < ((p0_l.length : Nat) : Int)
        · rw [if_pos hc94] at h89
          refine CodeJ.cond_t rfl (decide_eq_true hc94) ?_
          refine CodeJ.skip ?_
          refine CodeJ.seq' ?_
          refine CodeJ.block ?_
          refine CodeJ.seq' ?_
          refine CodeJ.drawn (by kernel_rfl) (by kernel_rfl) ?_
          refine QuietJ.put rfl (OpQ.pure (OpP.move rfl) ?_)
          refine QuietJ.put rfl (OpQ.pure (OpP.move rfl) ?_)
          obtain ⟨x95, hx96, h97⟩ := bind_ok h89
          clear h89
          have hE98 : RC _ (some ((adr A0_).add (Int.toNat i_64 * Dat.size (Int × Int × Int)))) [.int .i64 x95.1, .int .i64 x95.2.1, .int .i64 x95.2.2] := SlR.getF (α := Int × Int × Int) hA0_ hx96
          refine QuietJ.put rfl (OpQ.pure (OpP.ixR hA0_ rfl hx96 (by exact rfl) (by exact rfl) rfl rfl) ?_)
          refine QuietJ.put rfl (OpQ.pure (OpP.fldAddr rfl (by exact rfl)) ?_)
          refine QuietJ.put rfl (OpQ.pure (OpP.ldR (by exact rfl) hE98 (IM.le_refl _) rfl rfl) ?_)
          refine QuietJ.put rfl (OpQ.pure (OpP.move rfl) ?_)
          refine QuietJ.put rfl (OpQ.pure (OpP.move rfl) ?_)
          refine QuietJ.put rfl (OpQ.pure (OpP.add64 rfl rfl) ?_)
          obtain ⟨x99, hx100, h101⟩ := bind_ok h97
          clear h97
          have hE102 : RC _ (some ((adr A0_).add (Int.toNat (w64 (i_64 + 1)) * Dat.size (Int × Int × Int)))) [.int .i64 x99.1, .int .i64 x99.2.1, .int .i64 x99.2.2] := SlR.getF (α := Int × Int × Int) hA0_ hx100
          refine QuietJ.put rfl (OpQ.pure (OpP.ixR hA0_ rfl hx100 (by exact rfl) (by exact rfl) rfl rfl) ?_)
          refine QuietJ.put rfl (OpQ.pure (OpP.fldAddr rfl (by exact rfl)) ?_)
          refine QuietJ.put rfl (OpQ.pure (OpP.ldR (by exact rfl) hE102 (IM.le_refl _) rfl rfl) ?_)
          refine QuietJ.put rfl (OpQ.pure (OpP.add64 rfl rfl) ?_)
          refine QuietJ.put rfl (OpQ.pure (OpP.assign rfl) ?_)
          refine QuietJ.nil ?_
          refine CodeJ.seq' ?_
          refine CodeJ.seq' ?_
          refine CodeJ.region ?_
          refine OpsJ.put rfl (OpJ.pure (OpP.move rfl) ?_)
          refine OpsJ.put rfl (OpJ.pure (OpP.gtr rfl rfl) ?_)
          refine OpsJ.nil ?_
          by_cases hc103 : w64 (x95.2.2 + x99.2.2) > 512
          · rw [if_pos hc103] at h101
            refine CodeJ.cond_t rfl (decide_eq_true hc103) ?_
            refine CodeJ.exit rfl ?_
            refine CodeJ.region ?_
            refine OpsJ.put rfl (OpJ.pure (OpP.move rfl) ?_)
            refine OpsJ.put rfl (OpJ.pure (OpP.add64 rfl rfl) ?_)
            refine OpsJ.put rfl (OpJ.pure (OpP.assign rfl) ?_)
            refine OpsJ.nil ?_
            obtain rfl := Option.some.inj h101
            exact ⟨_, _, _, _, rfl, ⟨rfl, rfl⟩, IM.le_refl _, (SubE.cons rfl (SubE.cons rfl (SubE.cons rfl (SubE.cons rfl (SubE.nil _))))), (SubL.nil _)⟩
          · rw [if_neg hc103] at h101
            refine CodeJ.cond_f rfl (decide_eq_false hc103) ?_
            refine CodeJ.skip ?_
            refine CodeJ.seq' ?_
            refine CodeJ.seq' ?_
            refine CodeJ.region ?_
            refine OpsJ.put rfl (OpJ.pure (OpP.move rfl) ?_)
            refine OpsJ.put rfl (OpJ.pure (OpP.not rfl) ?_)
            refine OpsJ.put rfl (OpJ.pure (OpP.move rfl) ?_)
            by_cases hc104 : y12.2 = true
            · rw [if_pos hc104] at h101
              refine OpsJ.guard_y rfl rfl rfl rfl (congrArg Bool.not hc104) ?_
              refine OpsJ.put rfl (OpJ.pure (OpP.move rfl) ?_)
              refine OpsJ.guard_y rfl rfl rfl rfl (congrArg Bool.not hc104) ?_
              refine OpsJ.put rfl (OpJ.pure (OpP.lss rfl rfl) ?_)
              refine OpsJ.put rfl (OpJ.pure (OpP.pick_f rfl (congrArg Bool.not hc104) rfl) ?_)
              refine OpsJ.put rfl (OpJ.pure (OpP.move rfl) ?_)
              by_cases hc105 : y12.1 < 0
              · rw [if_pos hc105] at h101
                refine OpsJ.guard_n rfl rfl rfl rfl (decide_eq_true hc105) ?_
                refine OpsJ.guard_n rfl rfl rfl rfl (decide_eq_true hc105) ?_
                refine OpsJ.guard_n rfl rfl rfl rfl (decide_eq_true hc105) ?_
                refine OpsJ.guard_n rfl rfl rfl rfl (decide_eq_true hc105) ?_
                refine OpsJ.guard_n rfl rfl rfl rfl (decide_eq_true hc105) ?_
                refine OpsJ.put rfl (OpJ.pure (OpP.pick_t rfl (decide_eq_true hc105) rfl) ?_)
                refine OpsJ.nil ?_
                refine CodeJ.cond_t rfl rfl ?_
                refine CodeJ.seq' ?_
                refine CodeJ.region ?_
                refine OpsJ.put rfl (OpJ.pure (OpP.assign rfl) ?_)
                refine OpsJ.nil ?_
                obtain rfl := Option.some.inj h101
                have ht106 := hne90 _ rfl
                subst ht106
                simp only [Sum.elim_inl] at h93
                refine CodeJ.ret' ?_
                obtain rfl := Option.some.inj h93
                exact Ret.mk0 ⟨rfl, rfl⟩ (ResJ.one Try.results3 rfl) (IM.le_refl _) (SubL.nil _)
              · rw [if_neg hc105] at h101
                refine OpsJ.guard_y rfl rfl rfl rfl (decide_eq_false hc105) ?_
                refine OpsJ.put rfl (OpJ.pure (OpP.move rfl) ?_)
                refine OpsJ.guard_y rfl rfl rfl rfl (decide_eq_false hc105) ?_
                refine OpsJ.put rfl (OpJ.pure (OpP.add64 rfl rfl) ?_)
                refine OpsJ.guard_y rfl rfl rfl rfl (decide_eq_false hc105) ?_
                refine OpsJ.put rfl (OpJ.pure (OpP.move rfl) ?_)
                refine OpsJ.guard_y rfl rfl rfl rfl (decide_eq_false hc105) ?_
                refine OpsJ.put rfl (OpJ.pure (OpP.len rfl) ?_)
                refine OpsJ.guard_y rfl rfl rfl rfl (decide_eq_false hc105) ?_
                refine OpsJ.put rfl (OpJ.pure (OpP.geq rfl rfl) ?_)
                refine OpsJ.put rfl (OpJ.pure (OpP.pick_f rfl (decide_eq_false hc105) rfl) ?_)
                refine OpsJ.nil ?_
                by_cases hc107 : w64 (y12.1 + 1) ≥ ((p0_l.length : Nat) : Int)
                · rw [if_pos hc107] at h101
                  refine CodeJ.cond_t rfl (decide_eq_true hc107) ?_
                  refine CodeJ.seq' ?_
                  refine CodeJ.region ?_
                  refine OpsJ.put rfl (OpJ.pure (OpP.assign rfl) ?_)
                  refine OpsJ.nil ?_
                  obtain rfl := Option.some.inj h101
                  have ht108 := hne90 _ rfl
                  subst ht108
                  simp only [Sum.elim_inl] at h93
                  refine CodeJ.ret' ?_
                  obtain rfl := Option.some.inj h93
                  exact Ret.mk0 ⟨rfl, rfl⟩ (ResJ.one Try.results3 rfl) (IM.le_refl _) (SubL.nil _)
                · rw [if_neg hc107] at h101
                  refine CodeJ.cond_f rfl (decide_eq_false hc107) ?_
                  refine CodeJ.skip ?_
                  refine CodeJ.seq' ?_
                  refine CodeJ.drawn (by kernel_rfl) (by kernel_rfl) ?_
                  refine QuietJ.put rfl (OpQ.pure (OpP.move rfl) ?_)
                  refine QuietJ.put rfl (OpQ.pure (OpP.move rfl) ?_)
                  obtain ⟨x109, hx110, h111⟩ := bind_ok h101
                  clear h101
                  have hE112 : RC _ (some ((adr A0_).add (Int.toNat y12.1 * Dat.size (Int × Int × Int)))) [.int .i64 x109.1, .int .i64 x109.2.1, .int .i64 x109.2.2] := SlR.getF (α := Int × Int × Int) hA0_ hx110
                  refine QuietJ.put rfl (OpQ.pure (OpP.ixR hA0_ rfl hx110 (by exact rfl) (by exact rfl) rfl rfl) ?_)
                  refine QuietJ.put rfl (OpQ.pure (OpP.fldAddr rfl (by exact rfl)) ?_)
                  refine QuietJ.put rfl (OpQ.pure (OpP.ldR (by exact rfl) hE112 (IM.le_refl _) rfl rfl) ?_)
                  refine QuietJ.put rfl (OpQ.pure (OpP.move rfl) ?_)
                  refine QuietJ.put rfl (OpQ.pure (OpP.move rfl) ?_)
                  refine QuietJ.put rfl (OpQ.pure (OpP.add64 rfl rfl) ?_)
                  obtain ⟨x113, hx114, h115⟩ := bind_ok h111
                  clear h111
                  have hE116 : RC _ (some ((adr A0_).add (Int.toNat (w64 (y12.1 + 1)) * Dat.size (Int × Int × Int)))) [.int .i64 x113.1, .int .i64 x113.2.1, .int .i64 x113.2.2] := SlR.getF (α := Int × Int × Int) hA0_ hx114
                  refine QuietJ.put rfl (OpQ.pure (OpP.ixR hA0_ rfl hx114 (by exact rfl) (by exact rfl) rfl rfl) ?_)
                  refine QuietJ.put rfl (OpQ.pure (OpP.fldAddr rfl (by exact rfl)) ?_)
                  refine QuietJ.put rfl (OpQ.pure (OpP.ldR (by exact rfl) hE116 (IM.le_refl _) rfl rfl) ?_)
                  refine QuietJ.put rfl (OpQ.pure (OpP.add64 rfl rfl) ?_)
                  refine QuietJ.put rfl (OpQ.pure (OpP.assign rfl) ?_)
                  refine QuietJ.nil ?_
                  refine CodeJ.seq' ?_
                  refine CodeJ.region ?_
                  refine OpsJ.put rfl (OpJ.pure (OpP.move rfl) ?_)
                  refine OpsJ.put rfl (OpJ.pure (OpP.move rfl) ?_)
                  refine OpsJ.put rfl (OpJ.pure (OpP.lss rfl rfl) ?_)
                  refine OpsJ.put rfl (OpJ.pure (OpP.move rfl) ?_)
                  by_cases hc117 : w64 (x95.2.2 + x99.2.2) < w64 (x109.2.2 + x113.2.2)
                  · rw [if_pos hc117] at h115
                    refine OpsJ.guard_n rfl rfl rfl rfl (decide_eq_true hc117) ?_
                    refine OpsJ.guard_n rfl rfl rfl rfl (decide_eq_true hc117) ?_
                    refine OpsJ.guard_n rfl rfl rfl rfl (decide_eq_true hc117) ?_
                    refine OpsJ.guard_n rfl rfl rfl rfl (decide_eq_true hc117) ?_
                    refine OpsJ.gund rfl rfl rfl rfl ?_
                    refine OpsJ.gund rfl rfl rfl rfl ?_
                    refine OpsJ.gund rfl rfl rfl rfl ?_
                    refine OpsJ.guard_n rfl rfl rfl rfl (decide_eq_true hc117) ?_
                    refine OpsJ.put rfl (OpJ.pure (OpP.pick_t rfl (decide_eq_true hc117) rfl) ?_)
                    refine OpsJ.nil ?_
                    refine CodeJ.cond_t rfl rfl ?_
                    refine CodeJ.seq' ?_
                    refine CodeJ.region ?_
                    refine OpsJ.put rfl (OpJ.pure (OpP.assign rfl) ?_)
                    refine OpsJ.nil ?_
                    obtain rfl := Option.some.inj h115
                    have ht118 := hne90 _ rfl
                    subst ht118
                    simp only [Sum.elim_inl] at h93
                    refine CodeJ.ret' ?_
                    obtain rfl := Option.some.inj h93
                    exact Ret.mk0 ⟨rfl, rfl⟩ (ResJ.one Try.results3 rfl) (IM.le_refl _) (SubL.nil _)
                  · rw [if_neg hc117] at h115
                    refine OpsJ.guard_y rfl rfl rfl rfl (decide_eq_false hc117) ?_
                    refine OpsJ.put rfl (OpJ.pure (OpP.move rfl) ?_)
                    refine OpsJ.guard_y rfl rfl rfl rfl (decide_eq_false hc117) ?_
                    refine OpsJ.put rfl (OpJ.pure (OpP.move rfl) ?_)
                    refine OpsJ.guard_y rfl rfl rfl rfl (decide_eq_false hc117) ?_
                    refine OpsJ.put rfl (OpJ.pure (OpP.eql rfl rfl) ?_)
                    refine OpsJ.guard_y rfl rfl rfl rfl (decide_eq_false hc117) ?_
                    refine OpsJ.put rfl (OpJ.pure (OpP.move rfl) ?_)
                    by_cases hc119 : w64 (x95.2.2 + x99.2.2) = w64 (x109.2.2 + x113.2.2)
                    · rw [if_pos hc119] at h115
                      refine OpsJ.guard_y rfl rfl rfl rfl (decide_eq_true hc119) ?_
                      refine OpsJ.put rfl (OpJ.pure (OpP.move rfl) ?_)
                      refine OpsJ.guard_y rfl rfl rfl rfl (decide_eq_true hc119) ?_
                      refine OpsJ.put rfl (OpJ.pure (OpP.move rfl) ?_)
                      refine OpsJ.guard_y rfl rfl rfl rfl (decide_eq_true hc119) ?_
                      refine OpsJ.put rfl (OpJ.pure (OpP.lss rfl rfl) ?_)
                      refine OpsJ.guard_y rfl rfl rfl rfl (decide_eq_false hc117) ?_
                      refine OpsJ.put rfl (OpJ.pure (OpP.pick_t rfl (decide_eq_true hc119) rfl) ?_)
                      refine OpsJ.put rfl (OpJ.pure (OpP.pick_f rfl (decide_eq_false hc117) rfl) ?_)
                      refine OpsJ.nil ?_
                      by_cases hc120 : i_64 < y12.1
                      · rw [if_pos hc120] at h115
                        refine CodeJ.cond_t rfl (decide_eq_true hc120) ?_
                        refine CodeJ.seq' ?_
                        refine CodeJ.region ?_
                        refine OpsJ.put rfl (OpJ.pure (OpP.assign rfl) ?_)
                        refine OpsJ.nil ?_
                        obtain rfl := Option.some.inj h115
                        have ht121 := hne90 _ rfl
                        subst ht121
                        simp only [Sum.elim_inl] at h93
                        refine CodeJ.ret' ?_
                        obtain rfl := Option.some.inj h93
                        exact Ret.mk0 ⟨rfl, rfl⟩ (ResJ.one Try.results3 rfl) (IM.le_refl _) (SubL.nil _)
                      · rw [if_neg hc120] at h115
                        refine CodeJ.cond_f rfl (decide_eq_false hc120) ?_
                        refine CodeJ.skip ?_
                        refine CodeJ.region ?_
                        refine OpsJ.put rfl (OpJ.pure (OpP.move rfl) ?_)
                        refine OpsJ.put rfl (OpJ.pure (OpP.add64 rfl rfl) ?_)
                        refine OpsJ.put rfl (OpJ.pure (OpP.assign rfl) ?_)
                        refine OpsJ.nil ?_
                        obtain rfl := Option.some.inj h115
                        exact ⟨_, _, _, _, rfl, ⟨rfl, rfl⟩, IM.le_refl _, (SubE.cons rfl (SubE.cons rfl (SubE.cons rfl (SubE.cons rfl (SubE.nil _))))), (SubL.nil _)⟩
                    · rw [if_neg hc119] at h115
                      refine OpsJ.guard_n rfl rfl rfl rfl (decide_eq_false hc119) ?_
                      refine OpsJ.guard_n rfl rfl rfl rfl (decide_eq_false hc119) ?_
                      refine OpsJ.guard_n rfl rfl rfl rfl (decide_eq_false hc119) ?_
                      refine OpsJ.guard_y rfl rfl rfl rfl (decide_eq_false hc117) ?_
                      refine OpsJ.put rfl (OpJ.pure (OpP.pick_f rfl (decide_eq_false hc119) rfl) ?_)
                      refine OpsJ.put rfl (OpJ.pure (OpP.pick_f rfl (decide_eq_false hc117) rfl) ?_)
                      refine OpsJ.nil ?_
                      refine CodeJ.cond_f rfl rfl ?_
                      refine CodeJ.skip ?_
                      refine CodeJ.region ?_
                      refine OpsJ.put rfl (OpJ.pure (OpP.move rfl) ?_)
                      refine OpsJ.put rfl (OpJ.pure (OpP.add64 rfl rfl) ?_)
                      refine OpsJ.put rfl (OpJ.pure (OpP.assign rfl) ?_)
                      refine OpsJ.nil ?_
                      obtain rfl := Option.some.inj h115
                      exact ⟨_, _, _, _, rfl, ⟨rfl, rfl⟩, IM.le_refl _, (SubE.cons rfl (SubE.cons rfl (SubE.cons rfl (SubE.cons rfl (SubE.nil _))))), (SubL.nil _)⟩
            · rw [if_neg hc104] at h101
              refine OpsJ.guard_n rfl rfl rfl rfl (congrArg Bool.not (Bool.eq_false_iff.2 hc104)) ?_
              refine OpsJ.guard_n rfl rfl rfl rfl (congrArg Bool.not (Bool.eq_false_iff.2 hc104)) ?_
              refine OpsJ.put rfl (OpJ.pure (OpP.pick_t rfl (congrArg Bool.not (Bool.eq_false_iff.2 hc104)) rfl) ?_)
              refine OpsJ.put rfl (OpJ.pure (OpP.move rfl) ?_)
              refine OpsJ.guard_n rfl rfl rfl rfl rfl ?_
              refine OpsJ.guard_n rfl rfl rfl rfl rfl ?_
              refine OpsJ.guard_n rfl rfl rfl rfl rfl ?_
              refine OpsJ.guard_n rfl rfl rfl rfl rfl ?_
              refine OpsJ.guard_n rfl rfl rfl rfl rfl ?_
              refine OpsJ.put rfl (OpJ.pure (OpP.pick_t rfl rfl rfl) ?_)
              refine OpsJ.nil ?_
              refine CodeJ.cond_t rfl rfl ?_
              refine CodeJ.seq' ?_
              refine CodeJ.region ?_
              refine OpsJ.put rfl (OpJ.pure (OpP.assign rfl) ?_)
              refine OpsJ.nil ?_
              obtain rfl := Option.some.inj h101
              have ht122 := hne90 _ rfl
              subst ht122
              simp only [Sum.elim_inl] at h93
              refine CodeJ.ret' ?_
              obtain rfl := Option.some.inj h93
              exact Ret.mk0 ⟨rfl, rfl⟩ (ResJ.one Try.results3 rfl) (IM.le_refl _) (SubL.nil _)
        · rw [if_neg hc94] at h89
          refine CodeJ.cond_f rfl (decide_eq_false hc94) ?_
          refine CodeJ.exit rfl ?_
          obtain rfl := Option.some.inj h89
          have ht123 := hne90 _ rfl
          exact ⟨_, _, _, ⟨ht123, rfl, rfl⟩, IM.le_refl _, (SubE.nil _), (SubL.nil _)⟩
      · rintro _ _ ⟨rfl, rfl, rfl⟩
        simp only [Sum.elim_inr] at h93
        refine CodeJ.seq' ?_
        refine CodeJ.region ?_
        obtain ⟨y127, hy128, h129⟩ := bind_ok h93
        clear h93
        refine OpsJ.put rfl (OpJ.call0 rfl (fun R124 hle125 hin126 => winnowerlaw19_known_w R124   _ hy128) ?_)
        rintro _ _ _ ⟨rfl, rfl⟩
        refine OpsJ.put rfl (OpJ.pure (OpP.assign rfl) ?_)
        refine OpsJ.nil ?_
        refine CodeJ.ret' ?_
        obtain rfl := Option.some.inj h129
        exact Ret.mk0 ⟨rfl, rfl⟩ (ResJ.one Try.results3 rfl) (IM.le_refl _) (SubL.nil _)
    · rw [if_neg hc8] at h7
      refine CodeJ.cond_t rfl (congrArg Bool.not (Bool.eq_false_iff.2 hc8)) ?_
      refine CodeJ.seq' ?_
      refine CodeJ.region ?_
      refine OpsJ.put rfl (OpJ.pure (OpP.assign rfl) ?_)
      refine OpsJ.nil ?_
      refine CodeJ.ret' ?_
      obtain rfl := Option.some.inj h7
      exact Ret.mk0 ⟨rfl, rfl⟩ (ResJ.one Try.results3 rfl) (IM.le_refl _) (SubL.nil _)
theorem winnowerlaw19_PlanDrops_w (R : IM) (A0_ : Option Addr) (n0_ c0_ : Nat) (p0_l : List (Int × Int × Int)) (hA0_ : SlR R A0_ p0_l) (hn0_ : p0_l.length = n0_) (hc0_ : n0_ ≤ c0_) (p1_n : Int) (y : Bool) (h : winnowerlaw19_PlanDrops p0_l p1_n = some y) :
    CallJ Try.prog 4 #[.slice A0_ n0_ c0_, .int .i64 p1_n] ⟨R, []⟩ (fun v D hs' => v = .bool y ∧ hs' = []) := by
  subst hn0_
  unfold winnowerlaw19_PlanDrops at h
  refine CallJ.of2 Try.func4 rfl Try.ntmps4 rfl (fun W0 => ?_)
  refine CodeJ.seq' ?_
  refine CodeJ.region ?_
  refine OpsJ.put rfl (OpJ.pure (OpP.assign rfl) ?_)
  refine OpsJ.nil ?_
  refine CodeJ.seq' ?_
  refine CodeJ.seq' ?_
  refine CodeJ.region ?_
  refine OpsJ.put rfl (OpJ.pure (OpP.move rfl) ?_)
  refine OpsJ.put rfl (OpJ.pure (OpP.len rfl) ?_)
  refine OpsJ.put rfl (OpJ.pure (OpP.gtr rfl rfl) ?_)
  refine OpsJ.put rfl (OpJ.pure (OpP.move rfl) ?_)
  by_cases hc1 : ((p0_l.length : Nat) : Int) > 60
  · rw [if_pos hc1] at h
    refine OpsJ.guard_n rfl rfl rfl rfl (decide_eq_true hc1) ?_
    refine OpsJ.guard_n rfl rfl rfl rfl (decide_eq_true hc1) ?_
    refine OpsJ.guard_n rfl rfl rfl rfl (decide_eq_true hc1) ?_
    refine OpsJ.put rfl (OpJ.pure (OpP.pick_t rfl (decide_eq_true hc1) rfl) ?_)
    refine OpsJ.put rfl (OpJ.pure (OpP.move rfl) ?_)
    refine OpsJ.guard_n rfl rfl rfl rfl rfl ?_
    refine OpsJ.guard_n rfl rfl rfl rfl rfl ?_
    refine OpsJ.put rfl (OpJ.pure (OpP.pick_t rfl rfl rfl) ?_)
    refine OpsJ.put rfl (OpJ.pure (OpP.move rfl) ?_)
    refine OpsJ.guard_n rfl rfl rfl rfl rfl ?_
    refine OpsJ.guard_n rfl rfl rfl rfl rfl ?_
    refine OpsJ.put rfl (OpJ.pure (OpP.pick_t rfl rfl rfl) ?_)
    refine OpsJ.nil ?_
    refine CodeJ.cond_t rfl rfl ?_
    refine CodeJ.seq' ?_
    refine CodeJ.region ?_
    refine OpsJ.put rfl (OpJ.pure (OpP.assign rfl) ?_)
    refine OpsJ.nil ?_
    refine CodeJ.ret' ?_
    obtain rfl := Option.some.inj h
    exact Ret.mk0 ⟨rfl, rfl⟩ (ResJ.one Try.results4 rfl) (IM.le_refl _) (SubL.nil _)
  · rw [if_neg hc1] at h
    refine OpsJ.guard_y rfl rfl rfl rfl (decide_eq_false hc1) ?_
    refine OpsJ.put rfl (OpJ.pure (OpP.move rfl) ?_)
    refine OpsJ.guard_y rfl rfl rfl rfl (decide_eq_false hc1) ?_
    obtain ⟨y5, hy6, h7⟩ := bind_ok h
    clear h
    refine OpsJ.put rfl (OpJ.call0 rfl (fun R2 hle3 hin4 => winnowerref19_Is_w R2 A0_ p0_l.length c0_ p0_l (SlR.mono hA0_ (IM.le_trans (IM.le_refl _) hle3)) rfl hc0_  _ hy6) ?_)
    rintro _ _ _ ⟨rfl, rfl⟩
    refine OpsJ.guard_y rfl rfl rfl rfl (decide_eq_false hc1) ?_
    refine OpsJ.put rfl (OpJ.pure (OpP.not rfl) ?_)
    refine OpsJ.put rfl (OpJ.pure (OpP.pick_f rfl (decide_eq_false hc1) rfl) ?_)
    refine OpsJ.put rfl (OpJ.pure (OpP.move rfl) ?_)
    by_cases hc8 : y5 = true
    · rw [if_pos hc8] at h7
      refine OpsJ.guard_y rfl rfl rfl rfl (congrArg Bool.not hc8) ?_
      refine OpsJ.put rfl (OpJ.pure (OpP.move rfl) ?_)
      refine OpsJ.guard_y rfl rfl rfl rfl (congrArg Bool.not hc8) ?_
      refine OpsJ.put rfl (OpJ.pure (OpP.lss rfl rfl) ?_)
      refine OpsJ.put rfl (OpJ.pure (OpP.pick_f rfl (congrArg Bool.not hc8) rfl) ?_)
      refine OpsJ.put rfl (OpJ.pure (OpP.move rfl) ?_)
      by_cases hc9 : p1_n < (-1099511627776)
      · rw [if_pos hc9] at h7
        refine OpsJ.guard_n rfl rfl rfl rfl (decide_eq_true hc9) ?_
        refine OpsJ.guard_n rfl rfl rfl rfl (decide_eq_true hc9) ?_
        refine OpsJ.put rfl (OpJ.pure (OpP.pick_t rfl (decide_eq_true hc9) rfl) ?_)
        refine OpsJ.nil ?_
        refine CodeJ.cond_t rfl rfl ?_
        refine CodeJ.seq' ?_
        refine CodeJ.region ?_
        refine OpsJ.put rfl (OpJ.pure (OpP.assign rfl) ?_)
        refine OpsJ.nil ?_
        refine CodeJ.ret' ?_
        obtain rfl := Option.some.inj h7
        exact Ret.mk0 ⟨rfl, rfl⟩ (ResJ.one Try.results4 rfl) (IM.le_refl _) (SubL.nil _)
      · rw [if_neg hc9] at h7
        refine OpsJ.guard_y rfl rfl rfl rfl (decide_eq_false hc9) ?_
        refine OpsJ.put rfl (OpJ.pure (OpP.move rfl) ?_)
        refine OpsJ.guard_y rfl rfl rfl rfl (decide_eq_false hc9) ?_
        refine OpsJ.put rfl (OpJ.pure (OpP.gtr rfl rfl) ?_)
        refine OpsJ.put rfl (OpJ.pure (OpP.pick_f rfl (decide_eq_false hc9) rfl) ?_)
        refine OpsJ.nil ?_
        by_cases hc10 : p1_n > 1099511627776
        · rw [if_pos hc10] at h7
          refine CodeJ.cond_t rfl (decide_eq_true hc10) ?_
          refine CodeJ.seq' ?_
          refine CodeJ.region ?_
          refine OpsJ.put rfl (OpJ.pure (OpP.assign rfl) ?_)
          refine OpsJ.nil ?_
          refine CodeJ.ret' ?_
          obtain rfl := Option.some.inj h7
          exact Ret.mk0 ⟨rfl, rfl⟩ (ResJ.one Try.results4 rfl) (IM.le_refl _) (SubL.nil _)
        · rw [if_neg hc10] at h7
          refine CodeJ.cond_f rfl (decide_eq_false hc10) ?_
          refine CodeJ.skip ?_
          refine CodeJ.seq' ?_
          refine CodeJ.region ?_
          refine OpsJ.put rfl (OpJ.pure (OpP.move rfl) ?_)
          refine OpsJ.put rfl (OpJ.pure (OpP.move rfl) ?_)
          obtain ⟨y14, hy15, h16⟩ := bind_ok h7
          clear h7
          refine OpsJ.put rfl (OpJ.call1 rfl (fun R11 hle12 hin13 => plan_Drop_w R11 A0_ p0_l.length c0_ p0_l (SlR.mono hA0_ (IM.le_trans (IM.le_refl _) hle12)) rfl hc0_ p1_n  _ hy15) ?_)
          rintro _ _ _ ⟨A17, c18, cs19, A22, c23, cs24, rfl, hr20, hr25, rfl⟩
          refine OpsJ.put rfl (OpJ.pure (OpP.move rfl) ?_)
          refine OpsJ.put rfl (OpJ.pure (OpP.extract rfl rfl) ?_)
          refine OpsJ.put rfl (OpJ.pure (OpP.extract rfl rfl) ?_)
          refine OpsJ.put rfl (OpJ.pure (OpP.assign rfl) ?_)
          refine OpsJ.put rfl (OpJ.pure (OpP.assign rfl) ?_)
          refine OpsJ.nil ?_
          refine CodeJ.seq' ?_
          refine CodeJ.region ?_
          have hr28 : repL IM.nil [] ([] : List (Int × Int × Int)) := (repL_nil _)
          refine OpsJ.put rfl (OpJ.buildSliceC (cs := []) rfl rfl (by exact rfl) (by exact rfl) (by exact rfl) (by exact rfl) (fun g27 => ?_))
          refine OpsJ.put rfl (OpJ.pure (OpP.move rfl) ?_)
          obtain ⟨q30, hq31, h32⟩ := bind_ok h16
          clear h16
          have hr35 : repL IM.nil (([] : List Value) ++ cs19) q30 := app_rep hq31 hr28 hr20
          refine OpsJ.put rfl (OpJ.appW hq31 rfl rfl (Src.ofRow (List.Mem.tail _ (List.Mem.head _))) hr20 (by exact rfl) (List.Perm.refl _) (by exact rfl) (by exact rfl) (by exact rfl) rfl rfl (fun A33 c34 => ?_))
          refine OpsJ.put rfl (OpJ.pure (OpP.move rfl) ?_)
          obtain ⟨q37, hq38, h39⟩ := bind_ok h32
          clear h32
          have hr42 : repL IM.nil ((([] : List Value) ++ cs19) ++ cs24) q37 := app_rep hq38 hr35 hr25
          refine OpsJ.put rfl (OpJ.appW hq38 rfl rfl (Src.ofRow (List.Mem.tail _ (List.Mem.tail _ (List.Mem.head _)))) hr25 (by exact rfl) (List.Perm.refl _) (by exact rfl) (by exact rfl) (by exact rfl) rfl rfl (fun A40 c41 => ?_))
          refine OpsJ.put rfl (OpJ.pure (OpP.assign rfl) ?_)
          refine OpsJ.nil ?_
          refine CodeJ.seq' ?_
          refine CodeJ.seq' ?_
          refine CodeJ.region ?_
          refine OpsJ.put rfl (OpJ.pure (OpP.assign rfl) ?_)
          refine OpsJ.nil ?_
          obtain ⟨t69, hl70, h71⟩ := bind_ok h39
          clear h39
          refine CodeJ.mid (fun e s => .inr () = t69 ∧ e = [(0, .slice A0_ p0_l.length c0_), (1, .int .i64 p1_n), (6, .slice A22 y14.2.length c23), (7, .slice A40 q37.length c41)] ∧ s = ⟨R, [.row 27 3 A22 y14.2.length c23 cs24, .row 27 3 A40 q37.length c41 ((([] : List Value) ++ cs19) ++ cs24)]⟩) ?_ ?_
          · refine CodeJ.block ?_
            refine CodeJ.loopM hl70 (fun i_59 e s => e = [(0, .slice A0_ p0_l.length c0_), (1, .int .i64 p1_n), (5, .slice A17 y14.1.length c18), (6, .slice A22 y14.2.length c23), (7, .slice A40 q37.length c41), (8, .int .i64 i_59)] ∧ s = ⟨R, [.row 27 3 A17 y14.1.length c18 cs19, .row 27 3 A22 y14.2.length c23 cs24, .row 27 3 A40 q37.length c41 ((([] : List Value) ++ cs19) ++ cs24)]⟩) ⟨rfl, rfl⟩ (SubE.cons rfl (SubE.cons rfl (SubE.cons rfl (SubE.cons rfl (SubE.cons rfl (SubE.cons rfl (SubE.nil _))))))) (SubL.p1 (SubL.p1 (SubL.p0 (SubL.nil _)))) ?_
            rintro i_59 _ _ _ ⟨rfl, rfl⟩ h67 hne68
            (try dsimp only at h67); unfold winnowerlaw19_PlanDrops_l0 at h67
            refine CodeJ.seq' ?_
            refine CodeJ.seq' ?_
            refine CodeJ.region ?_
            refine OpsJ.put rfl (OpJ.pure (OpP.move rfl) ?_)
            refine OpsJ.put rfl (OpJ.pure (OpP.move rfl) ?_)
            refine OpsJ.put rfl (OpJ.pure (OpP.len rfl) ?_)
            refine OpsJ.put rfl (OpJ.pure (OpP.lss rfl rfl) ?_)
            refine OpsJ.nil ?_
            by_cases hc72 : i_59 < ((y14.1.length : Nat) : Int)
            · rw [if_pos hc72] at h67
              refine CodeJ.cond_t rfl (decide_eq_true hc72) ?_
              refine CodeJ.skip ?_
              refine CodeJ.seq' ?_
              refine CodeJ.block ?_
              refine CodeJ.seq' ?_
              refine CodeJ.drawn (by kernel_rfl) (by kernel_rfl) ?_
              refine QuietJ.put rfl (OpQ.pure (OpP.move rfl) ?_)
              refine QuietJ.put rfl (OpQ.pure (OpP.move rfl) ?_)
              obtain ⟨x73, hx74, h75⟩ := bind_ok h67
              clear h67
              have hE76 : ∀ j v, ([.int .i64 x73.1, .int .i64 x73.2.1, .int .i64 x73.2.2] : List Value)[j]? = some v → (cs19)[Int.toNat i_59 * Dat.size (Int × Int × Int) + j]? = some v := row_getF (α := Int × Int × Int) hr20 hx74
              refine QuietJ.put rfl (OpQ.pure (OpP.ixW (List.Mem.head _) hr20 rfl hx74 (by exact rfl) (by exact rfl) rfl rfl) ?_)
              refine QuietJ.put rfl (OpQ.pure (OpP.fldAddr rfl (by exact rfl)) ?_)
              refine QuietJ.put rfl (OpQ.pure (OpP.ldW (by exact rfl) (List.Mem.head _) hE76 rfl rfl) ?_)
              refine QuietJ.put rfl (OpQ.pure (OpP.move rfl) ?_)
              refine QuietJ.put rfl (OpQ.pure (OpP.move rfl) ?_)
              have hE77 : ∀ j v, ([.int .i64 x73.1, .int .i64 x73.2.1, .int .i64 x73.2.2] : List Value)[j]? = some v → (cs19)[Int.toNat i_59 * Dat.size (Int × Int × Int) + j]? = some v := row_getF (α := Int × Int × Int) hr20 hx74
              refine QuietJ.put rfl (OpQ.pure (OpP.ixW (List.Mem.head _) hr20 rfl hx74 (by exact rfl) (by exact rfl) rfl rfl) ?_)
              refine QuietJ.put rfl (OpQ.pure (OpP.fldAddr rfl (by exact rfl)) ?_)
              refine QuietJ.put rfl (OpQ.pure (OpP.ldW (by exact rfl) (List.Mem.head _) hE77 rfl rfl) ?_)
              refine QuietJ.put rfl (OpQ.pure (OpP.add64 rfl rfl) ?_)
              refine QuietJ.put rfl (OpQ.pure (OpP.move rfl) ?_)
              refine QuietJ.put rfl (OpQ.pure (OpP.gtr rfl rfl) ?_)
              refine QuietJ.nil ?_
              by_cases hc78 : w64 (x73.2.1 + x73.2.2) > p1_n
              · rw [if_pos hc78] at h75
                refine CodeJ.cond_t rfl (decide_eq_true hc78) ?_
                refine CodeJ.seq' ?_
                refine CodeJ.region ?_
                refine OpsJ.put rfl (OpJ.pure (OpP.assign rfl) ?_)
                refine OpsJ.nil ?_
                obtain rfl := Option.some.inj h75
                have ht79 := hne68 _ rfl
                subst ht79
                simp only [Sum.elim_inl] at h71
                refine CodeJ.ret' ?_
                obtain rfl := Option.some.inj h71
                exact Ret.mk0 ⟨rfl, rfl⟩ (ResJ.one Try.results4 rfl) (IM.le_refl _) (SubL.nil _)
              · rw [if_neg hc78] at h75
                refine CodeJ.cond_f rfl (decide_eq_false hc78) ?_
                refine CodeJ.skip ?_
                refine CodeJ.region ?_
                refine OpsJ.put rfl (OpJ.pure (OpP.move rfl) ?_)
                refine OpsJ.put rfl (OpJ.pure (OpP.add64 rfl rfl) ?_)
                refine OpsJ.put rfl (OpJ.pure (OpP.assign rfl) ?_)
                refine OpsJ.nil ?_
                obtain rfl := Option.some.inj h75
                exact ⟨_, _, _, _, rfl, ⟨rfl, rfl⟩, IM.le_refl _, (SubE.cons rfl (SubE.cons rfl (SubE.cons rfl (SubE.cons rfl (SubE.cons rfl (SubE.cons rfl (SubE.nil _))))))), (SubL.p0 (SubL.p0 (SubL.p0 (SubL.nil _))))⟩
            · rw [if_neg hc72] at h67
              refine CodeJ.cond_f rfl (decide_eq_false hc72) ?_
              refine CodeJ.exit rfl ?_
              obtain rfl := Option.some.inj h67
              have ht80 := hne68 _ rfl
              exact ⟨_, _, _, ⟨ht80, rfl, rfl⟩, IM.le_refl _, (SubE.cons rfl (SubE.cons rfl (SubE.cons rfl (SubE.cons rfl (SubE.nil _))))), (SubL.p1 (SubL.p1 (SubL.nil _)))⟩
          · rintro _ _ ⟨rfl, rfl, rfl⟩
            simp only [Sum.elim_inr] at h71
            refine CodeJ.seq' ?_
            refine HoldJ.start [.row 27 3 A22 y14.2.length c23 cs24, .row 27 3 A40 q37.length c41 ((([] : List Value) ++ cs19) ++ cs24)] (by kernel_rfl) ?_
            refine HoldJ.take 0 rfl (by kernel_rfl) rfl (OpP.move rfl) ⟨(IM.le_refl _), (SubL.p0 (SubL.p0 (SubL.nil _)))⟩ ?_
            refine HoldJ.take 1 rfl (by kernel_rfl) rfl (OpP.move rfl) ⟨(IM.le_refl _), (SubL.p0 (SubL.p0 (SubL.nil _)))⟩ ?_
            refine HoldJ.rowle (List.Perm.swap _ _ _) (fun hcap108 _ => ?_)
            obtain ⟨y112, hy113, h114⟩ := bind_ok h71
            clear h71
            refine HoldJ.step 2 rfl (by kernel_rfl) rfl (OpJ.call0 rfl (fun R109 hle110 hin111 => winnowerlaw19_spans_w R109 A40 q37.length c41 q37 (SlR.of_row (inRow hin111 (List.Mem.tail _ (List.Mem.head _))) hr42 (IM.le_nil _)) rfl hcap108 A0_ p0_l.length c0_ p0_l (SlR.mono hA0_ (IM.le_trans (IM.le_refl _) hle110)) rfl hc0_  _ hy113) ?_)
            rintro _ _ _ ⟨rfl, rfl⟩
            refine ⟨⟨(IM.le_refl _), (SubL.p0 (SubL.p0 (SubL.nil _)))⟩, ?_⟩
            refine HoldJ.take 3 rfl (by kernel_rfl) rfl (OpP.move rfl) ⟨(IM.le_refl _), (SubL.p0 (SubL.p0 (SubL.nil _)))⟩ ?_
            by_cases hc115 : y112 = true
            · rw [if_pos hc115] at h114
              refine HoldJ.take_y 4 rfl (by kernel_rfl) rfl rfl rfl rfl hc115 (OpP.move rfl) ⟨(IM.le_refl _), (SubL.p0 (SubL.p0 (SubL.nil _)))⟩ ?_
              refine HoldJ.take_y 5 rfl (by kernel_rfl) rfl rfl rfl rfl hc115 (OpP.len rfl) ⟨(IM.le_refl _), (SubL.p0 (SubL.p0 (SubL.nil _)))⟩ ?_
              refine HoldJ.take_y 6 rfl (by kernel_rfl) rfl rfl rfl rfl hc115 (OpP.eql rfl rfl) ⟨(IM.le_refl _), (SubL.p0 (SubL.p0 (SubL.nil _)))⟩ ?_
              refine HoldJ.take_y 7 rfl (by kernel_rfl) rfl rfl rfl rfl hc115 (OpP.move rfl) ⟨(IM.le_refl _), (SubL.p0 (SubL.p0 (SubL.nil _)))⟩ ?_
              by_cases hc116 : ((y14.2.length : Nat) : Int) = 0
              · rw [if_pos hc116] at h114
                refine HoldJ.take_n 8 rfl (by kernel_rfl) rfl rfl rfl rfl (decide_eq_true hc116) ⟨(IM.le_refl _), (SubL.p0 (SubL.p0 (SubL.nil _)))⟩ ?_
                refine HoldJ.take_n 9 rfl (by kernel_rfl) rfl rfl rfl rfl (decide_eq_true hc116) ⟨(IM.le_refl _), (SubL.p0 (SubL.p0 (SubL.nil _)))⟩ ?_
                refine HoldJ.take_n 10 rfl (by kernel_rfl) rfl rfl rfl rfl (decide_eq_true hc116) ⟨(IM.le_refl _), (SubL.p0 (SubL.p0 (SubL.nil _)))⟩ ?_
                refine HoldJ.take_n 11 rfl (by kernel_rfl) rfl rfl rfl rfl (decide_eq_true hc116) ⟨(IM.le_refl _), (SubL.p0 (SubL.p0 (SubL.nil _)))⟩ ?_
                refine HoldJ.take_n 12 rfl (by kernel_rfl) rfl rfl rfl rfl (decide_eq_true hc116) ⟨(IM.le_refl _), (SubL.p0 (SubL.p0 (SubL.nil _)))⟩ ?_
                refine HoldJ.take_n 13 rfl (by kernel_rfl) rfl rfl rfl rfl (decide_eq_true hc116) ⟨(IM.le_refl _), (SubL.p0 (SubL.p0 (SubL.nil _)))⟩ ?_
                refine HoldJ.take_n 14 rfl (by kernel_rfl) rfl rfl rfl rfl (decide_eq_true hc116) ⟨(IM.le_refl _), (SubL.p0 (SubL.p0 (SubL.nil _)))⟩ ?_
                refine HoldJ.take_n 15 rfl (by kernel_rfl) rfl rfl rfl rfl (decide_eq_true hc116) ⟨(IM.le_refl _), (SubL.p0 (SubL.p0 (SubL.nil _)))⟩ ?_
                refine HoldJ.take_n 16 rfl (by kernel_rfl) rfl rfl rfl rfl (decide_eq_true hc116) ⟨(IM.le_refl _), (SubL.p0 (SubL.p0 (SubL.nil _)))⟩ ?_
                refine HoldJ.take_n 17 rfl (by kernel_rfl) rfl rfl rfl rfl (decide_eq_true hc116) ⟨(IM.le_refl _), (SubL.p0 (SubL.p0 (SubL.nil _)))⟩ ?_
                refine HoldJ.take_n 18 rfl (by kernel_rfl) rfl rfl rfl rfl (decide_eq_true hc116) ⟨(IM.le_refl _), (SubL.p0 (SubL.p0 (SubL.nil _)))⟩ ?_
                refine HoldJ.take_y 19 rfl (by kernel_rfl) rfl rfl rfl rfl hc115 (OpP.pick_t rfl (decide_eq_true hc116) rfl) ⟨(IM.le_refl _), (SubL.p0 (SubL.p0 (SubL.nil _)))⟩ ?_
                refine HoldJ.take 20 rfl (by kernel_rfl) rfl (OpP.pick_t rfl hc115 rfl) ⟨(IM.le_refl _), (SubL.p0 (SubL.p0 (SubL.nil _)))⟩ ?_
                refine HoldJ.take 21 rfl (by kernel_rfl) rfl (OpP.move rfl) ⟨(IM.le_refl _), (SubL.p0 (SubL.p0 (SubL.nil _)))⟩ ?_
                obtain ⟨y120, hy121, h122⟩ := bind_ok h114
                clear h114
                refine HoldJ.step_y 22 rfl (by kernel_rfl) rfl rfl rfl rfl rfl (OpJ.call0 rfl (fun R117 hle118 hin119 => winnowerlaw19_known_w R117   _ hy121) ?_)
                rintro _ _ _ ⟨rfl, rfl⟩
                refine ⟨⟨(IM.le_refl _), (SubL.p0 (SubL.p0 (SubL.nil _)))⟩, ?_⟩
                refine HoldJ.take 23 rfl (by kernel_rfl) rfl (OpP.pick_t rfl rfl rfl) ⟨(IM.le_refl _), (SubL.p0 (SubL.p0 (SubL.nil _)))⟩ ?_
                refine HoldJ.take 24 rfl (by kernel_rfl) rfl (OpP.assign rfl) ⟨(IM.le_refl _), (SubL.p0 (SubL.p0 (SubL.nil _)))⟩ ?_
                refine HoldJ.fin (by kernel_rfl) ?_
                refine CodeJ.ret' ?_
                obtain rfl := Option.some.inj h122
                exact Ret.mk0 ⟨rfl, rfl⟩ (ResJ.one Try.results4 rfl) (IM.le_refl _) (SubL.nil _)
              · rw [if_neg hc116] at h114
                refine HoldJ.take_y 8 rfl (by kernel_rfl) rfl rfl rfl rfl (decide_eq_false hc116) (OpP.move rfl) ⟨(IM.le_refl _), (SubL.p0 (SubL.p0 (SubL.nil _)))⟩ ?_
                obtain ⟨x123, hx124, h125⟩ := bind_ok h114
                clear h114
                have hE126 : ∀ j v, ([.int .i64 x123.1, .int .i64 x123.2.1, .int .i64 x123.2.2] : List Value)[j]? = some v → (cs24)[Int.toNat 0 * Dat.size (Int × Int × Int) + j]? = some v := row_getF (α := Int × Int × Int) hr25 hx124
                refine HoldJ.take_y 9 rfl (by kernel_rfl) rfl rfl rfl rfl (decide_eq_false hc116) (OpP.ixW (List.Mem.head _) hr25 rfl hx124 (by exact rfl) (by exact rfl) rfl rfl) ⟨(IM.le_refl _), (SubL.p0 (SubL.p0 (SubL.nil _)))⟩ ?_
                refine HoldJ.take_y 10 rfl (by kernel_rfl) rfl rfl rfl rfl (decide_eq_false hc116) (OpP.fldAddr rfl (by exact rfl)) ⟨(IM.le_refl _), (SubL.p0 (SubL.p0 (SubL.nil _)))⟩ ?_
                refine HoldJ.take_y 11 rfl (by kernel_rfl) rfl rfl rfl rfl (decide_eq_false hc116) (OpP.ldW (by exact rfl) (List.Mem.head _) hE126 rfl rfl) ⟨(IM.le_refl _), (SubL.p0 (SubL.p0 (SubL.nil _)))⟩ ?_
                refine HoldJ.take_y 12 rfl (by kernel_rfl) rfl rfl rfl rfl (decide_eq_false hc116) (OpP.move rfl) ⟨(IM.le_refl _), (SubL.p0 (SubL.p0 (SubL.nil _)))⟩ ?_
                have hE127 : ∀ j v, ([.int .i64 x123.1, .int .i64 x123.2.1, .int .i64 x123.2.2] : List Value)[j]? = some v → (cs24)[Int.toNat 0 * Dat.size (Int × Int × Int) + j]? = some v := row_getF (α := Int × Int × Int) hr25 hx124
                refine HoldJ.take_y 13 rfl (by kernel_rfl) rfl rfl rfl rfl (decide_eq_false hc116) (OpP.ixW (List.Mem.head _) hr25 rfl hx124 (by exact rfl) (by exact rfl) rfl rfl) ⟨(IM.le_refl _), (SubL.p0 (SubL.p0 (SubL.nil _)))⟩ ?_
                refine HoldJ.take_y 14 rfl (by kernel_rfl) rfl rfl rfl rfl (decide_eq_false hc116) (OpP.fldAddr rfl (by exact rfl)) ⟨(IM.le_refl _), (SubL.p0 (SubL.p0 (SubL.nil _)))⟩ ?_
                refine HoldJ.take_y 15 rfl (by kernel_rfl) rfl rfl rfl rfl (decide_eq_false hc116) (OpP.ldW (by exact rfl) (List.Mem.head _) hE127 rfl rfl) ⟨(IM.le_refl _), (SubL.p0 (SubL.p0 (SubL.nil _)))⟩ ?_
                refine HoldJ.take_y 16 rfl (by kernel_rfl) rfl rfl rfl rfl (decide_eq_false hc116) (OpP.add64 rfl rfl) ⟨(IM.le_refl _), (SubL.p0 (SubL.p0 (SubL.nil _)))⟩ ?_
                refine HoldJ.take_y 17 rfl (by kernel_rfl) rfl rfl rfl rfl (decide_eq_false hc116) (OpP.move rfl) ⟨(IM.le_refl _), (SubL.p0 (SubL.p0 (SubL.nil _)))⟩ ?_
                refine HoldJ.take_y 18 rfl (by kernel_rfl) rfl rfl rfl rfl (decide_eq_false hc116) (OpP.gtr rfl rfl) ⟨(IM.le_refl _), (SubL.p0 (SubL.p0 (SubL.nil _)))⟩ ?_
                refine HoldJ.take_y 19 rfl (by kernel_rfl) rfl rfl rfl rfl hc115 (OpP.pick_f rfl (decide_eq_false hc116) rfl) ⟨(IM.le_refl _), (SubL.p0 (SubL.p0 (SubL.nil _)))⟩ ?_
                refine HoldJ.take 20 rfl (by kernel_rfl) rfl (OpP.pick_t rfl hc115 rfl) ⟨(IM.le_refl _), (SubL.p0 (SubL.p0 (SubL.nil _)))⟩ ?_
                refine HoldJ.take 21 rfl (by kernel_rfl) rfl (OpP.move rfl) ⟨(IM.le_refl _), (SubL.p0 (SubL.p0 (SubL.nil _)))⟩ ?_
                by_cases hc128 : w64 (x123.2.1 + x123.2.2) > p1_n
                · rw [if_pos hc128] at h125
                  obtain ⟨y132, hy133, h134⟩ := bind_ok h125
                  clear h125
                  refine HoldJ.step_y 22 rfl (by kernel_rfl) rfl rfl rfl rfl (decide_eq_true hc128) (OpJ.call0 rfl (fun R129 hle130 hin131 => winnowerlaw19_known_w R129   _ hy133) ?_)
                  rintro _ _ _ ⟨rfl, rfl⟩
                  refine ⟨⟨(IM.le_refl _), (SubL.p0 (SubL.p0 (SubL.nil _)))⟩, ?_⟩
                  refine HoldJ.take 23 rfl (by kernel_rfl) rfl (OpP.pick_t rfl (decide_eq_true hc128) rfl) ⟨(IM.le_refl _), (SubL.p0 (SubL.p0 (SubL.nil _)))⟩ ?_
                  refine HoldJ.take 24 rfl (by kernel_rfl) rfl (OpP.assign rfl) ⟨(IM.le_refl _), (SubL.p0 (SubL.p0 (SubL.nil _)))⟩ ?_
                  refine HoldJ.fin (by kernel_rfl) ?_
                  refine CodeJ.ret' ?_
                  obtain rfl := Option.some.inj h134
                  exact Ret.mk0 ⟨rfl, rfl⟩ (ResJ.one Try.results4 rfl) (IM.le_refl _) (SubL.nil _)
                · rw [if_neg hc128] at h125
                  refine HoldJ.take_n 22 rfl (by kernel_rfl) rfl rfl rfl rfl (decide_eq_false hc128) ⟨(IM.le_refl _), (SubL.p0 (SubL.p0 (SubL.nil _)))⟩ ?_
                  refine HoldJ.take 23 rfl (by kernel_rfl) rfl (OpP.pick_f rfl (decide_eq_false hc128) rfl) ⟨(IM.le_refl _), (SubL.p0 (SubL.p0 (SubL.nil _)))⟩ ?_
                  refine HoldJ.take 24 rfl (by kernel_rfl) rfl (OpP.assign rfl) ⟨(IM.le_refl _), (SubL.p0 (SubL.p0 (SubL.nil _)))⟩ ?_
                  refine HoldJ.fin (by kernel_rfl) ?_
                  refine CodeJ.ret' ?_
                  obtain rfl := Option.some.inj h125
                  exact Ret.mk0 ⟨rfl, rfl⟩ (ResJ.one Try.results4 rfl) (IM.le_refl _) (SubL.nil _)
            · rw [if_neg hc115] at h114
              refine HoldJ.take_n 4 rfl (by kernel_rfl) rfl rfl rfl rfl (Bool.eq_false_iff.2 hc115) ⟨(IM.le_refl _), (SubL.p0 (SubL.p0 (SubL.nil _)))⟩ ?_
              refine HoldJ.take_n 5 rfl (by kernel_rfl) rfl rfl rfl rfl (Bool.eq_false_iff.2 hc115) ⟨(IM.le_refl _), (SubL.p0 (SubL.p0 (SubL.nil _)))⟩ ?_
              refine HoldJ.take_n 6 rfl (by kernel_rfl) rfl rfl rfl rfl (Bool.eq_false_iff.2 hc115) ⟨(IM.le_refl _), (SubL.p0 (SubL.p0 (SubL.nil _)))⟩ ?_
              refine HoldJ.take_n 7 rfl (by kernel_rfl) rfl rfl rfl rfl (Bool.eq_false_iff.2 hc115) ⟨(IM.le_refl _), (SubL.p0 (SubL.p0 (SubL.nil _)))⟩ ?_
              refine HoldJ.take_u 8 rfl (by kernel_rfl) rfl rfl rfl rfl ⟨(IM.le_refl _), (SubL.p0 (SubL.p0 (SubL.nil _)))⟩ ?_
              refine HoldJ.take_u 9 rfl (by kernel_rfl) rfl rfl rfl rfl ⟨(IM.le_refl _), (SubL.p0 (SubL.p0 (SubL.nil _)))⟩ ?_
              refine HoldJ.take_u 10 rfl (by kernel_rfl) rfl rfl rfl rfl ⟨(IM.le_refl _), (SubL.p0 (SubL.p0 (SubL.nil _)))⟩ ?_
              refine HoldJ.take_u 11 rfl (by kernel_rfl) rfl rfl rfl rfl ⟨(IM.le_refl _), (SubL.p0 (SubL.p0 (SubL.nil _)))⟩ ?_
              refine HoldJ.take_u 12 rfl (by kernel_rfl) rfl rfl rfl rfl ⟨(IM.le_refl _), (SubL.p0 (SubL.p0 (SubL.nil _)))⟩ ?_
              refine HoldJ.take_u 13 rfl (by kernel_rfl) rfl rfl rfl rfl ⟨(IM.le_refl _), (SubL.p0 (SubL.p0 (SubL.nil _)))⟩ ?_
              refine HoldJ.take_u 14 rfl (by kernel_rfl) rfl rfl rfl rfl ⟨(IM.le_refl _), (SubL.p0 (SubL.p0 (SubL.nil _)))⟩ ?_
              refine HoldJ.take_u 15 rfl (by kernel_rfl) rfl rfl rfl rfl ⟨(IM.le_refl _), (SubL.p0 (SubL.p0 (SubL.nil _)))⟩ ?_
              refine HoldJ.take_u 16 rfl (by kernel_rfl) rfl rfl rfl rfl ⟨(IM.le_refl _), (SubL.p0 (SubL.p0 (SubL.nil _)))⟩ ?_
              refine HoldJ.take_u 17 rfl (by kernel_rfl) rfl rfl rfl rfl ⟨(IM.le_refl _), (SubL.p0 (SubL.p0 (SubL.nil _)))⟩ ?_
              refine HoldJ.take_u 18 rfl (by kernel_rfl) rfl rfl rfl rfl ⟨(IM.le_refl _), (SubL.p0 (SubL.p0 (SubL.nil _)))⟩ ?_
              refine HoldJ.take_n 19 rfl (by kernel_rfl) rfl rfl rfl rfl (Bool.eq_false_iff.2 hc115) ⟨(IM.le_refl _), (SubL.p0 (SubL.p0 (SubL.nil _)))⟩ ?_
              refine HoldJ.take 20 rfl (by kernel_rfl) rfl (OpP.pick_f rfl (Bool.eq_false_iff.2 hc115) rfl) ⟨(IM.le_refl _), (SubL.p0 (SubL.p0 (SubL.nil _)))⟩ ?_
              refine HoldJ.take 21 rfl (by kernel_rfl) rfl (OpP.move rfl) ⟨(IM.le_refl _), (SubL.p0 (SubL.p0 (SubL.nil _)))⟩ ?_
              refine HoldJ.take_n 22 rfl (by kernel_rfl) rfl rfl rfl rfl rfl ⟨(IM.le_refl _), (SubL.p0 (SubL.p0 (SubL.nil _)))⟩ ?_
              refine HoldJ.take 23 rfl (by kernel_rfl) rfl (OpP.pick_f rfl rfl rfl) ⟨(IM.le_refl _), (SubL.p0 (SubL.p0 (SubL.nil _)))⟩ ?_
              refine HoldJ.take 24 rfl (by kernel_rfl) rfl (OpP.assign rfl) ⟨(IM.le_refl _), (SubL.p0 (SubL.p0 (SubL.nil _)))⟩ ?_
              refine HoldJ.fin (by kernel_rfl) ?_
              refine CodeJ.ret' ?_
              obtain rfl := Option.some.inj h114
              exact Ret.mk0 ⟨rfl, rfl⟩ (ResJ.one Try.results4 rfl) (IM.le_refl _) (SubL.nil _)
    · rw [if_neg hc8] at h7
      refine OpsJ.guard_n rfl rfl rfl rfl (congrArg Bool.not (Bool.eq_false_iff.2 hc8)) ?_
      refine OpsJ.guard_n rfl rfl rfl rfl (congrArg Bool.not (Bool.eq_false_iff.2 hc8)) ?_
      refine OpsJ.put rfl (OpJ.pure (OpP.pick_t rfl (congrArg Bool.not (Bool.eq_false_iff.2 hc8)) rfl) ?_)
      refine OpsJ.put rfl (OpJ.pure (OpP.move rfl) ?_)
      refine OpsJ.guard_n rfl rfl rfl rfl rfl ?_
      refine OpsJ.guard_n rfl rfl rfl rfl rfl ?_
      refine OpsJ.put rfl (OpJ.pure (OpP.pick_t rfl rfl rfl) ?_)
      refine OpsJ.nil ?_
      refine CodeJ.cond_t rfl rfl ?_
      refine CodeJ.seq' ?_
      refine CodeJ.region ?_
      refine OpsJ.put rfl (OpJ.pure (OpP.assign rfl) ?_)
      refine OpsJ.nil ?_
      refine CodeJ.ret' ?_
      obtain rfl := Option.some.inj h7
      exact Ret.mk0 ⟨rfl, rfl⟩ (ResJ.one Try.results4 rfl) (IM.le_refl _) (SubL.nil _)
end Go.Proofs.Ytcbnamlioeiaeaa.FW
