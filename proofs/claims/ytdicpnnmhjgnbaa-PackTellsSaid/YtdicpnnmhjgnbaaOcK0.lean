/- printed by ex.py: walks -/
import Derived.Test.YtdicpnnmhjgnbaaX6
import Derived.Test.YtdicpnnmhjgnbaaT2
import Derived.Test.YtdicpnnmhjgnbaaOcQ
namespace Go.Proofs.Ytdicpnnmhjgnbaa.FW
open Go Go.RowKit Go.Proofs
set_option linter.unusedVariables false
set_option linter.unusedSimpArgs false
set_option maxRecDepth 100000
set_option maxHeartbeats 4000000
attribute [local irreducible] OpsJ CodeJ OpJ OpQ OpP QuietJ CallJ HoldJ StepAt Src RC SlR repL
theorem octet_Writer_Nums_w (R : IM) (g0_ : Nat) (p0_w : List UInt8) (A0_1_ : Option Addr) (c0_2_ : Nat) (cs0_3_ : List Value) (hr0_4_ : repL IM.nil cs0_3_ p0_w) (A1_ : Option Addr) (n1_ c1_ : Nat) (p1_v : List Int) (hA1_ : SlR R A1_ p1_v) (hn1_ : p1_v.length = n1_) (hc1_ : n1_ ≤ c1_) (y : (List UInt8)) (h : octet_Writer_Nums p0_w p1_v = some y) :
    CallJ Try.prog 17 #[.pointer (some ⟨g0_, 0, none⟩), .slice A1_ n1_ c1_] ⟨R, [.blk g0_ [.slice A0_1_ p0_w.length c0_2_] 25, .row 5 1 A0_1_ p0_w.length c0_2_ cs0_3_]⟩ (fun v D hs' => ∃ (B1 : Option Addr) (d2 : Nat) (ds3 : List Value), v = .tuple #[] ∧ repL IM.nil ds3 y ∧ hs' = [.blk g0_ [.slice B1 y.length d2] 25, .row 5 1 B1 y.length d2 ds3]) := by
  subst hn1_
  unfold octet_Writer_Nums at h
  refine CallJ.of2 Try.func17 rfl Try.ntmps17 rfl (fun W0 => ?_)
  refine CodeJ.tail ?_
  refine CodeJ.seq' ?_
  refine CodeJ.seq' ?_
  refine CodeJ.region ?_
  refine OpsJ.put rfl (OpJ.pure (OpP.move rfl) ?_)
  refine OpsJ.put rfl (OpJ.pure (OpP.eql_nil rfl rfl) ?_)
  refine OpsJ.nil ?_
  refine CodeJ.cond_f rfl rfl ?_
  refine CodeJ.skip ?_
  refine CodeJ.seq' ?_
  refine CodeJ.region ?_
  refine OpsJ.put rfl (OpJ.pure (OpP.move rfl) ?_)
  refine OpsJ.put rfl (OpJ.pure (OpP.len rfl) ?_)
  refine OpsJ.put rfl (OpJ.pure (OpP.move rfl) ?_)
  refine OpsJ.nil ?_
  obtain ⟨t283, hl284, h285⟩ := bind_ok h
  clear h
  refine CodeJ.midF (fun e s => ∃ (A276 : Option Addr) (c277 : Nat) (cs278 : List Value) (f275 : List UInt8), f275 = t283 ∧ repL IM.nil cs278 f275 ∧ e = [(0, .pointer (some ⟨g0_, 0, none⟩))] ∧ s = ⟨R, [.blk g0_ [.slice A276 f275.length c277] 25, .row 5 1 A276 f275.length c277 cs278]⟩) ?_ ?_
  · refine CodeJ.block ?_
    refine CodeJ.loopM hl284 (fun (v182, f183) e s => ∃ (A184 : Option Addr) (c185 : Nat) (cs186 : List Value), repL IM.nil cs186 f183 ∧ e = [(0, .pointer (some ⟨g0_, 0, none⟩)), (9, .slice A1_ p1_v.length c1_), (10, .int .i64 ((p1_v.length : Nat) : Int)), (11, .int .i64 v182)] ∧ s = ⟨R, [.blk g0_ [.slice A184 f183.length c185] 25, .row 5 1 A184 f183.length c185 cs186]⟩) ⟨A0_1_, c0_2_, cs0_3_, hr0_4_, rfl, rfl⟩ (SubE.cons rfl (SubE.cons rfl (SubE.cons rfl (SubE.cons rfl (SubE.nil _))))) (SubL.p0 (SubL.p0 (SubL.nil _))) ?_
    rintro ⟨v182, f183⟩ _ _ _ ⟨A184, c185, cs186, hr187, rfl, rfl⟩ h281 hne282
    (try dsimp only at h281); unfold octet_Writer_Nums_l1 at h281
    refine CodeJ.seq' ?_
    refine CodeJ.region ?_
    refine OpsJ.put rfl (OpJ.pure (OpP.lss rfl rfl) ?_)
    refine OpsJ.nil ?_
    refine CodeJ.seq' ?_
    by_cases hc286 : v182 < ((p1_v.length : Nat) : Int)
    · rw [if_pos hc286] at h281
      refine CodeJ.cond_t rfl (decide_eq_true hc286) ?_
      refine CodeJ.skip ?_
      refine CodeJ.seq' ?_
      refine CodeJ.block ?_
      refine CodeJ.seq' ?_
      refine CodeJ.region ?_
      obtain ⟨x287, hx288, h289⟩ := bind_ok h281
      clear h281
      have hE290 : RC _ (some ((adr A1_).add (Int.toNat v182 * Dat.size Int))) [.int .i64 x287] := SlR.getF (α := Int) hA1_ hx288
      refine OpsJ.put rfl (OpJ.pure (OpP.ixR hA1_ rfl hx288 (by exact rfl) (by exact rfl) rfl rfl) ?_)
      refine OpsJ.put rfl (OpJ.pure (OpP.ldR0 (by exact rfl) hE290 (IM.le_refl _) rfl rfl) ?_)
      refine OpsJ.put rfl (OpJ.pure (OpP.assign rfl) ?_)
      refine OpsJ.nil ?_
      refine CodeJ.seq' ?_
      refine CodeJ.region ?_
      refine OpsJ.put rfl (OpJ.pure (OpP.move rfl) ?_)
      refine OpsJ.put rfl (OpJ.pure (OpP.min rfl rfl) ?_)
      refine OpsJ.put rfl (OpJ.pure (OpP.max rfl rfl) ?_)
      refine OpsJ.put rfl (OpJ.pure (OpP.toU64 rfl) ?_)
      refine OpsJ.put rfl (OpJ.pure (OpP.assign rfl) ?_)
      refine OpsJ.nil ?_
      refine CodeJ.seq' ?_
      obtain ⟨t347, hl348, h349⟩ := bind_ok h289
      clear h289
      refine CodeJ.mid (fun e s => ∃ (A340 : Option Addr) (c341 : Nat) (cs342 : List Value) (u_338 : UInt64) (f339 : List UInt8), (u_338, f339) = t347 ∧ repL IM.nil cs342 f339 ∧ e = [(0, .pointer (some ⟨g0_, 0, none⟩)), (6, .int .u64 ((u_338.toNat : Nat) : Int)), (9, .slice A1_ p1_v.length c1_), (10, .int .i64 ((p1_v.length : Nat) : Int)), (11, .int .i64 v182)] ∧ s = ⟨R, [.blk g0_ [.slice A340 f339.length c341] 25, .row 5 1 A340 f339.length c341 cs342]⟩) ?_ ?_
      · refine CodeJ.block ?_
        refine CodeJ.loopM hl348 (fun (u_320, f321) e s => ∃ (A322 : Option Addr) (c323 : Nat) (cs324 : List Value), repL IM.nil cs324 f321 ∧ e = [(0, .pointer (some ⟨g0_, 0, none⟩)), (6, .int .u64 ((u_320.toNat : Nat) : Int)), (9, .slice A1_ p1_v.length c1_), (10, .int .i64 ((p1_v.length : Nat) : Int)), (11, .int .i64 v182)] ∧ s = ⟨R, [.blk g0_ [.slice A322 f321.length c323] 25, .row 5 1 A322 f321.length c323 cs324]⟩) ⟨A184, c185, cs186, hr187, rfl, rfl⟩ (SubE.cons rfl (SubE.cons rfl (SubE.cons rfl (SubE.cons rfl (SubE.cons rfl (SubE.nil _)))))) (SubL.p0 (SubL.p0 (SubL.nil _))) ?_
        rintro ⟨u_320, f321⟩ _ _ _ ⟨A322, c323, cs324, hr325, rfl, rfl⟩ h345 hne346
        (try dsimp only at h345); unfold octet_Writer_Nums_l0 at h345
        refine CodeJ.seq' ?_
        refine CodeJ.seq' ?_
        refine CodeJ.region ?_
        refine OpsJ.put rfl (OpJ.pure (OpP.move rfl) ?_)
        refine OpsJ.put rfl (OpJ.pure (OpP.geq rfl rfl) ?_)
        refine OpsJ.nil ?_
        by_cases hc350 : ((u_320.toNat : Nat) : Int) ≥ (((128 : UInt64).toNat : Nat) : Int)
        · rw [if_pos hc350] at h345
          refine CodeJ.cond_t rfl (decide_eq_true hc350) ?_
          refine CodeJ.skip ?_
          refine CodeJ.seq' ?_
          refine CodeJ.block ?_
          refine CodeJ.region ?_
          refine OpsJ.put rfl (OpJ.pure (OpP.move rfl) ?_)
          refine OpsJ.put rfl (OpJ.pure (OpP.move rfl) ?_)
          refine OpsJ.put rfl (OpJ.pure (OpP.nilCheck rfl) ?_)
          refine OpsJ.put rfl (OpJ.pure (OpP.fldAddr_lit rfl (by exact rfl)) ?_)
          refine OpsJ.put rfl (OpJ.pure (OpP.load_blk (by exact rfl) rfl (List.Mem.head _) rfl) ?_)
          refine OpsJ.put rfl (OpJ.pure (OpP.move rfl) ?_)
          refine OpsJ.put rfl (OpJ.pure (OpP.toU8 rfl) ?_)
          refine OpsJ.put rfl (OpJ.pure (OpP.orU8 (a := (ofI8 ((u_320.toNat : Nat) : Int))) (b := (128 : UInt8)) rfl rfl) ?_)
          have hr352 : repL IM.nil [.int .u8 ((((ofI8 ((u_320.toNat : Nat) : Int)) ||| (128 : UInt8)).toNat : Nat) : Int)] ([((ofI8 ((u_320.toNat : Nat) : Int)) ||| (128 : UInt8))] : List UInt8) := (repL_cons (c1 := [.int .u8 ((((ofI8 ((u_320.toNat : Nat) : Int)) ||| (128 : UInt8)).toNat : Nat) : Int)]) (show Dat.rep _ _ ((ofI8 ((u_320.toNat : Nat) : Int)) ||| (128 : UInt8)) from rfl) (repL_nil _))
          refine OpsJ.put rfl (OpJ.buildSliceC (cs := [.int .u8 ((((ofI8 ((u_320.toNat : Nat) : Int)) ||| (128 : UInt8)).toNat : Nat) : Int)]) rfl rfl (by exact rfl) (by exact rfl) (by exact rfl) (by exact rfl) (fun g351 => ?_))
          obtain ⟨q354, hq355, h356⟩ := bind_ok h345
          clear h345
          have hr359 : repL IM.nil (cs324 ++ ([.int .u8 ((((ofI8 ((u_320.toNat : Nat) : Int)) ||| (128 : UInt8)).toNat : Nat) : Int)] : List Value)) q354 := app_rep hq355 hr325 hr352
          refine OpsJ.put rfl (OpJ.appW hq355 rfl rfl (Src.ofRow (List.Mem.head _)) hr352 (by exact rfl) (permm2 _ _ _ _) (by exact rfl) (by exact rfl) (by exact rfl) rfl rfl (fun A357 c358 => ?_))
          refine OpsJ.put rfl (OpJ.pure (OpP.nilCheck rfl) ?_)
          refine OpsJ.put rfl (OpJ.pure (OpP.fldAddr_lit rfl (by exact rfl)) ?_)
          refine OpsJ.act (OpJ.storeC (us := [.slice A357 q354.length c358]) (cs := [.slice A357 q354.length c358]) rfl rfl rfl (permm2 _ _ _ _) (by exact rfl) rfl rfl rfl ?_)
          refine OpsJ.nil ?_
          refine CodeJ.region ?_
          refine OpsJ.put rfl (OpJ.pure (OpP.move rfl) ?_)
          refine OpsJ.put rfl (OpJ.pure (OpP.shrU64 (a := u_320) (m := 7) rfl rfl rfl) ?_)
          refine OpsJ.put rfl (OpJ.pure (OpP.assign rfl) ?_)
          refine OpsJ.nil ?_
          obtain rfl := Option.some.inj h356
          exact ⟨_, _, _, _, rfl, ⟨A357, c358, (cs324 ++ ([.int .u8 ((((ofI8 ((u_320.toNat : Nat) : Int)) ||| (128 : UInt8)).toNat : Nat) : Int)] : List Value)), hr359, rfl, rfl⟩, IM.le_refl _, (SubE.cons rfl (SubE.cons rfl (SubE.cons rfl (SubE.cons rfl (SubE.cons rfl (SubE.nil _)))))), (SubL.p0 (SubL.p0 (SubL.nil _)))⟩
        · rw [if_neg hc350] at h345
          refine CodeJ.cond_f rfl (decide_eq_false hc350) ?_
          refine CodeJ.exit rfl ?_
          obtain rfl := Option.some.inj h345
          have ht361 := hne346 _ rfl
          exact ⟨_, _, _, ⟨A322, c323, cs324, u_320, f321, ht361, hr325, rfl, rfl⟩, IM.le_refl _, (SubE.cons rfl (SubE.cons rfl (SubE.cons rfl (SubE.cons rfl (SubE.cons rfl (SubE.nil _)))))), (SubL.p0 (SubL.p0 (SubL.nil _)))⟩
      · rintro _ _ ⟨A340, c341, cs342, u_338, f339, rfl, hr343, rfl, rfl⟩
        (try dsimp only at h349)
        refine CodeJ.region ?_
        refine OpsJ.put rfl (OpJ.pure (OpP.move rfl) ?_)
        refine OpsJ.put rfl (OpJ.pure (OpP.move rfl) ?_)
        refine OpsJ.put rfl (OpJ.pure (OpP.nilCheck rfl) ?_)
        refine OpsJ.put rfl (OpJ.pure (OpP.fldAddr_lit rfl (by exact rfl)) ?_)
        refine OpsJ.put rfl (OpJ.pure (OpP.load_blk (by exact rfl) rfl (List.Mem.head _) rfl) ?_)
        refine OpsJ.put rfl (OpJ.pure (OpP.move rfl) ?_)
        refine OpsJ.put rfl (OpJ.pure (OpP.toU8 rfl) ?_)
        have hr363 : repL IM.nil [.int .u8 (((ofI8 ((u_338.toNat : Nat) : Int)).toNat : Nat) : Int)] ([(ofI8 ((u_338.toNat : Nat) : Int))] : List UInt8) := (repL_cons (c1 := [.int .u8 (((ofI8 ((u_338.toNat : Nat) : Int)).toNat : Nat) : Int)]) (show Dat.rep _ _ (ofI8 ((u_338.toNat : Nat) : Int)) from rfl) (repL_nil _))
        refine OpsJ.put rfl (OpJ.buildSliceC (cs := [.int .u8 (((ofI8 ((u_338.toNat : Nat) : Int)).toNat : Nat) : Int)]) rfl rfl (by exact rfl) (by exact rfl) (by exact rfl) (by exact rfl) (fun g362 => ?_))
        obtain ⟨q365, hq366, h367⟩ := bind_ok h349
        clear h349
        have hr370 : repL IM.nil (cs342 ++ ([.int .u8 (((ofI8 ((u_338.toNat : Nat) : Int)).toNat : Nat) : Int)] : List Value)) q365 := app_rep hq366 hr343 hr363
        refine OpsJ.put rfl (OpJ.appW hq366 rfl rfl (Src.ofRow (List.Mem.head _)) hr363 (by exact rfl) (permm2 _ _ _ _) (by exact rfl) (by exact rfl) (by exact rfl) rfl rfl (fun A368 c369 => ?_))
        refine OpsJ.put rfl (OpJ.pure (OpP.nilCheck rfl) ?_)
        refine OpsJ.put rfl (OpJ.pure (OpP.fldAddr_lit rfl (by exact rfl)) ?_)
        refine OpsJ.act (OpJ.storeC (us := [.slice A368 q365.length c369]) (cs := [.slice A368 q365.length c369]) rfl rfl rfl (permm2 _ _ _ _) (by exact rfl) rfl rfl rfl ?_)
        refine OpsJ.nil ?_
        refine CodeJ.region ?_
        refine OpsJ.put rfl (OpJ.pure (OpP.add64 rfl rfl) ?_)
        refine OpsJ.put rfl (OpJ.pure (OpP.move rfl) ?_)
        refine OpsJ.nil ?_
        obtain rfl := Option.some.inj h367
        exact ⟨_, _, _, _, rfl, ⟨A368, c369, (cs342 ++ ([.int .u8 (((ofI8 ((u_338.toNat : Nat) : Int)).toNat : Nat) : Int)] : List Value)), hr370, rfl, rfl⟩, IM.le_refl _, (SubE.cons rfl (SubE.cons rfl (SubE.cons rfl (SubE.cons rfl (SubE.nil _))))), (SubL.p0 (SubL.p0 (SubL.nil _)))⟩
    · rw [if_neg hc286] at h281
      refine CodeJ.cond_f rfl (decide_eq_false hc286) ?_
      refine CodeJ.exit rfl ?_
      obtain rfl := Option.some.inj h281
      have ht372 := hne282 _ rfl
      exact ⟨_, _, _, ⟨A184, c185, cs186, f183, ht372, hr187, rfl, rfl⟩, IM.le_refl _, (SubE.cons rfl (SubE.nil _)), (SubL.p0 (SubL.p0 (SubL.nil _)))⟩
  · rintro _ _ ⟨A276, c277, cs278, f275, rfl, hr279, rfl, rfl⟩
    (try dsimp only at h285)
    refine FinJ.ret' ?_
    obtain rfl := Option.some.inj h285
    exact Ret.mk0 ⟨A276, c277, cs278, rfl, hr279, rfl⟩ (ResJ.none Try.results17) (IM.le_refl _) (SubL.p0 (SubL.p0 (SubL.nil _)))
theorem winnowerlaw1_same_w (R : IM) (A0_ : Option Addr) (n0_ c0_ : Nat) (p0_a : List UInt8) (hA0_ : SlR R A0_ p0_a) (hn0_ : p0_a.length = n0_) (hc0_ : n0_ ≤ c0_) (A1_ : Option Addr) (n1_ c1_ : Nat) (p1_b : List UInt8) (hA1_ : SlR R A1_ p1_b) (hn1_ : p1_b.length = n1_) (hc1_ : n1_ ≤ c1_) (y : Bool) (h : winnowerlaw1_same p0_a p1_b = some y) :
    CallJ Try.prog 19 #[.slice A0_ n0_ c0_, .slice A1_ n1_ c1_] ⟨R, []⟩ (fun v D hs' => v = .bool y ∧ hs' = []) := by
  subst hn0_
  subst hn1_
  unfold winnowerlaw1_same at h
  refine CallJ.of2 Try.func19 rfl Try.ntmps19 rfl (fun W0 => ?_)
  refine CodeJ.seq' ?_
  refine CodeJ.region ?_
  refine OpsJ.put rfl (OpJ.pure (OpP.assign rfl) ?_)
  refine OpsJ.nil ?_
  refine CodeJ.seq' ?_
  refine CodeJ.seq' ?_
  refine CodeJ.region ?_
  refine OpsJ.put rfl (OpJ.pure (OpP.move rfl) ?_)
  refine OpsJ.put rfl (OpJ.pure (OpP.len rfl) ?_)
  refine OpsJ.put rfl (OpJ.pure (OpP.move rfl) ?_)
  refine OpsJ.put rfl (OpJ.pure (OpP.len rfl) ?_)
  refine OpsJ.put rfl (OpJ.pure (OpP.neq rfl rfl) ?_)
  refine OpsJ.nil ?_
  by_cases hc1 : ((p0_a.length : Nat) : Int) ≠ ((p1_b.length : Nat) : Int)
  · rw [if_pos hc1] at h
    refine CodeJ.cond_t rfl (decide_eq_true hc1) ?_
    refine CodeJ.seq' ?_
    refine CodeJ.region ?_
    refine OpsJ.put rfl (OpJ.pure (OpP.assign rfl) ?_)
    refine OpsJ.nil ?_
    refine CodeJ.ret' ?_
    obtain rfl := Option.some.inj h
    exact Ret.mk0 ⟨rfl, rfl⟩ (ResJ.one Try.results19 rfl) (IM.le_refl _) (SubL.nil _)
  · rw [if_neg hc1] at h
    refine CodeJ.cond_f rfl (decide_eq_false hc1) ?_
    refine CodeJ.skip ?_
    refine CodeJ.seq' ?_
    refine CodeJ.seq' ?_
    refine CodeJ.region ?_
    refine OpsJ.put rfl (OpJ.pure (OpP.assign rfl) ?_)
    refine OpsJ.nil ?_
    obtain ⟨t38, hl39, h40⟩ := bind_ok h
    clear h
    refine CodeJ.mid (fun e s => .inr () = t38 ∧ e = [] ∧ s = ⟨R, []⟩) ?_ ?_
    · refine CodeJ.block ?_
      refine CodeJ.loopM hl39 (fun i_25 e s => e = [(0, .slice A0_ p0_a.length c0_), (1, .slice A1_ p1_b.length c1_), (5, .int .i64 i_25)] ∧ s = ⟨R, []⟩) ⟨rfl, rfl⟩ (SubE.cons rfl (SubE.cons rfl (SubE.cons rfl (SubE.nil _)))) (SubL.nil _) ?_
      rintro i_25 _ _ _ ⟨rfl, rfl⟩ h36 hne37
      (try dsimp only at h36); unfold winnowerlaw1_same_l0 at h36
      refine CodeJ.seq' ?_
      refine CodeJ.seq' ?_
      refine CodeJ.region ?_
      refine OpsJ.put rfl (OpJ.pure (OpP.move rfl) ?_)
      refine OpsJ.put rfl (OpJ.pure (OpP.move rfl) ?_)
      refine OpsJ.put rfl (OpJ.pure (OpP.len rfl) ?_)
      refine OpsJ.put rfl (OpJ.pure (OpP.lss rfl rfl) ?_)
      refine OpsJ.nil ?_
      by_cases hc41 : i_25 < ((p0_a.length : Nat) : Int)
      · rw [if_pos hc41] at h36
        refine CodeJ.cond_t rfl (decide_eq_true hc41) ?_
        refine CodeJ.skip ?_
        refine CodeJ.seq' ?_
        refine CodeJ.block ?_
        refine CodeJ.seq' ?_
        refine CodeJ.drawn (by kernel_rfl) (by kernel_rfl) ?_
        refine QuietJ.put rfl (OpQ.pure (OpP.move rfl) ?_)
        refine QuietJ.put rfl (OpQ.pure (OpP.move rfl) ?_)
        obtain ⟨x42, hx43, h44⟩ := bind_ok h36
        clear h36
        have hE45 : RC _ (some ((adr A0_).add (Int.toNat i_25 * Dat.size UInt8))) [.int .u8 ((x42.toNat : Nat) : Int)] := SlR.getF (α := UInt8) hA0_ hx43
        refine QuietJ.put rfl (OpQ.pure (OpP.ixR hA0_ rfl hx43 (by exact rfl) (by exact rfl) rfl rfl) ?_)
        refine QuietJ.put rfl (OpQ.pure (OpP.ldR0 (by exact rfl) hE45 (IM.le_refl _) rfl rfl) ?_)
        refine QuietJ.put rfl (OpQ.pure (OpP.move rfl) ?_)
        refine QuietJ.put rfl (OpQ.pure (OpP.move rfl) ?_)
        obtain ⟨x46, hx47, h48⟩ := bind_ok h44
        clear h44
        have hE49 : RC _ (some ((adr A1_).add (Int.toNat i_25 * Dat.size UInt8))) [.int .u8 ((x46.toNat : Nat) : Int)] := SlR.getF (α := UInt8) hA1_ hx47
        refine QuietJ.put rfl (OpQ.pure (OpP.ixR hA1_ rfl hx47 (by exact rfl) (by exact rfl) rfl rfl) ?_)
        refine QuietJ.put rfl (OpQ.pure (OpP.ldR0 (by exact rfl) hE49 (IM.le_refl _) rfl rfl) ?_)
        refine QuietJ.put rfl (OpQ.pure (OpP.neq rfl rfl) ?_)
        refine QuietJ.nil ?_
        by_cases hc50 : ((x42.toNat : Nat) : Int) ≠ ((x46.toNat : Nat) : Int)
        · rw [if_pos hc50] at h48
          refine CodeJ.cond_t rfl (decide_eq_true hc50) ?_
          refine CodeJ.seq' ?_
          refine CodeJ.region ?_
          refine OpsJ.put rfl (OpJ.pure (OpP.assign rfl) ?_)
          refine OpsJ.nil ?_
          obtain rfl := Option.some.inj h48
          have ht51 := hne37 _ rfl
          subst ht51
          simp only [Sum.elim_inl] at h40
          refine CodeJ.ret' ?_
          obtain rfl := Option.some.inj h40
          exact Ret.mk0 ⟨rfl, rfl⟩ (ResJ.one Try.results19 rfl) (IM.le_refl _) (SubL.nil _)
        · rw [if_neg hc50] at h48
          refine CodeJ.cond_f rfl (decide_eq_false hc50) ?_
          refine CodeJ.skip ?_
          refine CodeJ.region ?_
          refine OpsJ.put rfl (OpJ.pure (OpP.move rfl) ?_)
          refine OpsJ.put rfl (OpJ.pure (OpP.add64 rfl rfl) ?_)
          refine OpsJ.put rfl (OpJ.pure (OpP.assign rfl) ?_)
          refine OpsJ.nil ?_
          obtain rfl := Option.some.inj h48
          exact ⟨_, _, _, _, rfl, ⟨rfl, rfl⟩, IM.le_refl _, (SubE.cons rfl (SubE.cons rfl (SubE.cons rfl (SubE.nil _)))), (SubL.nil _)⟩
      · rw [if_neg hc41] at h36
        refine CodeJ.cond_f rfl (decide_eq_false hc41) ?_
        refine CodeJ.exit rfl ?_
        obtain rfl := Option.some.inj h36
        have ht54 := hne37 _ rfl
        exact ⟨_, _, _, ⟨ht54, rfl, rfl⟩, IM.le_refl _, (SubE.nil _), (SubL.nil _)⟩
    · rintro _ _ ⟨rfl, rfl, rfl⟩
      simp only [Sum.elim_inr] at h40
      refine CodeJ.seq' ?_
      refine CodeJ.region ?_
      refine OpsJ.put rfl (OpJ.pure (OpP.assign rfl) ?_)
      refine OpsJ.nil ?_
      refine CodeJ.ret' ?_
      obtain rfl := Option.some.inj h40
      exact Ret.mk0 ⟨rfl, rfl⟩ (ResJ.one Try.results19 rfl) (IM.le_refl _) (SubL.nil _)
theorem winnowerlaw1_spoil_w (R : IM) (A0_ : Option Addr) (n0_ c0_ : Nat) (cs0_ : List Value) (p0_b : List UInt8) (hr0_ : repL IM.nil cs0_ p0_b) (hn0_ : p0_b.length = n0_) (y : Unit) (h : winnowerlaw1_spoil p0_b = some y) :
    CallJ Try.prog 22 #[.slice A0_ n0_ c0_] ⟨R, [.row 5 1 A0_ n0_ c0_ cs0_]⟩ (fun v D hs' => v = .tuple #[] ∧ hs' = []) := by
  subst hn0_
  unfold winnowerlaw1_spoil at h
  refine CallJ.of1 Try.func22 rfl Try.ntmps22 rfl (fun W0 => ?_)
  refine CodeJ.tail ?_
  refine CodeJ.seq' ?_
  refine CodeJ.region ?_
  refine OpsJ.put rfl (OpJ.pure (OpP.move rfl) ?_)
  have hr3 : repL IM.nil [.int .u8 (((99 : UInt8).toNat : Nat) : Int)] ([(99 : UInt8)] : List UInt8) := (repL_cons (c1 := [.int .u8 (((99 : UInt8).toNat : Nat) : Int)]) (show Dat.rep _ _ (99 : UInt8) from rfl) (repL_nil _))
  refine OpsJ.put rfl (OpJ.buildSliceC (cs := [.int .u8 (((99 : UInt8).toNat : Nat) : Int)]) rfl rfl (by exact rfl) (by exact rfl) (by exact rfl) (by exact rfl) (fun g2 => ?_))
  obtain ⟨q5, hq6, h7⟩ := bind_ok h
  clear h
  have hr10 : repL IM.nil (cs0_ ++ ([.int .u8 (((99 : UInt8).toNat : Nat) : Int)] : List Value)) q5 := app_rep hq6 hr0_ hr3
  refine OpsJ.put rfl (OpJ.appW hq6 rfl rfl (Src.ofRow (List.Mem.head _)) hr3 (by exact rfl) (List.Perm.swap _ _ _) (by exact rfl) (by exact rfl) (by exact rfl) rfl rfl (fun A8 c9 => ?_))
  refine OpsJ.put rfl (OpJ.pure (OpP.assign rfl) ?_)
  refine OpsJ.nil ?_
  refine CodeJ.seq' ?_
  refine CodeJ.region ?_
  refine OpsJ.put rfl (OpJ.pure (OpP.assign rfl) ?_)
  refine OpsJ.nil ?_
  obtain ⟨t51, hl52, h53⟩ := bind_ok h7
  clear h7
  refine CodeJ.midF (fun e s => () = t51 ∧ e = [] ∧ s = ⟨R, []⟩) ?_ ?_
  · refine CodeJ.block ?_
    refine CodeJ.loopM hl52 (fun (i_35, l36) e s => ∃ (cs37 : List Value), repL IM.nil cs37 l36 ∧ l36.length = q5.length ∧ e = [(2, .slice A8 q5.length c9), (3, .int .i64 i_35)] ∧ s = ⟨R, [.row 5 1 A8 q5.length c9 cs37]⟩) ⟨(cs0_ ++ ([.int .u8 (((99 : UInt8).toNat : Nat) : Int)] : List Value)), hr10, rfl, rfl, rfl⟩ (SubE.cons rfl (SubE.cons rfl (SubE.nil _))) (SubL.p0 (SubL.nil _)) ?_
    rintro ⟨i_35, l36⟩ _ _ _ ⟨cs37, hr38, hn39, rfl, rfl⟩ h49 hne50
    (try dsimp only at h49); unfold winnowerlaw1_spoil_l0 at h49
    refine CodeJ.seq' ?_
    refine CodeJ.seq' ?_
    refine CodeJ.region ?_
    refine OpsJ.put rfl (OpJ.pure (OpP.move rfl) ?_)
    refine OpsJ.put rfl (OpJ.pure (OpP.move rfl) ?_)
    refine OpsJ.put rfl (OpJ.pure (OpP.len rfl) ?_)
    refine OpsJ.put rfl (OpJ.pure (OpP.lss rfl rfl) ?_)
    refine OpsJ.nil ?_
    by_cases hc54 : i_35 < ((q5.length : Nat) : Int)
    · rw [if_pos hc54] at h49
      refine CodeJ.cond_t rfl (decide_eq_true hc54) ?_
      refine CodeJ.skip ?_
      refine CodeJ.seq' ?_
      refine CodeJ.block ?_
      refine CodeJ.region ?_
      refine OpsJ.put rfl (OpJ.pure (OpP.move rfl) ?_)
      refine OpsJ.put rfl (OpJ.pure (OpP.move rfl) ?_)
      obtain ⟨x55, hx56, h57⟩ := bind_ok h49
      clear h49
      have hE58 : ∀ j v, ([.int .u8 ((x55.toNat : Nat) : Int)] : List Value)[j]? = some v → (cs37)[Int.toNat i_35 * Dat.size UInt8 + j]? = some v := row_getF (α := UInt8) hr38 hx56
      refine OpsJ.put rfl (OpJ.pure (OpP.ixW (List.Mem.head _) hr38 hn39 hx56 (by exact rfl) (by exact rfl) rfl rfl) ?_)
      obtain ⟨q59, hq60, h62⟩ := bind_ok h57
      clear h57
      have hr61 : repL IM.nil (lsplice cs37 (Int.toNat i_35 * Dat.size UInt8) [.int .u8 (((98 : UInt8).toNat : Nat) : Int)]) q59 := set_rep hq60 hr38 (show Dat.rep IM.nil [.int .u8 (((98 : UInt8).toNat : Nat) : Int)] (98 : UInt8) from rfl)
      refine OpsJ.act (OpJ.stW hq60 hr38 (show Dat.rep IM.nil [.int .u8 (((98 : UInt8).toNat : Nat) : Int)] (98 : UInt8) from rfl) (by exact rfl) (by exact rfl) rfl (List.Perm.refl _) rfl rfl ?_)
      refine OpsJ.nil ?_
      refine CodeJ.region ?_
      refine OpsJ.put rfl (OpJ.pure (OpP.move rfl) ?_)
      refine OpsJ.put rfl (OpJ.pure (OpP.add64 rfl rfl) ?_)
      refine OpsJ.put rfl (OpJ.pure (OpP.assign rfl) ?_)
      refine OpsJ.nil ?_
      obtain rfl := Option.some.inj h62
      exact ⟨_, _, _, _, rfl, ⟨(lsplice cs37 (Int.toNat i_35 * Dat.size UInt8) [.int .u8 (((98 : UInt8).toNat : Nat) : Int)]), hr61, (set_len hq60 hn39), rfl, rfl⟩, IM.le_refl _, (SubE.cons rfl (SubE.cons rfl (SubE.nil _))), (SubL.p0 (SubL.nil _))⟩
    · rw [if_neg hc54] at h49
      refine CodeJ.cond_f rfl (decide_eq_false hc54) ?_
      refine CodeJ.exit rfl ?_
      obtain rfl := Option.some.inj h49
      have ht63 := hne50 _ rfl
      exact ⟨_, _, _, ⟨ht63, rfl, rfl⟩, IM.le_refl _, (SubE.nil _), (SubL.nil _)⟩
  · rintro _ _ ⟨rfl, rfl, rfl⟩
    (try dsimp only at h53)
    refine FinJ.ret' ?_
    obtain rfl := Option.some.inj h53
    exact Ret.mk0 ⟨rfl, rfl⟩ (ResJ.none Try.results22) (IM.le_refl _) (SubL.nil _)
theorem octet_Reader_Good_w (R : IM) (R0 : IM) (hR0 : IM.le R0 R) (g0_ : Nat) (p0_r : (List UInt8) × Bool) (A0_1_ : Option Addr) (c0_2_ : Nat) (hc0_3_ : p0_r.1.length ≤ c0_2_) (hA0_4_ : SlR R0 A0_1_ p0_r.1) (y : ((List UInt8) × Bool) × Bool) (h : octet_Reader_Good p0_r = some y) :
    CallJ Try.prog 24 #[.pointer (some ⟨g0_, 0, none⟩)] ⟨R, [.blk g0_ [.slice A0_1_ p0_r.1.length c0_2_, .bool p0_r.2] 75]⟩ (fun v D hs' => ∃ (B1 : Option Addr) (d2 : Nat), v = .bool y.2 ∧ y.1.1.length ≤ d2 ∧ SlR R0 B1 y.1.1 ∧ hs' = [.blk g0_ [.slice B1 y.1.1.length d2, .bool y.1.2] 75]) := by
  unfold octet_Reader_Good at h
  refine CallJ.of1 Try.func24 rfl Try.ntmps24 rfl (fun W0 => ?_)
  refine CodeJ.seq' ?_
  refine CodeJ.region ?_
  refine OpsJ.put rfl (OpJ.pure (OpP.assign rfl) ?_)
  refine OpsJ.nil ?_
  refine CodeJ.seq' ?_
  refine CodeJ.region ?_
  refine OpsJ.put rfl (OpJ.pure (OpP.move rfl) ?_)
  refine OpsJ.put rfl (OpJ.pure (OpP.neq_nil rfl rfl) ?_)
  refine OpsJ.put rfl (OpJ.pure (OpP.move rfl) ?_)
  refine OpsJ.guard_y rfl rfl rfl rfl rfl ?_
  refine OpsJ.put rfl (OpJ.pure (OpP.move rfl) ?_)
  refine OpsJ.guard_y rfl rfl rfl rfl rfl ?_
  refine OpsJ.put rfl (OpJ.pure (OpP.nilCheck rfl) ?_)
  refine OpsJ.guard_y rfl rfl rfl rfl rfl ?_
  refine OpsJ.put rfl (OpJ.pure (OpP.fldAddr_lit rfl (by exact rfl)) ?_)
  refine OpsJ.guard_y rfl rfl rfl rfl rfl ?_
  refine OpsJ.put rfl (OpJ.pure (OpP.load_blk (by exact rfl) rfl (List.Mem.head _) rfl) ?_)
  refine OpsJ.guard_y rfl rfl rfl rfl rfl ?_
  refine OpsJ.put rfl (OpJ.pure (OpP.not rfl) ?_)
  refine OpsJ.put rfl (OpJ.pure (OpP.pick_t rfl rfl rfl) ?_)
  refine OpsJ.put rfl (OpJ.pure (OpP.assign rfl) ?_)
  refine OpsJ.nil ?_
  refine CodeJ.ret' ?_
  obtain rfl := Option.some.inj h
  exact Ret.mk0 ⟨A0_1_, c0_2_, rfl, hc0_3_, (SlR.mono hA0_4_ (IM.le_refl _)), rfl⟩ (ResJ.one Try.results24 rfl) (IM.le_refl _) (SubL.p0 (SubL.nil _))
theorem octet_Reader_Whole_w (R : IM) (R0 : IM) (hR0 : IM.le R0 R) (g0_ : Nat) (p0_r : (List UInt8) × Bool) (A0_1_ : Option Addr) (c0_2_ : Nat) (hc0_3_ : p0_r.1.length ≤ c0_2_) (hA0_4_ : SlR R0 A0_1_ p0_r.1) (y : ((List UInt8) × Bool) × Bool) (h : octet_Reader_Whole p0_r = some y) :
    CallJ Try.prog 25 #[.pointer (some ⟨g0_, 0, none⟩)] ⟨R, [.blk g0_ [.slice A0_1_ p0_r.1.length c0_2_, .bool p0_r.2] 75]⟩ (fun v D hs' => ∃ (B1 : Option Addr) (d2 : Nat), v = .bool y.2 ∧ y.1.1.length ≤ d2 ∧ SlR R0 B1 y.1.1 ∧ hs' = [.blk g0_ [.slice B1 y.1.1.length d2, .bool y.1.2] 75]) := by
  unfold octet_Reader_Whole at h
  refine CallJ.of1 Try.func25 rfl Try.ntmps25 rfl (fun W0 => ?_)
  refine CodeJ.seq' ?_
  refine CodeJ.region ?_
  refine OpsJ.put rfl (OpJ.pure (OpP.assign rfl) ?_)
  refine OpsJ.nil ?_
  refine CodeJ.seq' ?_
  refine CodeJ.region ?_
  refine OpsJ.put rfl (OpJ.pure (OpP.move rfl) ?_)
  obtain ⟨y5, hy6, h7⟩ := bind_ok h
  clear h
  refine OpsJ.put rfl (OpJ.callP (Split.p0 Split.nil) rfl (fun R2 hle3 hin4 => octet_Reader_Good_w R2 R0 (IM.le_trans hR0 hle3) g0_ (p0_r.1, p0_r.2) A0_1_ c0_2_ hc0_3_ (SlR.mono hA0_4_ (IM.le_refl _))  _ hy6) ?_)
  rintro _ _ _ ⟨A8, c9, rfl, hc10, hA11, rfl⟩
  refine OpsJ.put rfl (OpJ.pure (OpP.move rfl) ?_)
  by_cases hc12 : y5.2 = true
  · rw [if_pos hc12] at h7
    refine OpsJ.guard_y rfl rfl rfl rfl hc12 ?_
    refine OpsJ.put rfl (OpJ.pure (OpP.move rfl) ?_)
    refine OpsJ.guard_y rfl rfl rfl rfl hc12 ?_
    refine OpsJ.put rfl (OpJ.pure (OpP.nilCheck rfl) ?_)
    refine OpsJ.guard_y rfl rfl rfl rfl hc12 ?_
    refine OpsJ.put rfl (OpJ.pure (OpP.fldAddr_lit rfl (by exact rfl)) ?_)
    refine OpsJ.guard_y rfl rfl rfl rfl hc12 ?_
    refine OpsJ.put rfl (OpJ.pure (OpP.load_blk (by exact rfl) rfl (List.Mem.head _) rfl) ?_)
    refine OpsJ.guard_y rfl rfl rfl rfl hc12 ?_
    refine OpsJ.put rfl (OpJ.pure (OpP.len rfl) ?_)
    refine OpsJ.guard_y rfl rfl rfl rfl hc12 ?_
    refine OpsJ.put rfl (OpJ.pure (OpP.eql rfl rfl) ?_)
    refine OpsJ.put rfl (OpJ.pure (OpP.pick_t rfl hc12 rfl) ?_)
    refine OpsJ.put rfl (OpJ.pure (OpP.assign rfl) ?_)
    refine OpsJ.nil ?_
    refine CodeJ.ret' ?_
    obtain rfl := Option.some.inj h7
    exact Ret.mk0 ⟨A8, c9, rfl, hc10, (SlR.mono hA11 (IM.le_refl _)), rfl⟩ (ResJ.one Try.results25 rfl) (IM.le_refl _) (SubL.p0 (SubL.nil _))
  · rw [if_neg hc12] at h7
    refine OpsJ.guard_n rfl rfl rfl rfl (Bool.eq_false_iff.2 hc12) ?_
    refine OpsJ.guard_n rfl rfl rfl rfl (Bool.eq_false_iff.2 hc12) ?_
    refine OpsJ.guard_n rfl rfl rfl rfl (Bool.eq_false_iff.2 hc12) ?_
    refine OpsJ.guard_n rfl rfl rfl rfl (Bool.eq_false_iff.2 hc12) ?_
    refine OpsJ.guard_n rfl rfl rfl rfl (Bool.eq_false_iff.2 hc12) ?_
    refine OpsJ.guard_n rfl rfl rfl rfl (Bool.eq_false_iff.2 hc12) ?_
    refine OpsJ.put rfl (OpJ.pure (OpP.pick_f rfl (Bool.eq_false_iff.2 hc12) rfl) ?_)
    refine OpsJ.put rfl (OpJ.pure (OpP.assign rfl) ?_)
    refine OpsJ.nil ?_
    refine CodeJ.ret' ?_
    obtain rfl := Option.some.inj h7
    exact Ret.mk0 ⟨A8, c9, rfl, hc10, (SlR.mono hA11 (IM.le_refl _)), rfl⟩ (ResJ.one Try.results25 rfl) (IM.le_refl _) (SubL.p0 (SubL.nil _))
theorem winnowerlaw1_heavyRows_w (R : IM) (A0_ : Option Addr) (n0_ c0_ : Nat) (p0_l : List (List UInt8)) (hA0_ : SlR R A0_ p0_l) (hn0_ : p0_l.length = n0_) (hc0_ : n0_ ≤ c0_) (y : Bool) (h : winnowerlaw1_heavyRows p0_l = some y) :
    CallJ Try.prog 26 #[.slice A0_ n0_ c0_] ⟨R, []⟩ (fun v D hs' => v = .bool y ∧ hs' = []) := by
  subst hn0_
  unfold winnowerlaw1_heavyRows at h
  refine CallJ.of1 Try.func26 rfl Try.ntmps26 rfl (fun W0 => ?_)
  refine CodeJ.seq' ?_
  refine CodeJ.region ?_
  refine OpsJ.put rfl (OpJ.pure (OpP.assign rfl) ?_)
  refine OpsJ.nil ?_
  refine CodeJ.seq' ?_
  refine CodeJ.region ?_
  refine OpsJ.put rfl (OpJ.pure (OpP.assign rfl) ?_)
  refine OpsJ.nil ?_
  refine CodeJ.seq' ?_
  refine CodeJ.seq' ?_
  refine CodeJ.region ?_
  refine OpsJ.put rfl (OpJ.pure (OpP.assign rfl) ?_)
  refine OpsJ.nil ?_
  obtain ⟨t55, hl56, h57⟩ := bind_ok h
  clear h
  refine CodeJ.mid (fun e s => .inr () = t55 ∧ e = [] ∧ s = ⟨R, []⟩) ?_ ?_
  · refine CodeJ.block ?_
    refine CodeJ.loopM hl56 (fun (n_35, i_36) e s => e = [(0, .slice A0_ p0_l.length c0_), (3, .int .i64 n_35), (4, .int .i64 i_36)] ∧ s = ⟨R, []⟩) ⟨rfl, rfl⟩ (SubE.cons rfl (SubE.cons rfl (SubE.cons rfl (SubE.nil _)))) (SubL.nil _) ?_
    rintro ⟨n_35, i_36⟩ _ _ _ ⟨rfl, rfl⟩ h53 hne54
    (try dsimp only at h53); unfold winnowerlaw1_heavyRows_l0 at h53
    refine CodeJ.seq' ?_
    refine CodeJ.seq' ?_
    refine CodeJ.region ?_
    refine OpsJ.put rfl (OpJ.pure (OpP.move rfl) ?_)
    refine OpsJ.put rfl (OpJ.pure (OpP.move rfl) ?_)
    refine OpsJ.put rfl (OpJ.pure (OpP.len rfl) ?_)
    refine OpsJ.put rfl (OpJ.pure (OpP.lss rfl rfl) ?_)
    refine OpsJ.nil ?_
    by_cases hc58 : i_36 < ((p0_l.length : Nat) : Int)
    · rw [if_pos hc58] at h53
      refine CodeJ.cond_t rfl (decide_eq_true hc58) ?_
      refine CodeJ.skip ?_
      refine CodeJ.seq' ?_
      refine CodeJ.block ?_
      refine CodeJ.seq' ?_
      refine CodeJ.seq' ?_
      refine CodeJ.region ?_
      refine OpsJ.put rfl (OpJ.pure (OpP.move rfl) ?_)
      refine OpsJ.put rfl (OpJ.pure (OpP.move rfl) ?_)
      obtain ⟨x59, hx60, h61⟩ := bind_ok h53
      clear h53
      obtain ⟨_, ⟨A63, c64, rfl, hc65, hA66⟩, hE62⟩ := SlR.getN hA0_ hx60
      refine OpsJ.put rfl (OpJ.pure (OpP.ixR hA0_ rfl hx60 (by exact rfl) (by exact rfl) rfl rfl) ?_)
      refine OpsJ.put rfl (OpJ.pure (OpP.ldR0 (by exact rfl) hE62 (IM.le_refl _) rfl rfl) ?_)
      refine OpsJ.put rfl (OpJ.pure (OpP.len rfl) ?_)
      refine OpsJ.put rfl (OpJ.pure (OpP.gtr rfl rfl) ?_)
      refine OpsJ.nil ?_
      by_cases hc67 : ((x59.length : Nat) : Int) > 4000
      · rw [if_pos hc67] at h61
        refine CodeJ.cond_t rfl (decide_eq_true hc67) ?_
        refine CodeJ.seq' ?_
        refine CodeJ.region ?_
        refine OpsJ.put rfl (OpJ.pure (OpP.assign rfl) ?_)
        refine OpsJ.nil ?_
        obtain rfl := Option.some.inj h61
        have ht68 := hne54 _ rfl
        subst ht68
        simp only [Sum.elim_inl] at h57
        refine CodeJ.ret' ?_
        obtain rfl := Option.some.inj h57
        exact Ret.mk0 ⟨rfl, rfl⟩ (ResJ.one Try.results26 rfl) (IM.le_refl _) (SubL.nil _)
      · rw [if_neg hc67] at h61
        refine CodeJ.cond_f rfl (decide_eq_false hc67) ?_
        refine CodeJ.skip ?_
        refine CodeJ.seq' ?_
        refine CodeJ.region ?_
        refine OpsJ.put rfl (OpJ.pure (OpP.move rfl) ?_)
        refine OpsJ.put rfl (OpJ.pure (OpP.add64 rfl rfl) ?_)
        refine OpsJ.put rfl (OpJ.pure (OpP.move rfl) ?_)
        refine OpsJ.put rfl (OpJ.pure (OpP.move rfl) ?_)
        obtain ⟨_, ⟨A72, c73, rfl, hc74, hA75⟩, hE71⟩ := SlR.getN hA0_ hx60
        refine OpsJ.put rfl (OpJ.pure (OpP.ixR hA0_ rfl hx60 (by exact rfl) (by exact rfl) rfl rfl) ?_)
        refine OpsJ.put rfl (OpJ.pure (OpP.ldR0 (by exact rfl) hE71 (IM.le_refl _) rfl rfl) ?_)
        refine OpsJ.put rfl (OpJ.pure (OpP.len rfl) ?_)
        refine OpsJ.put rfl (OpJ.pure (OpP.add64 rfl rfl) ?_)
        refine OpsJ.put rfl (OpJ.pure (OpP.assign rfl) ?_)
        refine OpsJ.nil ?_
        refine CodeJ.seq' ?_
        refine CodeJ.region ?_
        refine OpsJ.put rfl (OpJ.pure (OpP.move rfl) ?_)
        refine OpsJ.put rfl (OpJ.pure (OpP.gtr rfl rfl) ?_)
        refine OpsJ.nil ?_
        by_cases hc76 : w64 (w64 (n_35 + 3) + ((x59.length : Nat) : Int)) > 4000
        · rw [if_pos hc76] at h61
          refine CodeJ.cond_t rfl (decide_eq_true hc76) ?_
          refine CodeJ.seq' ?_
          refine CodeJ.region ?_
          refine OpsJ.put rfl (OpJ.pure (OpP.assign rfl) ?_)
          refine OpsJ.nil ?_
          obtain rfl := Option.some.inj h61
          have ht77 := hne54 _ rfl
          subst ht77
          simp only [Sum.elim_inl] at h57
          refine CodeJ.ret' ?_
          obtain rfl := Option.some.inj h57
          exact Ret.mk0 ⟨rfl, rfl⟩ (ResJ.one Try.results26 rfl) (IM.le_refl _) (SubL.nil _)
        · rw [if_neg hc76] at h61
          refine CodeJ.cond_f rfl (decide_eq_false hc76) ?_
          refine CodeJ.skip ?_
          refine CodeJ.region ?_
          refine OpsJ.put rfl (OpJ.pure (OpP.move rfl) ?_)
          refine OpsJ.put rfl (OpJ.pure (OpP.add64 rfl rfl) ?_)
          refine OpsJ.put rfl (OpJ.pure (OpP.assign rfl) ?_)
          refine OpsJ.nil ?_
          obtain rfl := Option.some.inj h61
          exact ⟨_, _, _, _, rfl, ⟨rfl, rfl⟩, IM.le_refl _, (SubE.cons rfl (SubE.cons rfl (SubE.cons rfl (SubE.nil _)))), (SubL.nil _)⟩
    · rw [if_neg hc58] at h53
      refine CodeJ.cond_f rfl (decide_eq_false hc58) ?_
      refine CodeJ.exit rfl ?_
      obtain rfl := Option.some.inj h53
      have ht80 := hne54 _ rfl
      exact ⟨_, _, _, ⟨ht80, rfl, rfl⟩, IM.le_refl _, (SubE.nil _), (SubL.nil _)⟩
  · rintro _ _ ⟨rfl, rfl, rfl⟩
    simp only [Sum.elim_inr] at h57
    refine CodeJ.seq' ?_
    refine CodeJ.region ?_
    refine OpsJ.put rfl (OpJ.pure (OpP.assign rfl) ?_)
    refine OpsJ.nil ?_
    refine CodeJ.ret' ?_
    obtain rfl := Option.some.inj h57
    exact Ret.mk0 ⟨rfl, rfl⟩ (ResJ.one Try.results26 rfl) (IM.le_refl _) (SubL.nil _)
theorem octet_Sum_w (R : IM) (A0_ : Option Addr) (n0_ c0_ : Nat) (p0_p : List (List UInt8)) (hA0_ : SlR R A0_ p0_p) (hn0_ : p0_p.length = n0_) (hc0_ : n0_ ≤ c0_) (y : UInt32) (h : octet_Sum p0_p = some y) :
    CallJ Try.prog 28 #[.slice A0_ n0_ c0_] ⟨R, []⟩ (fun v D hs' => v = .int .u32 ((y.toNat : Nat) : Int) ∧ hs' = []) := by
  subst hn0_
  unfold octet_Sum at h
  refine CallJ.of1 Try.func28 rfl Try.ntmps28 rfl (fun W0 => ?_)
  refine CodeJ.seq' ?_
  refine CodeJ.region ?_
  refine OpsJ.put rfl (OpJ.pure (OpP.assign rfl) ?_)
  refine OpsJ.nil ?_
  refine CodeJ.seq' ?_
  refine CodeJ.region ?_
  refine OpsJ.put rfl (OpJ.pure (OpP.assign rfl) ?_)
  refine OpsJ.nil ?_
  refine CodeJ.seq' ?_
  refine CodeJ.seq' ?_
  refine CodeJ.region ?_
  refine OpsJ.put rfl (OpJ.pure (OpP.move rfl) ?_)
  refine OpsJ.put rfl (OpJ.pure (OpP.len rfl) ?_)
  refine OpsJ.put rfl (OpJ.pure (OpP.move rfl) ?_)
  refine OpsJ.nil ?_
  obtain ⟨t308, hl309, h310⟩ := bind_ok h
  clear h
  refine CodeJ.mid (fun e s => ∃ (v_305 : UInt32), v_305 = t308 ∧ e = [(3, .int .u32 ((v_305.toNat : Nat) : Int))] ∧ s = ⟨R, []⟩) ?_ ?_
  · refine CodeJ.block ?_
    refine CodeJ.loopM hl309 (fun (v_203, v204) e s => e = [(3, .int .u32 ((v_203.toNat : Nat) : Int)), (8, .slice A0_ p0_p.length c0_), (9, .int .i64 ((p0_p.length : Nat) : Int)), (10, .int .i64 v204)] ∧ s = ⟨R, []⟩) ⟨rfl, rfl⟩ (SubE.cons rfl (SubE.cons rfl (SubE.cons rfl (SubE.cons rfl (SubE.nil _))))) (SubL.nil _) ?_
    rintro ⟨v_203, v204⟩ _ _ _ ⟨rfl, rfl⟩ h306 hne307
    (try dsimp only at h306); unfold octet_Sum_l2 at h306
    refine CodeJ.seq' ?_
    refine CodeJ.region ?_
    refine OpsJ.put rfl (OpJ.pure (OpP.lss rfl rfl) ?_)
    refine OpsJ.nil ?_
    refine CodeJ.seq' ?_
    by_cases hc311 : v204 < ((p0_p.length : Nat) : Int)
    · rw [if_pos hc311] at h306
      refine CodeJ.cond_t rfl (decide_eq_true hc311) ?_
      refine CodeJ.skip ?_
      refine CodeJ.seq' ?_
      refine CodeJ.block ?_
      refine CodeJ.seq' ?_
      refine CodeJ.region ?_
      obtain ⟨x312, hx313, h314⟩ := bind_ok h306
      clear h306
      obtain ⟨_, ⟨A316, c317, rfl, hc318, hA319⟩, hE315⟩ := SlR.getN hA0_ hx313
      refine OpsJ.put rfl (OpJ.pure (OpP.ixR hA0_ rfl hx313 (by exact rfl) (by exact rfl) rfl rfl) ?_)
      refine OpsJ.put rfl (OpJ.pure (OpP.ldR0 (by exact rfl) hE315 (IM.le_refl _) rfl rfl) ?_)
      refine OpsJ.put rfl (OpJ.pure (OpP.assign rfl) ?_)
      refine OpsJ.nil ?_
      refine CodeJ.seq' ?_
      refine CodeJ.region ?_
      refine OpsJ.put rfl (OpJ.pure (OpP.move rfl) ?_)
      refine OpsJ.put rfl (OpJ.pure (OpP.len rfl) ?_)
      refine OpsJ.put rfl (OpJ.pure (OpP.move rfl) ?_)
      refine OpsJ.nil ?_
      obtain ⟨t387, hl388, h389⟩ := bind_ok h314
      clear h314
      refine CodeJ.mid (fun e s => ∃ (v_384 : UInt32), v_384 = t387 ∧ e = [(3, .int .u32 ((v_384.toNat : Nat) : Int)), (8, .slice A0_ p0_p.length c0_), (9, .int .i64 ((p0_p.length : Nat) : Int)), (10, .int .i64 v204)] ∧ s = ⟨R, []⟩) ?_ ?_
      · refine CodeJ.block ?_
        refine CodeJ.loopM hl388 (fun (v_362, v363) e s => e = [(3, .int .u32 ((v_362.toNat : Nat) : Int)), (8, .slice A0_ p0_p.length c0_), (9, .int .i64 ((p0_p.length : Nat) : Int)), (10, .int .i64 v204), (14, .slice A316 x312.length c317), (15, .int .i64 ((x312.length : Nat) : Int)), (16, .int .i64 v363)] ∧ s = ⟨R, []⟩) ⟨rfl, rfl⟩ (SubE.cons rfl (SubE.cons rfl (SubE.cons rfl (SubE.cons rfl (SubE.cons rfl (SubE.cons rfl (SubE.cons rfl (SubE.nil _)))))))) (SubL.nil _) ?_
        rintro ⟨v_362, v363⟩ _ _ _ ⟨rfl, rfl⟩ h385 hne386
        (try dsimp only at h385); unfold octet_Sum_l1 at h385
        refine CodeJ.seq' ?_
        refine CodeJ.region ?_
        refine OpsJ.put rfl (OpJ.pure (OpP.lss rfl rfl) ?_)
        refine OpsJ.nil ?_
        refine CodeJ.seq' ?_
        by_cases hc390 : v363 < ((x312.length : Nat) : Int)
        · rw [if_pos hc390] at h385
          refine CodeJ.cond_t rfl (decide_eq_true hc390) ?_
          refine CodeJ.skip ?_
          refine CodeJ.seq' ?_
          refine CodeJ.block ?_
          refine CodeJ.seq' ?_
          refine CodeJ.region ?_
          obtain ⟨x391, hx392, h393⟩ := bind_ok h385
          clear h385
          have hE394 : RC _ (some ((adr A316).add (Int.toNat v363 * Dat.size UInt8))) [.int .u8 ((x391.toNat : Nat) : Int)] := SlR.getF (α := UInt8) hA319 hx392
          refine OpsJ.put rfl (OpJ.pure (OpP.ixR hA319 rfl hx392 (by exact rfl) (by exact rfl) rfl rfl) ?_)
          refine OpsJ.put rfl (OpJ.pure (OpP.ldR0 (by exact rfl) hE394 (IM.le_refl _) rfl rfl) ?_)
          refine OpsJ.put rfl (OpJ.pure (OpP.assign rfl) ?_)
          refine OpsJ.nil ?_
          refine CodeJ.seq' ?_
          refine CodeJ.region ?_
          refine OpsJ.put rfl (OpJ.pure (OpP.move rfl) ?_)
          refine OpsJ.put rfl (OpJ.pure (OpP.move rfl) ?_)
          refine OpsJ.put rfl (OpJ.pure (OpP.toU32 rfl) ?_)
          refine OpsJ.put rfl (OpJ.pure (OpP.xorU32 (a := v_362) (b := (ofI32 ((x391.toNat : Nat) : Int))) rfl rfl) ?_)
          refine OpsJ.put rfl (OpJ.pure (OpP.assign rfl) ?_)
          refine OpsJ.nil ?_
          refine CodeJ.seq' ?_
          refine CodeJ.region ?_
          refine OpsJ.put rfl (OpJ.pure (OpP.move rfl) ?_)
          refine OpsJ.nil ?_
          obtain ⟨t405, hl406, h407⟩ := bind_ok h393
          clear h393
          refine CodeJ.mid (fun e s => ∃ (v_402 : UInt32), v_402 = t405 ∧ e = [(3, .int .u32 ((v_402.toNat : Nat) : Int)), (8, .slice A0_ p0_p.length c0_), (9, .int .i64 ((p0_p.length : Nat) : Int)), (10, .int .i64 v204), (14, .slice A316 x312.length c317), (15, .int .i64 ((x312.length : Nat) : Int)), (16, .int .i64 v363)] ∧ s = ⟨R, []⟩) ?_ ?_
          · refine CodeJ.block ?_
            refine CodeJ.loopM hl406 (fun (v_399, v400) e s => e = [(3, .int .u32 ((v_399.toNat : Nat) : Int)), (8, .slice A0_ p0_p.length c0_), (9, .int .i64 ((p0_p.length : Nat) : Int)), (10, .int .i64 v204), (14, .slice A316 x312.length c317), (15, .int .i64 ((x312.length : Nat) : Int)), (16, .int .i64 v363), (24, .int .i64 v400)] ∧ s = ⟨R, []⟩) ⟨rfl, rfl⟩ (SubE.cons rfl (SubE.cons rfl (SubE.cons rfl (SubE.cons rfl (SubE.cons rfl (SubE.cons rfl (SubE.cons rfl (SubE.cons rfl (SubE.nil _))))))))) (SubL.nil _) ?_
            rintro ⟨v_399, v400⟩ _ _ _ ⟨rfl, rfl⟩ h403 hne404
            (try dsimp only at h403); unfold octet_Sum_l0 at h403
            refine CodeJ.seq' ?_
            refine CodeJ.region ?_
            refine OpsJ.put rfl (OpJ.pure (OpP.lss rfl rfl) ?_)
            refine OpsJ.nil ?_
            refine CodeJ.seq' ?_
            by_cases hc408 : v400 < 8
            · rw [if_pos hc408] at h403
              refine CodeJ.cond_t rfl (decide_eq_true hc408) ?_
              refine CodeJ.skip ?_
              refine CodeJ.seq' ?_
              refine CodeJ.block ?_
              refine CodeJ.region ?_
              refine OpsJ.put rfl (OpJ.pure (OpP.move rfl) ?_)
              refine OpsJ.put rfl (OpJ.pure (OpP.shrU32 (a := v_399) (m := 1) rfl rfl rfl) ?_)
              refine OpsJ.put rfl (OpJ.pure (OpP.move rfl) ?_)
              refine OpsJ.put rfl (OpJ.pure (OpP.andU32 (a := v_399) (b := (1 : UInt32)) rfl rfl) ?_)
              refine OpsJ.put rfl (OpJ.pure (OpP.negU32 (a := (v_399 &&& (1 : UInt32))) rfl) ?_)
              refine OpsJ.put rfl (OpJ.pure (OpP.andU32 (a := (3988292384 : UInt32)) (b := (0 - (v_399 &&& (1 : UInt32)))) rfl rfl) ?_)
              refine OpsJ.put rfl (OpJ.pure (OpP.xorU32 (a := (FW.shr32 v_399 1)) (b := ((3988292384 : UInt32) &&& (0 - (v_399 &&& (1 : UInt32))))) rfl rfl) ?_)
              refine OpsJ.put rfl (OpJ.pure (OpP.assign rfl) ?_)
              refine OpsJ.nil ?_
              refine CodeJ.region ?_
              refine OpsJ.put rfl (OpJ.pure (OpP.add64 rfl rfl) ?_)
              refine OpsJ.put rfl (OpJ.pure (OpP.move rfl) ?_)
              refine OpsJ.nil ?_
              obtain rfl := Option.some.inj h403
              exact ⟨_, _, _, _, rfl, ⟨rfl, rfl⟩, IM.le_refl _, (SubE.cons rfl (SubE.cons rfl (SubE.cons rfl (SubE.cons rfl (SubE.cons rfl (SubE.cons rfl (SubE.cons rfl (SubE.cons rfl (SubE.nil _))))))))), (SubL.nil _)⟩
            · rw [if_neg hc408] at h403
              refine CodeJ.cond_f rfl (decide_eq_false hc408) ?_
              refine CodeJ.exit rfl ?_
              obtain rfl := Option.some.inj h403
              have ht409 := hne404 _ rfl
              exact ⟨_, _, _, ⟨v_399, ht409, rfl, rfl⟩, IM.le_refl _, (SubE.cons rfl (SubE.cons rfl (SubE.cons rfl (SubE.cons rfl (SubE.cons rfl (SubE.cons rfl (SubE.cons rfl (SubE.nil _)))))))), (SubL.nil _)⟩
          · rintro _ _ ⟨v_402, rfl, rfl, rfl⟩
            (try dsimp only at h407)
            refine CodeJ.region ?_
            refine OpsJ.put rfl (OpJ.pure (OpP.add64 rfl rfl) ?_)
            refine OpsJ.put rfl (OpJ.pure (OpP.move rfl) ?_)
            refine OpsJ.nil ?_
            obtain rfl := Option.some.inj h407
            exact ⟨_, _, _, _, rfl, ⟨rfl, rfl⟩, IM.le_refl _, (SubE.cons rfl (SubE.cons rfl (SubE.cons rfl (SubE.cons rfl (SubE.cons rfl (SubE.cons rfl (SubE.cons rfl (SubE.nil _)))))))), (SubL.nil _)⟩
        · rw [if_neg hc390] at h385
          refine CodeJ.cond_f rfl (decide_eq_false hc390) ?_
          refine CodeJ.exit rfl ?_
          obtain rfl := Option.some.inj h385
          have ht410 := hne386 _ rfl
          exact ⟨_, _, _, ⟨v_362, ht410, rfl, rfl⟩, IM.le_refl _, (SubE.cons rfl (SubE.cons rfl (SubE.cons rfl (SubE.cons rfl (SubE.nil _))))), (SubL.nil _)⟩
      · rintro _ _ ⟨v_384, rfl, rfl, rfl⟩
        (try dsimp only at h389)
        refine CodeJ.region ?_
        refine OpsJ.put rfl (OpJ.pure (OpP.add64 rfl rfl) ?_)
        refine OpsJ.put rfl (OpJ.pure (OpP.move rfl) ?_)
        refine OpsJ.nil ?_
        obtain rfl := Option.some.inj h389
        exact ⟨_, _, _, _, rfl, ⟨rfl, rfl⟩, IM.le_refl _, (SubE.cons rfl (SubE.cons rfl (SubE.cons rfl (SubE.cons rfl (SubE.nil _))))), (SubL.nil _)⟩
    · rw [if_neg hc311] at h306
      refine CodeJ.cond_f rfl (decide_eq_false hc311) ?_
      refine CodeJ.exit rfl ?_
      obtain rfl := Option.some.inj h306
      have ht411 := hne307 _ rfl
      exact ⟨_, _, _, ⟨v_203, ht411, rfl, rfl⟩, IM.le_refl _, (SubE.cons rfl (SubE.nil _)), (SubL.nil _)⟩
  · rintro _ _ ⟨v_305, rfl, rfl, rfl⟩
    (try dsimp only at h310)
    refine CodeJ.seq' ?_
    refine CodeJ.region ?_
    refine OpsJ.put rfl (OpJ.pure (OpP.move rfl) ?_)
    refine OpsJ.put rfl (OpJ.pure (OpP.complU32 (a := v_305) rfl) ?_)
    refine OpsJ.put rfl (OpJ.pure (OpP.assign rfl) ?_)
    refine OpsJ.nil ?_
    refine CodeJ.ret' ?_
    obtain rfl := Option.some.inj h310
    exact Ret.mk0 ⟨rfl, rfl⟩ (ResJ.one Try.results28 rfl) (IM.le_refl _) (SubL.nil _)
theorem winnowerref1_Sum_w (R : IM) (A0_ : Option Addr) (n0_ c0_ : Nat) (p0_p : List UInt8) (hA0_ : SlR R A0_ p0_p) (hn0_ : p0_p.length = n0_) (hc0_ : n0_ ≤ c0_) (y : UInt32) (h : winnowerref1_Sum p0_p = some y) :
    CallJ Try.prog 29 #[.slice A0_ n0_ c0_] ⟨R, []⟩ (fun v D hs' => v = .int .u32 ((y.toNat : Nat) : Int) ∧ hs' = []) := by
  subst hn0_
  unfold winnowerref1_Sum at h
  refine CallJ.of1 Try.func29 rfl Try.ntmps29 rfl (fun W0 => ?_)
  refine CodeJ.seq' ?_
  refine CodeJ.region ?_
  refine OpsJ.put rfl (OpJ.pure (OpP.assign rfl) ?_)
  refine OpsJ.nil ?_
  refine CodeJ.seq' ?_
  refine CodeJ.region ?_
  refine OpsJ.put rfl (OpJ.pure (OpP.assign rfl) ?_)
  refine OpsJ.nil ?_
  refine CodeJ.seq' ?_
  refine CodeJ.seq' ?_
  refine CodeJ.region ?_
  refine OpsJ.put rfl (OpJ.pure (OpP.assign rfl) ?_)
  refine OpsJ.nil ?_
  obtain ⟨t80, hl81, h82⟩ := bind_ok h
  clear h
  refine CodeJ.mid (fun e s => ∃ (c_77 : UInt32), c_77 = t80 ∧ e = [(3, .int .u32 ((c_77.toNat : Nat) : Int))] ∧ s = ⟨R, []⟩) ?_ ?_
  · refine CodeJ.block ?_
    refine CodeJ.loopM hl81 (fun (c_51, i_52) e s => e = [(0, .slice A0_ p0_p.length c0_), (3, .int .u32 ((c_51.toNat : Nat) : Int)), (4, .int .i64 i_52)] ∧ s = ⟨R, []⟩) ⟨rfl, rfl⟩ (SubE.cons rfl (SubE.cons rfl (SubE.cons rfl (SubE.nil _)))) (SubL.nil _) ?_
    rintro ⟨c_51, i_52⟩ _ _ _ ⟨rfl, rfl⟩ h78 hne79
    (try dsimp only at h78); unfold winnowerref1_Sum_l1 at h78
    refine CodeJ.seq' ?_
    refine CodeJ.seq' ?_
    refine CodeJ.region ?_
    refine OpsJ.put rfl (OpJ.pure (OpP.move rfl) ?_)
    refine OpsJ.put rfl (OpJ.pure (OpP.move rfl) ?_)
    refine OpsJ.put rfl (OpJ.pure (OpP.len rfl) ?_)
    refine OpsJ.put rfl (OpJ.pure (OpP.lss rfl rfl) ?_)
    refine OpsJ.nil ?_
    by_cases hc83 : i_52 < ((p0_p.length : Nat) : Int)
    · rw [if_pos hc83] at h78
      refine CodeJ.cond_t rfl (decide_eq_true hc83) ?_
      refine CodeJ.skip ?_
      refine CodeJ.seq' ?_
      refine CodeJ.block ?_
      refine CodeJ.seq' ?_
      refine CodeJ.region ?_
      refine OpsJ.put rfl (OpJ.pure (OpP.move rfl) ?_)
      refine OpsJ.put rfl (OpJ.pure (OpP.move rfl) ?_)
      refine OpsJ.put rfl (OpJ.pure (OpP.move rfl) ?_)
      obtain ⟨x84, hx85, h86⟩ := bind_ok h78
      clear h78
      have hE87 : RC _ (some ((adr A0_).add (Int.toNat i_52 * Dat.size UInt8))) [.int .u8 ((x84.toNat : Nat) : Int)] := SlR.getF (α := UInt8) hA0_ hx85
      refine OpsJ.put rfl (OpJ.pure (OpP.ixR hA0_ rfl hx85 (by exact rfl) (by exact rfl) rfl rfl) ?_)
      refine OpsJ.put rfl (OpJ.pure (OpP.ldR0 (by exact rfl) hE87 (IM.le_refl _) rfl rfl) ?_)
      refine OpsJ.put rfl (OpJ.pure (OpP.toU32 rfl) ?_)
      refine OpsJ.put rfl (OpJ.pure (OpP.xorU32 (a := c_51) (b := (ofI32 ((x84.toNat : Nat) : Int))) rfl rfl) ?_)
      refine OpsJ.put rfl (OpJ.pure (OpP.assign rfl) ?_)
      refine OpsJ.nil ?_
      refine CodeJ.seq' ?_
      refine CodeJ.region ?_
      refine OpsJ.put rfl (OpJ.pure (OpP.assign rfl) ?_)
      refine OpsJ.nil ?_
      obtain ⟨t101, hl102, h103⟩ := bind_ok h86
      clear h86
      refine CodeJ.mid (fun e s => ∃ (c_98 : UInt32), c_98 = t101 ∧ e = [(0, .slice A0_ p0_p.length c0_), (3, .int .u32 ((c_98.toNat : Nat) : Int)), (4, .int .i64 i_52)] ∧ s = ⟨R, []⟩) ?_ ?_
      · refine CodeJ.block ?_
        refine CodeJ.loopM hl102 (fun (c_94, k_95) e s => e = [(0, .slice A0_ p0_p.length c0_), (3, .int .u32 ((c_94.toNat : Nat) : Int)), (4, .int .i64 i_52), (5, .int .i64 k_95)] ∧ s = ⟨R, []⟩) ⟨rfl, rfl⟩ (SubE.cons rfl (SubE.cons rfl (SubE.cons rfl (SubE.cons rfl (SubE.nil _))))) (SubL.nil _) ?_
        rintro ⟨c_94, k_95⟩ _ _ _ ⟨rfl, rfl⟩ h99 hne100
        (try dsimp only at h99); unfold winnowerref1_Sum_l0 at h99
        refine CodeJ.seq' ?_
        refine CodeJ.seq' ?_
        refine CodeJ.region ?_
        refine OpsJ.put rfl (OpJ.pure (OpP.move rfl) ?_)
        refine OpsJ.put rfl (OpJ.pure (OpP.lss rfl rfl) ?_)
        refine OpsJ.nil ?_
        by_cases hc104 : k_95 < 8
        · rw [if_pos hc104] at h99
          refine CodeJ.cond_t rfl (decide_eq_true hc104) ?_
          refine CodeJ.skip ?_
          refine CodeJ.seq' ?_
          refine CodeJ.block ?_
          refine CodeJ.seq' ?_
          refine CodeJ.region ?_
          refine OpsJ.put rfl (OpJ.pure (OpP.move rfl) ?_)
          refine OpsJ.put rfl (OpJ.pure (OpP.andU32 (a := c_94) (b := (1 : UInt32)) rfl rfl) ?_)
          refine OpsJ.put rfl (OpJ.pure (OpP.eql rfl rfl) ?_)
          refine OpsJ.nil ?_
          by_cases hc105 : (((c_94 &&& (1 : UInt32)).toNat : Nat) : Int) = (((1 : UInt32).toNat : Nat) : Int)
          · rw [if_pos hc105] at h99
            refine CodeJ.cond_t rfl (decide_eq_true hc105) ?_
            refine CodeJ.region ?_
            refine OpsJ.put rfl (OpJ.pure (OpP.move rfl) ?_)
            refine OpsJ.put rfl (OpJ.pure (OpP.shrU32 (a := c_94) (m := 1) rfl rfl rfl) ?_)
            refine OpsJ.put rfl (OpJ.pure (OpP.xorU32 (a := (FW.shr32 c_94 1)) (b := (3988292384 : UInt32)) rfl rfl) ?_)
            refine OpsJ.put rfl (OpJ.pure (OpP.assign rfl) ?_)
            refine OpsJ.nil ?_
            refine CodeJ.region ?_
            refine OpsJ.put rfl (OpJ.pure (OpP.move rfl) ?_)
            refine OpsJ.put rfl (OpJ.pure (OpP.add64 rfl rfl) ?_)
            refine OpsJ.put rfl (OpJ.pure (OpP.assign rfl) ?_)
            refine OpsJ.nil ?_
            obtain rfl := Option.some.inj h99
            exact ⟨_, _, _, _, rfl, ⟨rfl, rfl⟩, IM.le_refl _, (SubE.cons rfl (SubE.cons rfl (SubE.cons rfl (SubE.cons rfl (SubE.nil _))))), (SubL.nil _)⟩
          · rw [if_neg hc105] at h99
            refine CodeJ.cond_f rfl (decide_eq_false hc105) ?_
            refine CodeJ.region ?_
            refine OpsJ.put rfl (OpJ.pure (OpP.move rfl) ?_)
            refine OpsJ.put rfl (OpJ.pure (OpP.shrU32 (a := c_94) (m := 1) rfl rfl rfl) ?_)
            refine OpsJ.put rfl (OpJ.pure (OpP.assign rfl) ?_)
            refine OpsJ.nil ?_
            refine CodeJ.region ?_
            refine OpsJ.put rfl (OpJ.pure (OpP.move rfl) ?_)
            refine OpsJ.put rfl (OpJ.pure (OpP.add64 rfl rfl) ?_)
            refine OpsJ.put rfl (OpJ.pure (OpP.assign rfl) ?_)
            refine OpsJ.nil ?_
            obtain rfl := Option.some.inj h99
            exact ⟨_, _, _, _, rfl, ⟨rfl, rfl⟩, IM.le_refl _, (SubE.cons rfl (SubE.cons rfl (SubE.cons rfl (SubE.cons rfl (SubE.nil _))))), (SubL.nil _)⟩
        · rw [if_neg hc104] at h99
          refine CodeJ.cond_f rfl (decide_eq_false hc104) ?_
          refine CodeJ.exit rfl ?_
          obtain rfl := Option.some.inj h99
          have ht106 := hne100 _ rfl
          exact ⟨_, _, _, ⟨c_94, ht106, rfl, rfl⟩, IM.le_refl _, (SubE.cons rfl (SubE.cons rfl (SubE.cons rfl (SubE.nil _)))), (SubL.nil _)⟩
      · rintro _ _ ⟨c_98, rfl, rfl, rfl⟩
        (try dsimp only at h103)
        refine CodeJ.region ?_
        refine OpsJ.put rfl (OpJ.pure (OpP.move rfl) ?_)
        refine OpsJ.put rfl (OpJ.pure (OpP.add64 rfl rfl) ?_)
        refine OpsJ.put rfl (OpJ.pure (OpP.assign rfl) ?_)
        refine OpsJ.nil ?_
        obtain rfl := Option.some.inj h103
        exact ⟨_, _, _, _, rfl, ⟨rfl, rfl⟩, IM.le_refl _, (SubE.cons rfl (SubE.cons rfl (SubE.cons rfl (SubE.nil _)))), (SubL.nil _)⟩
    · rw [if_neg hc83] at h78
      refine CodeJ.cond_f rfl (decide_eq_false hc83) ?_
      refine CodeJ.exit rfl ?_
      obtain rfl := Option.some.inj h78
      have ht107 := hne79 _ rfl
      exact ⟨_, _, _, ⟨c_51, ht107, rfl, rfl⟩, IM.le_refl _, (SubE.cons rfl (SubE.nil _)), (SubL.nil _)⟩
  · rintro _ _ ⟨c_77, rfl, rfl, rfl⟩
    (try dsimp only at h82)
    refine CodeJ.seq' ?_
    refine CodeJ.region ?_
    refine OpsJ.put rfl (OpJ.pure (OpP.move rfl) ?_)
    refine OpsJ.put rfl (OpJ.pure (OpP.complU32 (a := c_77) rfl) ?_)
    refine OpsJ.put rfl (OpJ.pure (OpP.assign rfl) ?_)
    refine OpsJ.nil ?_
    refine CodeJ.ret' ?_
    obtain rfl := Option.some.inj h82
    exact Ret.mk0 ⟨rfl, rfl⟩ (ResJ.one Try.results29 rfl) (IM.le_refl _) (SubL.nil _)
theorem winnowerlaw1_roomy_w (R : IM) (R0 : IM) (hR0 : IM.le R0 R) (A0_ : Option Addr) (n0_ c0_ : Nat) (p0_b : List UInt8) (hA0_ : SlR R A0_ p0_b) (hn0_ : p0_b.length = n0_) (hc0_ : n0_ ≤ c0_) (y : (List UInt8)) (h : winnowerlaw1_roomy p0_b = some y) :
    CallJ Try.prog 39 #[.slice A0_ n0_ c0_] ⟨R, []⟩ (fun v D hs' => ∃ (B1 : Option Addr) (d2 : Nat), v = .slice B1 y.length d2 ∧ y.length ≤ d2 ∧ SlR (R0.or D) B1 y ∧ hs' = []) := by
  subst hn0_
  unfold winnowerlaw1_roomy at h
  refine CallJ.of1 Try.func39 rfl Try.ntmps39 rfl (fun W0 => ?_)
  refine CodeJ.seq' ?_
  refine CodeJ.region ?_
  refine OpsJ.put rfl (OpJ.pure (OpP.assign rfl) ?_)
  refine OpsJ.nil ?_
  refine CodeJ.seq' ?_
  refine CodeJ.region ?_
  have hr2 : repL IM.nil [] ([] : List UInt8) := (repL_nil _)
  refine OpsJ.put rfl (OpJ.buildSliceC (cs := []) rfl rfl (by exact rfl) (by exact rfl) (by exact rfl) (by exact rfl) (fun g1 => ?_))
  refine OpsJ.put rfl (OpJ.pure (OpP.move rfl) ?_)
  obtain ⟨q4, hq5, h6⟩ := bind_ok h
  clear h
  obtain ⟨es7, hs8, hp9⟩ := SlR.out hA0_
  have hr12 : repL IM.nil (([] : List Value) ++ es7) q4 := app_rep hq5 hr2 (flat_rep hp9)
  refine OpsJ.put rfl (OpJ.appW hq5 rfl rfl (Src.ofR (RC.mono hs8 (IM.le_refl _))) hp9 (by exact rfl) (List.Perm.refl _) (by exact rfl) (by exact rfl) (by exact rfl) rfl rfl (fun A10 c11 => ?_))
  have hr15 : repL IM.nil [.int .u8 (((171 : UInt8).toNat : Nat) : Int)] ([(171 : UInt8)] : List UInt8) := (repL_cons (c1 := [.int .u8 (((171 : UInt8).toNat : Nat) : Int)]) (show Dat.rep _ _ (171 : UInt8) from rfl) (repL_nil _))
  refine OpsJ.put rfl (OpJ.buildSliceC (cs := [.int .u8 (((171 : UInt8).toNat : Nat) : Int)]) rfl rfl (by exact rfl) (by exact rfl) (by exact rfl) (by exact rfl) (fun g14 => ?_))
  obtain ⟨q17, hq18, h19⟩ := bind_ok h6
  clear h6
  have hr22 : repL IM.nil ((([] : List Value) ++ es7) ++ ([.int .u8 (((171 : UInt8).toNat : Nat) : Int)] : List Value)) q17 := app_rep hq18 hr12 hr15
  refine OpsJ.put rfl (OpJ.appW hq18 rfl rfl (Src.ofRow (List.Mem.head _)) hr15 (by exact rfl) (List.Perm.swap _ _ _) (by exact rfl) (by exact rfl) (by exact rfl) rfl rfl (fun A20 c21 => ?_))
  have hr25 : repL IM.nil [.int .u8 (((171 : UInt8).toNat : Nat) : Int)] ([(171 : UInt8)] : List UInt8) := (repL_cons (c1 := [.int .u8 (((171 : UInt8).toNat : Nat) : Int)]) (show Dat.rep _ _ (171 : UInt8) from rfl) (repL_nil _))
  refine OpsJ.put rfl (OpJ.buildSliceC (cs := [.int .u8 (((171 : UInt8).toNat : Nat) : Int)]) rfl rfl (by exact rfl) (by exact rfl) (by exact rfl) (by exact rfl) (fun g24 => ?_))
  obtain ⟨q27, hq28, h29⟩ := bind_ok h19
  clear h19
  have hr32 : repL IM.nil (((([] : List Value) ++ es7) ++ ([.int .u8 (((171 : UInt8).toNat : Nat) : Int)] : List Value)) ++ ([.int .u8 (((171 : UInt8).toNat : Nat) : Int)] : List Value)) q27 := app_rep hq28 hr22 hr25
  refine OpsJ.put rfl (OpJ.appW hq28 rfl rfl (Src.ofRow (List.Mem.head _)) hr25 (by exact rfl) (List.Perm.swap _ _ _) (by exact rfl) (by exact rfl) (by exact rfl) rfl rfl (fun A30 c31 => ?_))
  refine OpsJ.put rfl (OpJ.pure (OpP.move rfl) ?_)
  refine OpsJ.put rfl (OpJ.pure (OpP.len rfl) ?_)
  refine OpsJ.put rfl (OpJ.pure (OpP.add64 rfl rfl) ?_)
  refine OpsJ.rowle (List.Perm.refl _) (fun hcap38 hlen39 => ?_)
  refine OpsJ.freeze (List.Perm.refl _) (fun D34 hd35 hin36 => ?_)
  have hA37 : SlR (R0.or D34) A30 q27 := SlR.of_row (RC.mono hin36 (IM.le_or_right (IM.dis_le hR0 hd35))) hr32 (IM.le_nil _)
  obtain ⟨q40, hq41, h43⟩ := bind_ok h29
  clear h29
  have hA42 : SlR (R0.or D34) A30 q40 := cutA0 hA37 hq41
  refine OpsJ.put rfl (OpJ.pure (OpP.cutHi hq41 rfl hcap38 rfl rfl) ?_)
  refine OpsJ.put rfl (OpJ.pure (OpP.assign rfl) ?_)
  refine OpsJ.nil ?_
  refine CodeJ.ret' ?_
  obtain rfl := Option.some.inj h43
  exact Ret.mkF (Fr.step (Fr.refl _ _) (IM.le_refl _) hR0 hd35) (fun D44 hD45 => ⟨A30, c31, rfl, (sub_cap hq41 hcap38), (SlR.mono hA42 (IM.le_trans (IM.le_refl _) hD45)), rfl⟩) (ResJ.one Try.results39 rfl) (IM.le_trans (IM.le_refl _) (IM.le_or _ _)) (SubL.nil _)
theorem winnowerlaw1_stands_w (R : IM) (A0_ : Option Addr) (n0_ c0_ : Nat) (p0_w : List UInt8) (hA0_ : SlR R A0_ p0_w) (hn0_ : p0_w.length = n0_) (hc0_ : n0_ ≤ c0_) (A1_ : Option Addr) (n1_ c1_ : Nat) (p1_b : List UInt8) (hA1_ : SlR R A1_ p1_b) (hn1_ : p1_b.length = n1_) (hc1_ : n1_ ≤ c1_) (y : Bool) (h : winnowerlaw1_stands p0_w p1_b = some y) :
    CallJ Try.prog 41 #[.slice A0_ n0_ c0_, .slice A1_ n1_ c1_] ⟨R, []⟩ (fun v D hs' => v = .bool y ∧ hs' = []) := by
  subst hn0_
  subst hn1_
  unfold winnowerlaw1_stands at h
  refine CallJ.of2 Try.func41 rfl Try.ntmps41 rfl (fun W0 => ?_)
  refine CodeJ.seq' ?_
  refine CodeJ.region ?_
  refine OpsJ.put rfl (OpJ.pure (OpP.assign rfl) ?_)
  refine OpsJ.nil ?_
  refine CodeJ.seq' ?_
  refine CodeJ.region ?_
  refine OpsJ.put rfl (OpJ.pure (OpP.move rfl) ?_)
  refine OpsJ.put rfl (OpJ.pure (OpP.len rfl) ?_)
  refine OpsJ.put rfl (OpJ.pure (OpP.move rfl) ?_)
  refine OpsJ.put rfl (OpJ.pure (OpP.len rfl) ?_)
  refine OpsJ.put rfl (OpJ.pure (OpP.add64 rfl rfl) ?_)
  refine OpsJ.put rfl (OpJ.pure (OpP.eql rfl rfl) ?_)
  refine OpsJ.put rfl (OpJ.pure (OpP.move rfl) ?_)
  by_cases hc1 : ((p0_w.length : Nat) : Int) = w64 (((p1_b.length : Nat) : Int) + 1)
  · rw [if_pos hc1] at h
    refine OpsJ.guard_y rfl rfl rfl rfl (decide_eq_true hc1) ?_
    refine OpsJ.put rfl (OpJ.pure (OpP.move rfl) ?_)
    refine OpsJ.guard_y rfl rfl rfl rfl (decide_eq_true hc1) ?_
    refine OpsJ.put rfl (OpJ.pure (OpP.move rfl) ?_)
    refine OpsJ.guard_y rfl rfl rfl rfl (decide_eq_true hc1) ?_
    refine OpsJ.put rfl (OpJ.pure (OpP.len rfl) ?_)
    refine OpsJ.guard_y rfl rfl rfl rfl (decide_eq_true hc1) ?_
    obtain ⟨q2, hq3, h5⟩ := bind_ok h
    clear h
    have hA4 : SlR R A0_ q2 := cutA0 hA0_ hq3
    refine OpsJ.put rfl (OpJ.pure (OpP.cutHi hq3 rfl (hcap rfl hc0_) rfl rfl) ?_)
    refine OpsJ.guard_y rfl rfl rfl rfl (decide_eq_true hc1) ?_
    refine OpsJ.put rfl (OpJ.pure (OpP.move rfl) ?_)
    refine OpsJ.guard_y rfl rfl rfl rfl (decide_eq_true hc1) ?_
    obtain ⟨y9, hy10, h11⟩ := bind_ok h5
    clear h5
    refine OpsJ.put rfl (OpJ.call0 rfl (fun R6 hle7 hin8 => winnowerlaw1_same_w R6 A0_ q2.length c0_ q2 (SlR.mono hA4 (IM.le_trans (IM.le_refl _) hle7)) rfl (sub_cap hq3 (hcap rfl hc0_)) A1_ p1_b.length c1_ p1_b (SlR.mono hA1_ (IM.le_trans (IM.le_refl _) hle7)) rfl hc1_  _ hy10) ?_)
    rintro _ _ _ ⟨rfl, rfl⟩
    refine OpsJ.put rfl (OpJ.pure (OpP.pick_t rfl (decide_eq_true hc1) rfl) ?_)
    refine OpsJ.put rfl (OpJ.pure (OpP.move rfl) ?_)
    by_cases hc12 : y9 = true
    · rw [if_pos hc12] at h11
      refine OpsJ.guard_y rfl rfl rfl rfl hc12 ?_
      refine OpsJ.put rfl (OpJ.pure (OpP.move rfl) ?_)
      refine OpsJ.guard_y rfl rfl rfl rfl hc12 ?_
      refine OpsJ.put rfl (OpJ.pure (OpP.move rfl) ?_)
      refine OpsJ.guard_y rfl rfl rfl rfl hc12 ?_
      refine OpsJ.put rfl (OpJ.pure (OpP.len rfl) ?_)
      refine OpsJ.guard_y rfl rfl rfl rfl hc12 ?_
      obtain ⟨x13, hx14, h15⟩ := bind_ok h11
      clear h11
      have hE16 : RC _ (some ((adr A0_).add (Int.toNat ((p1_b.length : Nat) : Int) * Dat.size UInt8))) [.int .u8 ((x13.toNat : Nat) : Int)] := SlR.getF (α := UInt8) hA0_ hx14
      refine OpsJ.put rfl (OpJ.pure (OpP.ixR hA0_ rfl hx14 (by exact rfl) (by exact rfl) rfl rfl) ?_)
      refine OpsJ.guard_y rfl rfl rfl rfl hc12 ?_
      refine OpsJ.put rfl (OpJ.pure (OpP.ldR0 (by exact rfl) hE16 (IM.le_refl _) rfl rfl) ?_)
      refine OpsJ.guard_y rfl rfl rfl rfl hc12 ?_
      refine OpsJ.put rfl (OpJ.pure (OpP.eql rfl rfl) ?_)
      refine OpsJ.put rfl (OpJ.pure (OpP.pick_t rfl hc12 rfl) ?_)
      refine OpsJ.put rfl (OpJ.pure (OpP.assign rfl) ?_)
      refine OpsJ.nil ?_
      refine CodeJ.ret' ?_
      obtain rfl := Option.some.inj h15
      exact Ret.mk0 ⟨rfl, rfl⟩ (ResJ.one Try.results41 rfl) (IM.le_refl _) (SubL.nil _)
    · rw [if_neg hc12] at h11
      refine OpsJ.guard_n rfl rfl rfl rfl (Bool.eq_false_iff.2 hc12) ?_
      refine OpsJ.guard_n rfl rfl rfl rfl (Bool.eq_false_iff.2 hc12) ?_
      refine OpsJ.guard_n rfl rfl rfl rfl (Bool.eq_false_iff.2 hc12) ?_
      refine OpsJ.guard_n rfl rfl rfl rfl (Bool.eq_false_iff.2 hc12) ?_
      refine OpsJ.guard_n rfl rfl rfl rfl (Bool.eq_false_iff.2 hc12) ?_
      refine OpsJ.guard_n rfl rfl rfl rfl (Bool.eq_false_iff.2 hc12) ?_
      refine OpsJ.put rfl (OpJ.pure (OpP.pick_f rfl (Bool.eq_false_iff.2 hc12) rfl) ?_)
      refine OpsJ.put rfl (OpJ.pure (OpP.assign rfl) ?_)
      refine OpsJ.nil ?_
      refine CodeJ.ret' ?_
      obtain rfl := Option.some.inj h11
      exact Ret.mk0 ⟨rfl, rfl⟩ (ResJ.one Try.results41 rfl) (IM.le_refl _) (SubL.nil _)
  · rw [if_neg hc1] at h
    refine OpsJ.guard_n rfl rfl rfl rfl (decide_eq_false hc1) ?_
    refine OpsJ.guard_n rfl rfl rfl rfl (decide_eq_false hc1) ?_
    refine OpsJ.guard_n rfl rfl rfl rfl (decide_eq_false hc1) ?_
    refine OpsJ.guard_n rfl rfl rfl rfl (decide_eq_false hc1) ?_
    refine OpsJ.guard_n rfl rfl rfl rfl (decide_eq_false hc1) ?_
    refine OpsJ.guard_n rfl rfl rfl rfl (decide_eq_false hc1) ?_
    refine OpsJ.put rfl (OpJ.pure (OpP.pick_f rfl (decide_eq_false hc1) rfl) ?_)
    refine OpsJ.put rfl (OpJ.pure (OpP.move rfl) ?_)
    refine OpsJ.guard_n rfl rfl rfl rfl rfl ?_
    refine OpsJ.guard_n rfl rfl rfl rfl rfl ?_
    refine OpsJ.guard_n rfl rfl rfl rfl rfl ?_
    refine OpsJ.guard_n rfl rfl rfl rfl rfl ?_
    refine OpsJ.guard_n rfl rfl rfl rfl rfl ?_
    refine OpsJ.guard_n rfl rfl rfl rfl rfl ?_
    refine OpsJ.put rfl (OpJ.pure (OpP.pick_f rfl rfl rfl) ?_)
    refine OpsJ.put rfl (OpJ.pure (OpP.assign rfl) ?_)
    refine OpsJ.nil ?_
    refine CodeJ.ret' ?_
    obtain rfl := Option.some.inj h
    exact Ret.mk0 ⟨rfl, rfl⟩ (ResJ.one Try.results41 rfl) (IM.le_refl _) (SubL.nil _)
theorem octet_Writer_Raw_w (R : IM) (g0_ : Nat) (p0_w : List UInt8) (A0_1_ : Option Addr) (c0_2_ : Nat) (cs0_3_ : List Value) (hr0_4_ : repL IM.nil cs0_3_ p0_w) (A1_ : Option Addr) (n1_ c1_ : Nat) (p1_p : List UInt8) (hA1_ : SlR R A1_ p1_p) (hn1_ : p1_p.length = n1_) (hc1_ : n1_ ≤ c1_) (y : (List UInt8)) (h : octet_Writer_Raw p0_w p1_p = some y) :
    CallJ Try.prog 43 #[.pointer (some ⟨g0_, 0, none⟩), .slice A1_ n1_ c1_] ⟨R, [.blk g0_ [.slice A0_1_ p0_w.length c0_2_] 25, .row 5 1 A0_1_ p0_w.length c0_2_ cs0_3_]⟩ (fun v D hs' => ∃ (B1 : Option Addr) (d2 : Nat) (ds3 : List Value), v = .tuple #[] ∧ repL IM.nil ds3 y ∧ hs' = [.blk g0_ [.slice B1 y.length d2] 25, .row 5 1 B1 y.length d2 ds3]) := by
  subst hn1_
  unfold octet_Writer_Raw at h
  refine CallJ.of2 Try.func43 rfl Try.ntmps43 rfl (fun W0 => ?_)
  refine CodeJ.tail ?_
  refine CodeJ.seq' ?_
  refine CodeJ.region ?_
  refine OpsJ.put rfl (OpJ.pure (OpP.move rfl) ?_)
  refine OpsJ.put rfl (OpJ.pure (OpP.neq_nil rfl rfl) ?_)
  refine OpsJ.nil ?_
  refine CodeJ.cond_t rfl rfl ?_
  refine CodeJ.region ?_
  refine OpsJ.put rfl (OpJ.pure (OpP.move rfl) ?_)
  refine OpsJ.put rfl (OpJ.pure (OpP.move rfl) ?_)
  refine OpsJ.put rfl (OpJ.pure (OpP.nilCheck rfl) ?_)
  refine OpsJ.put rfl (OpJ.pure (OpP.fldAddr_lit rfl (by exact rfl)) ?_)
  refine OpsJ.put rfl (OpJ.pure (OpP.load_blk (by exact rfl) rfl (List.Mem.head _) rfl) ?_)
  refine OpsJ.put rfl (OpJ.pure (OpP.move rfl) ?_)
  obtain ⟨q3, hq4, h5⟩ := bind_ok h
  clear h
  obtain ⟨es6, hs7, hp8⟩ := SlR.out hA1_
  have hr11 : repL IM.nil (cs0_3_ ++ es6) q3 := app_rep hq4 hr0_4_ (flat_rep hp8)
  refine OpsJ.put rfl (OpJ.appW hq4 rfl rfl (Src.ofR (RC.mono hs7 (IM.le_refl _))) hp8 (by exact rfl) (List.Perm.swap _ _ _) (by exact rfl) (by exact rfl) (by exact rfl) rfl rfl (fun A9 c10 => ?_))
  refine OpsJ.put rfl (OpJ.pure (OpP.nilCheck rfl) ?_)
  refine OpsJ.put rfl (OpJ.pure (OpP.fldAddr_lit rfl (by exact rfl)) ?_)
  refine OpsJ.act (OpJ.storeC (us := [.slice A9 q3.length c10]) (cs := [.slice A9 q3.length c10]) rfl rfl rfl (List.Perm.swap _ _ _) (by exact rfl) rfl rfl rfl ?_)
  refine OpsJ.nil ?_
  refine FinJ.ret' ?_
  obtain rfl := Option.some.inj h5
  exact Ret.mk0 ⟨A9, c10, (cs0_3_ ++ es6), rfl, hr11, rfl⟩ (ResJ.none Try.results43) (IM.le_refl _) (SubL.p0 (SubL.p0 (SubL.nil _)))
theorem octet_Reader_Left_w (R : IM) (R0 : IM) (hR0 : IM.le R0 R) (g0_ : Nat) (p0_r : (List UInt8) × Bool) (A0_1_ : Option Addr) (c0_2_ : Nat) (hc0_3_ : p0_r.1.length ≤ c0_2_) (hA0_4_ : SlR R0 A0_1_ p0_r.1) (y : ((List UInt8) × Bool) × Int) (h : octet_Reader_Left p0_r = some y) :
    CallJ Try.prog 45 #[.pointer (some ⟨g0_, 0, none⟩)] ⟨R, [.blk g0_ [.slice A0_1_ p0_r.1.length c0_2_, .bool p0_r.2] 75]⟩ (fun v D hs' => ∃ (B1 : Option Addr) (d2 : Nat), v = .int .i64 y.2 ∧ y.1.1.length ≤ d2 ∧ SlR R0 B1 y.1.1 ∧ hs' = [.blk g0_ [.slice B1 y.1.1.length d2, .bool y.1.2] 75]) := by
  unfold octet_Reader_Left at h
  refine CallJ.of1 Try.func45 rfl Try.ntmps45 rfl (fun W0 => ?_)
  refine CodeJ.seq' ?_
  refine CodeJ.region ?_
  refine OpsJ.put rfl (OpJ.pure (OpP.assign rfl) ?_)
  refine OpsJ.nil ?_
  refine CodeJ.seq' ?_
  refine CodeJ.seq' ?_
  refine CodeJ.region ?_
  refine OpsJ.put rfl (OpJ.pure (OpP.move rfl) ?_)
  refine OpsJ.put rfl (OpJ.pure (OpP.eql_nil rfl rfl) ?_)
  refine OpsJ.nil ?_
  refine CodeJ.cond_f rfl rfl ?_
  refine CodeJ.skip ?_
  refine CodeJ.seq' ?_
  refine CodeJ.region ?_
  refine OpsJ.put rfl (OpJ.pure (OpP.move rfl) ?_)
  refine OpsJ.put rfl (OpJ.pure (OpP.nilCheck rfl) ?_)
  refine OpsJ.put rfl (OpJ.pure (OpP.fldAddr_lit rfl (by exact rfl)) ?_)
  refine OpsJ.put rfl (OpJ.pure (OpP.load_blk (by exact rfl) rfl (List.Mem.head _) rfl) ?_)
  refine OpsJ.put rfl (OpJ.pure (OpP.len rfl) ?_)
  refine OpsJ.put rfl (OpJ.pure (OpP.assign rfl) ?_)
  refine OpsJ.nil ?_
  refine CodeJ.ret' ?_
  obtain rfl := Option.some.inj h
  exact Ret.mk0 ⟨A0_1_, c0_2_, rfl, hc0_3_, (SlR.mono hA0_4_ (IM.le_refl _)), rfl⟩ (ResJ.one Try.results45 rfl) (IM.le_refl _) (SubL.p0 (SubL.nil _))
theorem octet_Reader_Bad_w (R : IM) (R0 : IM) (hR0 : IM.le R0 R) (g0_ : Nat) (p0_r : (List UInt8) × Bool) (A0_1_ : Option Addr) (c0_2_ : Nat) (hc0_3_ : p0_r.1.length ≤ c0_2_) (hA0_4_ : SlR R0 A0_1_ p0_r.1) (y : ((List UInt8) × Bool)) (h : octet_Reader_Bad p0_r = some y) :
    CallJ Try.prog 47 #[.pointer (some ⟨g0_, 0, none⟩)] ⟨R, [.blk g0_ [.slice A0_1_ p0_r.1.length c0_2_, .bool p0_r.2] 75]⟩ (fun v D hs' => ∃ (B1 : Option Addr) (d2 : Nat), v = .tuple #[] ∧ y.1.length ≤ d2 ∧ SlR R0 B1 y.1 ∧ hs' = [.blk g0_ [.slice B1 y.1.length d2, .bool y.2] 75]) := by
  unfold octet_Reader_Bad at h
  refine CallJ.of1 Try.func47 rfl Try.ntmps47 rfl (fun W0 => ?_)
  refine CodeJ.tail ?_
  refine CodeJ.seq' ?_
  refine CodeJ.region ?_
  refine OpsJ.put rfl (OpJ.pure (OpP.move rfl) ?_)
  refine OpsJ.put rfl (OpJ.pure (OpP.neq_nil rfl rfl) ?_)
  refine OpsJ.nil ?_
  refine CodeJ.cond_t rfl rfl ?_
  refine CodeJ.region ?_
  refine OpsJ.put rfl (OpJ.pure (OpP.move rfl) ?_)
  refine OpsJ.put rfl (OpJ.pure (OpP.move rfl) ?_)
  refine OpsJ.put rfl (OpJ.pure (OpP.nilCheck rfl) ?_)
  refine OpsJ.put rfl (OpJ.pure (OpP.fldAddr_lit rfl (by exact rfl)) ?_)
  refine OpsJ.act (OpJ.storeC (us := [.slice none 0 0]) (cs := [.slice none 0 0, .bool p0_r.2]) rfl rfl rfl (List.Perm.refl _) (by exact rfl) rfl rfl rfl ?_)
  refine OpsJ.put rfl (OpJ.pure (OpP.nilCheck rfl) ?_)
  refine OpsJ.put rfl (OpJ.pure (OpP.fldAddr_lit rfl (by exact rfl)) ?_)
  refine OpsJ.act (OpJ.storeC (us := [.bool true]) (cs := [.slice none 0 0, .bool true]) rfl rfl rfl (List.Perm.refl _) (by exact rfl) rfl rfl rfl ?_)
  refine OpsJ.nil ?_
  refine FinJ.ret' ?_
  obtain rfl := Option.some.inj h
  exact Ret.mk0 ⟨none, 0, rfl, (Nat.le_refl _), (SlR.mono (SlR.nil R0 none) (IM.le_refl _)), rfl⟩ (ResJ.none Try.results47) (IM.le_refl _) (SubL.p0 (SubL.nil _))
theorem winnowerref1_Reader_Bad_w (R : IM) (R0 : IM) (hR0 : IM.le R0 R) (g0_ : Nat) (p0_r : (List UInt8) × Bool) (A0_1_ : Option Addr) (c0_2_ : Nat) (hc0_3_ : p0_r.1.length ≤ c0_2_) (hA0_4_ : SlR R0 A0_1_ p0_r.1) (y : ((List UInt8) × Bool)) (h : winnowerref1_Reader_Bad p0_r = some y) :
    CallJ Try.prog 52 #[.pointer (some ⟨g0_, 0, none⟩)] ⟨R, [.blk g0_ [.slice A0_1_ p0_r.1.length c0_2_, .bool p0_r.2] 62]⟩ (fun v D hs' => ∃ (B1 : Option Addr) (d2 : Nat), v = .tuple #[] ∧ y.1.length ≤ d2 ∧ SlR R0 B1 y.1 ∧ hs' = [.blk g0_ [.slice B1 y.1.length d2, .bool y.2] 62]) := by
  unfold winnowerref1_Reader_Bad at h
  refine CallJ.of1 Try.func52 rfl Try.ntmps52 rfl (fun W0 => ?_)
  refine CodeJ.tail ?_
  refine CodeJ.seq' ?_
  refine CodeJ.region ?_
  refine OpsJ.put rfl (OpJ.pure (OpP.move rfl) ?_)
  refine OpsJ.put rfl (OpJ.pure (OpP.nilCheck rfl) ?_)
  refine OpsJ.put rfl (OpJ.pure (OpP.fldAddr_lit rfl (by exact rfl)) ?_)
  refine OpsJ.act (OpJ.storeC (us := [.bool true]) (cs := [.slice A0_1_ p0_r.1.length c0_2_, .bool true]) rfl rfl rfl (List.Perm.refl _) (by exact rfl) rfl rfl rfl ?_)
  refine OpsJ.nil ?_
  refine CodeJ.region ?_
  refine OpsJ.put rfl (OpJ.pure (OpP.move rfl) ?_)
  refine OpsJ.put rfl (OpJ.pure (OpP.nilCheck rfl) ?_)
  refine OpsJ.put rfl (OpJ.pure (OpP.fldAddr_lit rfl (by exact rfl)) ?_)
  refine OpsJ.act (OpJ.storeC (us := [.slice none 0 0]) (cs := [.slice none 0 0, .bool true]) rfl rfl rfl (List.Perm.refl _) (by exact rfl) rfl rfl rfl ?_)
  refine OpsJ.nil ?_
  refine FinJ.ret' ?_
  obtain rfl := Option.some.inj h
  exact Ret.mk0 ⟨none, 0, rfl, (Nat.le_refl _), (SlR.mono (SlR.nil R0 none) (IM.le_refl _)), rfl⟩ (ResJ.none Try.results52) (IM.le_refl _) (SubL.p0 (SubL.nil _))
theorem winnowerref1_Reader_Whole_w (R : IM) (R0 : IM) (hR0 : IM.le R0 R) (g0_ : Nat) (p0_r : (List UInt8) × Bool) (A0_1_ : Option Addr) (c0_2_ : Nat) (hc0_3_ : p0_r.1.length ≤ c0_2_) (hA0_4_ : SlR R0 A0_1_ p0_r.1) (y : ((List UInt8) × Bool) × Bool) (h : winnowerref1_Reader_Whole p0_r = some y) :
    CallJ Try.prog 53 #[.pointer (some ⟨g0_, 0, none⟩)] ⟨R, [.blk g0_ [.slice A0_1_ p0_r.1.length c0_2_, .bool p0_r.2] 62]⟩ (fun v D hs' => ∃ (B1 : Option Addr) (d2 : Nat), v = .bool y.2 ∧ y.1.1.length ≤ d2 ∧ SlR R0 B1 y.1.1 ∧ hs' = [.blk g0_ [.slice B1 y.1.1.length d2, .bool y.1.2] 62]) := by
  unfold winnowerref1_Reader_Whole at h
  refine CallJ.of1 Try.func53 rfl Try.ntmps53 rfl (fun W0 => ?_)
  refine CodeJ.seq' ?_
  refine CodeJ.region ?_
  refine OpsJ.put rfl (OpJ.pure (OpP.assign rfl) ?_)
  refine OpsJ.nil ?_
  refine CodeJ.seq' ?_
  refine CodeJ.region ?_
  refine OpsJ.put rfl (OpJ.pure (OpP.move rfl) ?_)
  refine OpsJ.put rfl (OpJ.pure (OpP.nilCheck rfl) ?_)
  refine OpsJ.put rfl (OpJ.pure (OpP.fldAddr_lit rfl (by exact rfl)) ?_)
  refine OpsJ.put rfl (OpJ.pure (OpP.load_blk (by exact rfl) rfl (List.Mem.head _) rfl) ?_)
  refine OpsJ.put rfl (OpJ.pure (OpP.not rfl) ?_)
  refine OpsJ.put rfl (OpJ.pure (OpP.move rfl) ?_)
  by_cases hc2 : p0_r.2 = true
  · rw [if_pos hc2] at h
    refine OpsJ.guard_n rfl rfl rfl rfl (congrArg Bool.not hc2) ?_
    refine OpsJ.guard_n rfl rfl rfl rfl (congrArg Bool.not hc2) ?_
    refine OpsJ.guard_n rfl rfl rfl rfl (congrArg Bool.not hc2) ?_
    refine OpsJ.guard_n rfl rfl rfl rfl (congrArg Bool.not hc2) ?_
    refine OpsJ.guard_n rfl rfl rfl rfl (congrArg Bool.not hc2) ?_
    refine OpsJ.guard_n rfl rfl rfl rfl (congrArg Bool.not hc2) ?_
    refine OpsJ.put rfl (OpJ.pure (OpP.pick_f rfl (congrArg Bool.not hc2) rfl) ?_)
    refine OpsJ.put rfl (OpJ.pure (OpP.assign rfl) ?_)
    refine OpsJ.nil ?_
    refine CodeJ.ret' ?_
    obtain rfl := Option.some.inj h
    exact Ret.mk0 ⟨A0_1_, c0_2_, rfl, hc0_3_, (SlR.mono hA0_4_ (IM.le_refl _)), rfl⟩ (ResJ.one Try.results53 rfl) (IM.le_refl _) (SubL.p0 (SubL.nil _))
  · rw [if_neg hc2] at h
    refine OpsJ.guard_y rfl rfl rfl rfl (congrArg Bool.not (Bool.eq_false_iff.2 hc2)) ?_
    refine OpsJ.put rfl (OpJ.pure (OpP.move rfl) ?_)
    refine OpsJ.guard_y rfl rfl rfl rfl (congrArg Bool.not (Bool.eq_false_iff.2 hc2)) ?_
    refine OpsJ.put rfl (OpJ.pure (OpP.nilCheck rfl) ?_)
    refine OpsJ.guard_y rfl rfl rfl rfl (congrArg Bool.not (Bool.eq_false_iff.2 hc2)) ?_
    refine OpsJ.put rfl (OpJ.pure (OpP.fldAddr_lit rfl (by exact rfl)) ?_)
    refine OpsJ.guard_y rfl rfl rfl rfl (congrArg Bool.not (Bool.eq_false_iff.2 hc2)) ?_
    refine OpsJ.put rfl (OpJ.pure (OpP.load_blk (by exact rfl) rfl (List.Mem.head _) rfl) ?_)
    refine OpsJ.guard_y rfl rfl rfl rfl (congrArg Bool.not (Bool.eq_false_iff.2 hc2)) ?_
    refine OpsJ.put rfl (OpJ.pure (OpP.len rfl) ?_)
    refine OpsJ.guard_y rfl rfl rfl rfl (congrArg Bool.not (Bool.eq_false_iff.2 hc2)) ?_
    refine OpsJ.put rfl (OpJ.pure (OpP.eql rfl rfl) ?_)
    refine OpsJ.put rfl (OpJ.pure (OpP.pick_t rfl (congrArg Bool.not (Bool.eq_false_iff.2 hc2)) rfl) ?_)
    refine OpsJ.put rfl (OpJ.pure (OpP.assign rfl) ?_)
    refine OpsJ.nil ?_
    refine CodeJ.ret' ?_
    obtain rfl := Option.some.inj h
    exact Ret.mk0 ⟨A0_1_, c0_2_, rfl, hc0_3_, (SlR.mono hA0_4_ (IM.le_refl _)), rfl⟩ (ResJ.one Try.results53 rfl) (IM.le_refl _) (SubL.p0 (SubL.nil _))
theorem bytes_Clone_w (R : IM) (A0_ : Option Addr) (n0_ c0_ : Nat) (p0 : List UInt8) (hA0_ : SlR R A0_ p0) (hn0_ : p0.length = n0_) (hc0_ : n0_ ≤ c0_) (y : List UInt8) (h : bytes_Clone p0 = some y) :
    CallJ Try.prog 57 #[.slice A0_ n0_ c0_] ⟨R, []⟩ (fun v D hs' => ∃ (A0 : Option Addr) (c0 : Nat) (cs0 : List Value), v = .slice A0 y.length c0 ∧ repL IM.nil cs0 y ∧ hs' = [.row 5 1 A0 y.length c0 cs0]) := by
  subst hn0_
  unfold bytes_Clone at h
  refine CallJ.of1 Try.func57 rfl Try.ntmps57 rfl (fun W0 => ?_)
  refine CodeJ.seq' ?_
  refine CodeJ.region ?_
  refine OpsJ.put rfl (OpJ.pure (OpP.assign rfl) ?_)
  refine OpsJ.nil ?_
  refine CodeJ.seq' ?_
  refine CodeJ.seq' ?_
  refine CodeJ.region ?_
  refine OpsJ.put rfl (OpJ.pure (OpP.move rfl) ?_)
  refine OpsJ.put rfl (OpJ.pure (OpP.eql_nil_slice rfl rfl) ?_)
  refine OpsJ.nil ?_
  cases A0_ with
  | none =>
    have hp : p0 = [] := SlR.none_nil hA0_ (by exact rfl)
    subst hp
    obtain ⟨_, rfl⟩ := app?_ok h
    refine CodeJ.cond_t rfl rfl ?_
    refine CodeJ.seq' ?_
    refine CodeJ.region ?_
    refine OpsJ.put rfl (OpJ.pure (OpP.assign rfl) ?_)
    refine OpsJ.nil ?_
    refine CodeJ.nilrow 5 1 ?_
    refine CodeJ.ret' ?_
    exact Ret.mk0 ⟨none, 0, [], rfl, repL_nil _, rfl⟩ (ResJ.one Try.results57 rfl) (IM.le_refl _) (SubL.p0 (SubL.nil _))
  | some a0 =>
    refine CodeJ.cond_f rfl rfl ?_
    refine CodeJ.skip ?_
    refine CodeJ.seq' ?_
    refine CodeJ.region ?_
    refine OpsJ.put rfl (OpJ.buildSliceC (cs := []) rfl rfl (by exact rfl) (by exact rfl) (by exact rfl) (by exact rfl) (fun g => ?_))
    refine OpsJ.put rfl (OpJ.pure (OpP.move rfl) ?_)
    obtain ⟨es, hs, hp⟩ := SlR.out hA0_
    have hr : repL IM.nil ([] ++ es) y := app_rep h (repL_nil _) (flat_rep hp)
    refine OpsJ.put rfl (OpJ.appW h rfl rfl (Src.ofR hs) hp (by exact rfl) (List.Perm.refl _) (by exact rfl) (by exact rfl) (by exact rfl) rfl rfl (fun A2 c2 => ?_))
    refine OpsJ.put rfl (OpJ.pure (OpP.assign rfl) ?_)
    refine OpsJ.nil ?_
    refine CodeJ.ret' ?_
    exact Ret.mk0 ⟨A2, c2, _, rfl, hr, rfl⟩ (ResJ.one Try.results57 rfl) (IM.le_refl _) (SubL.p0 (SubL.nil _))
theorem winnowerref1_Num_w (R : IM) (p0_v : Int) (y : (List UInt8)) (h : winnowerref1_Num p0_v = some y) :
    CallJ Try.prog 58 #[.int .i64 p0_v] ⟨R, []⟩ (fun v D hs' => ∃ (B1 : Option Addr) (d2 : Nat) (ds3 : List Value), v = .slice B1 y.length d2 ∧ repL IM.nil ds3 y ∧ hs' = [.row 5 1 B1 y.length d2 ds3]) := by
  unfold winnowerref1_Num at h
  refine CallJ.of1 Try.func58 rfl Try.ntmps58 rfl (fun W0 => ?_)
  refine CodeJ.seq' ?_
  refine CodeJ.region ?_
  refine OpsJ.put rfl (OpJ.pure (OpP.assign rfl) ?_)
  refine OpsJ.nil ?_
  refine CodeJ.seq' ?_
  refine CodeJ.region ?_
  refine OpsJ.put rfl (OpJ.pure (OpP.assign rfl) ?_)
  refine OpsJ.nil ?_
  refine CodeJ.seq' ?_
  refine CodeJ.seq' ?_
  refine CodeJ.region ?_
  refine OpsJ.put rfl (OpJ.pure (OpP.move rfl) ?_)
  refine OpsJ.put rfl (OpJ.pure (OpP.gtr rfl rfl) ?_)
  refine OpsJ.nil ?_
  by_cases hc1 : p0_v > 4611686018427387904
  · rw [if_pos hc1] at h
    refine CodeJ.cond_t rfl (decide_eq_true hc1) ?_
    refine CodeJ.region ?_
    refine OpsJ.put rfl (OpJ.pure (OpP.assign rfl) ?_)
    refine OpsJ.nil ?_
    refine CodeJ.seq' ?_
    refine CodeJ.region ?_
    refine OpsJ.put rfl (OpJ.pure (OpP.assign rfl) ?_)
    refine OpsJ.nil ?_
    refine CodeJ.seq' ?_
    refine CodeJ.nilrow 5 1 ?_
    obtain ⟨t60, hl61, h62⟩ := bind_ok h
    clear h
    refine CodeJ.mid (fun e s => ∃ (A53 : Option Addr) (c54 : Nat) (cs55 : List Value) (u_51 : UInt64) (b_52 : List UInt8), (u_51, b_52) = t60 ∧ repL IM.nil cs55 b_52 ∧ e = [(3, .int .u64 ((u_51.toNat : Nat) : Int)), (4, .slice A53 b_52.length c54)] ∧ s = ⟨R, [.row 5 1 A53 b_52.length c54 cs55]⟩) ?_ ?_
    · refine CodeJ.block ?_
      refine CodeJ.loopM hl61 (fun (u_33, b_34) e s => ∃ (A35 : Option Addr) (c36 : Nat) (cs37 : List Value), repL IM.nil cs37 b_34 ∧ e = [(3, .int .u64 ((u_33.toNat : Nat) : Int)), (4, .slice A35 b_34.length c36)] ∧ s = ⟨R, [.row 5 1 A35 b_34.length c36 cs37]⟩) ⟨none, 0, ([] : List Value), (repL_nil IM.nil), rfl, rfl⟩ (SubE.cons rfl (SubE.cons rfl (SubE.nil _))) (SubL.p0 (SubL.nil _)) ?_
      rintro ⟨u_33, b_34⟩ _ _ _ ⟨A35, c36, cs37, hr38, rfl, rfl⟩ h58 hne59
      (try dsimp only at h58); unfold winnowerref1_Num_l0 at h58
      refine CodeJ.seq' ?_
      refine CodeJ.seq' ?_
      refine CodeJ.region ?_
      refine OpsJ.put rfl (OpJ.pure (OpP.move rfl) ?_)
      refine OpsJ.put rfl (OpJ.pure (OpP.geq rfl rfl) ?_)
      refine OpsJ.nil ?_
      by_cases hc63 : ((u_33.toNat : Nat) : Int) ≥ (((128 : UInt64).toNat : Nat) : Int)
      · rw [if_pos hc63] at h58
        refine CodeJ.cond_t rfl (decide_eq_true hc63) ?_
        refine CodeJ.skip ?_
        refine CodeJ.block ?_
        refine CodeJ.seq' ?_
        refine CodeJ.region ?_
        refine OpsJ.put rfl (OpJ.pure (OpP.move rfl) ?_)
        refine OpsJ.put rfl (OpJ.pure (OpP.move rfl) ?_)
        refine OpsJ.put rfl (OpJ.pure (OpP.andU64 (a := u_33) (b := (127 : UInt64)) rfl rfl) ?_)
        refine OpsJ.put rfl (OpJ.pure (OpP.toU8 rfl) ?_)
        refine OpsJ.put rfl (OpJ.pure (OpP.orU8 (a := (ofI8 (((u_33 &&& (127 : UInt64)).toNat : Nat) : Int))) (b := (128 : UInt8)) rfl rfl) ?_)
        have hr65 : repL IM.nil [.int .u8 ((((ofI8 (((u_33 &&& (127 : UInt64)).toNat : Nat) : Int)) ||| (128 : UInt8)).toNat : Nat) : Int)] ([((ofI8 (((u_33 &&& (127 : UInt64)).toNat : Nat) : Int)) ||| (128 : UInt8))] : List UInt8) := (repL_cons (c1 := [.int .u8 ((((ofI8 (((u_33 &&& (127 : UInt64)).toNat : Nat) : Int)) ||| (128 : UInt8)).toNat : Nat) : Int)]) (show Dat.rep _ _ ((ofI8 (((u_33 &&& (127 : UInt64)).toNat : Nat) : Int)) ||| (128 : UInt8)) from rfl) (repL_nil _))
        refine OpsJ.put rfl (OpJ.buildSliceC (cs := [.int .u8 ((((ofI8 (((u_33 &&& (127 : UInt64)).toNat : Nat) : Int)) ||| (128 : UInt8)).toNat : Nat) : Int)]) rfl rfl (by exact rfl) (by exact rfl) (by exact rfl) (by exact rfl) (fun g64 => ?_))
        obtain ⟨q67, hq68, h69⟩ := bind_ok h58
        clear h58
        have hr72 : repL IM.nil (cs37 ++ ([.int .u8 ((((ofI8 (((u_33 &&& (127 : UInt64)).toNat : Nat) : Int)) ||| (128 : UInt8)).toNat : Nat) : Int)] : List Value)) q67 := app_rep hq68 hr38 hr65
        refine OpsJ.put rfl (OpJ.appW hq68 rfl rfl (Src.ofRow (List.Mem.head _)) hr65 (by exact rfl) (List.Perm.swap _ _ _) (by exact rfl) (by exact rfl) (by exact rfl) rfl rfl (fun A70 c71 => ?_))
        refine OpsJ.put rfl (OpJ.pure (OpP.assign rfl) ?_)
        refine OpsJ.nil ?_
        refine CodeJ.region ?_
        refine OpsJ.put rfl (OpJ.pure (OpP.move rfl) ?_)
        refine OpsJ.put rfl (OpJ.pure (OpP.shrU64 (a := u_33) (m := 7) rfl rfl rfl) ?_)
        refine OpsJ.put rfl (OpJ.pure (OpP.assign rfl) ?_)
        refine OpsJ.nil ?_
        obtain rfl := Option.some.inj h69
        exact ⟨_, _, _, _, rfl, ⟨A70, c71, (cs37 ++ ([.int .u8 ((((ofI8 (((u_33 &&& (127 : UInt64)).toNat : Nat) : Int)) ||| (128 : UInt8)).toNat : Nat) : Int)] : List Value)), hr72, rfl, rfl⟩, IM.le_refl _, (SubE.cons rfl (SubE.cons rfl (SubE.nil _))), (SubL.p0 (SubL.nil _))⟩
      · rw [if_neg hc63] at h58
        refine CodeJ.cond_f rfl (decide_eq_false hc63) ?_
        refine CodeJ.exit rfl ?_
        obtain rfl := Option.some.inj h58
        have ht74 := hne59 _ rfl
        exact ⟨_, _, _, ⟨A35, c36, cs37, u_33, b_34, ht74, hr38, rfl, rfl⟩, IM.le_refl _, (SubE.cons rfl (SubE.cons rfl (SubE.nil _))), (SubL.p0 (SubL.nil _))⟩
    · rintro _ _ ⟨A53, c54, cs55, u_51, b_52, rfl, hr56, rfl, rfl⟩
      (try dsimp only at h62)
      refine CodeJ.seq' ?_
      refine CodeJ.region ?_
      refine OpsJ.put rfl (OpJ.pure (OpP.move rfl) ?_)
      refine OpsJ.put rfl (OpJ.pure (OpP.move rfl) ?_)
      refine OpsJ.put rfl (OpJ.pure (OpP.toU8 rfl) ?_)
      have hr76 : repL IM.nil [.int .u8 (((ofI8 ((u_51.toNat : Nat) : Int)).toNat : Nat) : Int)] ([(ofI8 ((u_51.toNat : Nat) : Int))] : List UInt8) := (repL_cons (c1 := [.int .u8 (((ofI8 ((u_51.toNat : Nat) : Int)).toNat : Nat) : Int)]) (show Dat.rep _ _ (ofI8 ((u_51.toNat : Nat) : Int)) from rfl) (repL_nil _))
      refine OpsJ.put rfl (OpJ.buildSliceC (cs := [.int .u8 (((ofI8 ((u_51.toNat : Nat) : Int)).toNat : Nat) : Int)]) rfl rfl (by exact rfl) (by exact rfl) (by exact rfl) (by exact rfl) (fun g75 => ?_))
      obtain ⟨q78, hq79, h80⟩ := bind_ok h62
      clear h62
      have hr83 : repL IM.nil (cs55 ++ ([.int .u8 (((ofI8 ((u_51.toNat : Nat) : Int)).toNat : Nat) : Int)] : List Value)) q78 := app_rep hq79 hr56 hr76
      refine OpsJ.put rfl (OpJ.appW hq79 rfl rfl (Src.ofRow (List.Mem.head _)) hr76 (by exact rfl) (List.Perm.swap _ _ _) (by exact rfl) (by exact rfl) (by exact rfl) rfl rfl (fun A81 c82 => ?_))
      refine OpsJ.put rfl (OpJ.pure (OpP.assign rfl) ?_)
      refine OpsJ.nil ?_
      refine CodeJ.ret' ?_
      obtain rfl := Option.some.inj h80
      exact Ret.mk0 ⟨A81, c82, (cs55 ++ ([.int .u8 (((ofI8 ((u_51.toNat : Nat) : Int)).toNat : Nat) : Int)] : List Value)), rfl, hr83, rfl⟩ (ResJ.one Try.results58 rfl) (IM.le_refl _) (SubL.p0 (SubL.nil _))
  · rw [if_neg hc1] at h
    refine CodeJ.cond_f rfl (decide_eq_false hc1) ?_
    refine CodeJ.seq' ?_
    refine CodeJ.region ?_
    refine OpsJ.put rfl (OpJ.pure (OpP.move rfl) ?_)
    refine OpsJ.put rfl (OpJ.pure (OpP.gtr rfl rfl) ?_)
    refine OpsJ.nil ?_
    by_cases hc87 : p0_v > 0
    · rw [if_pos hc87] at h
      refine CodeJ.cond_t rfl (decide_eq_true hc87) ?_
      refine CodeJ.region ?_
      refine OpsJ.put rfl (OpJ.pure (OpP.move rfl) ?_)
      refine OpsJ.put rfl (OpJ.pure (OpP.toU64 rfl) ?_)
      refine OpsJ.put rfl (OpJ.pure (OpP.assign rfl) ?_)
      refine OpsJ.nil ?_
      refine CodeJ.seq' ?_
      refine CodeJ.region ?_
      refine OpsJ.put rfl (OpJ.pure (OpP.assign rfl) ?_)
      refine OpsJ.nil ?_
      refine CodeJ.seq' ?_
      refine CodeJ.nilrow 5 1 ?_
      obtain ⟨t146, hl147, h148⟩ := bind_ok h
      clear h
      refine CodeJ.mid (fun e s => ∃ (A139 : Option Addr) (c140 : Nat) (cs141 : List Value) (u_137 : UInt64) (b_138 : List UInt8), (u_137, b_138) = t146 ∧ repL IM.nil cs141 b_138 ∧ e = [(3, .int .u64 ((u_137.toNat : Nat) : Int)), (4, .slice A139 b_138.length c140)] ∧ s = ⟨R, [.row 5 1 A139 b_138.length c140 cs141]⟩) ?_ ?_
      · refine CodeJ.block ?_
        refine CodeJ.loopM hl147 (fun (u_119, b_120) e s => ∃ (A121 : Option Addr) (c122 : Nat) (cs123 : List Value), repL IM.nil cs123 b_120 ∧ e = [(3, .int .u64 ((u_119.toNat : Nat) : Int)), (4, .slice A121 b_120.length c122)] ∧ s = ⟨R, [.row 5 1 A121 b_120.length c122 cs123]⟩) ⟨none, 0, ([] : List Value), (repL_nil IM.nil), rfl, rfl⟩ (SubE.cons rfl (SubE.cons rfl (SubE.nil _))) (SubL.p0 (SubL.nil _)) ?_
        rintro ⟨u_119, b_120⟩ _ _ _ ⟨A121, c122, cs123, hr124, rfl, rfl⟩ h144 hne145
        (try dsimp only at h144); unfold winnowerref1_Num_l0 at h144
        refine CodeJ.seq' ?_
        refine CodeJ.seq' ?_
        refine CodeJ.region ?_
        refine OpsJ.put rfl (OpJ.pure (OpP.move rfl) ?_)
        refine OpsJ.put rfl (OpJ.pure (OpP.geq rfl rfl) ?_)
        refine OpsJ.nil ?_
        by_cases hc149 : ((u_119.toNat : Nat) : Int) ≥ (((128 : UInt64).toNat : Nat) : Int)
        · rw [if_pos hc149] at h144
          refine CodeJ.cond_t rfl (decide_eq_true hc149) ?_
          refine CodeJ.skip ?_
          refine CodeJ.block ?_
          refine CodeJ.seq' ?_
          refine CodeJ.region ?_
          refine OpsJ.put rfl (OpJ.pure (OpP.move rfl) ?_)
          refine OpsJ.put rfl (OpJ.pure (OpP.move rfl) ?_)
          refine OpsJ.put rfl (OpJ.pure (OpP.andU64 (a := u_119) (b := (127 : UInt64)) rfl rfl) ?_)
          refine OpsJ.put rfl (OpJ.pure (OpP.toU8 rfl) ?_)
          refine OpsJ.put rfl (OpJ.pure (OpP.orU8 (a := (ofI8 (((u_119 &&& (127 : UInt64)).toNat : Nat) : Int))) (b := (128 : UInt8)) rfl rfl) ?_)
          have hr151 : repL IM.nil [.int .u8 ((((ofI8 (((u_119 &&& (127 : UInt64)).toNat : Nat) : Int)) ||| (128 : UInt8)).toNat : Nat) : Int)] ([((ofI8 (((u_119 &&& (127 : UInt64)).toNat : Nat) : Int)) ||| (128 : UInt8))] : List UInt8) := (repL_cons (c1 := [.int .u8 ((((ofI8 (((u_119 &&& (127 : UInt64)).toNat : Nat) : Int)) ||| (128 : UInt8)).toNat : Nat) : Int)]) (show Dat.rep _ _ ((ofI8 (((u_119 &&& (127 : UInt64)).toNat : Nat) : Int)) ||| (128 : UInt8)) from rfl) (repL_nil _))
          refine OpsJ.put rfl (OpJ.buildSliceC (cs := [.int .u8 ((((ofI8 (((u_119 &&& (127 : UInt64)).toNat : Nat) : Int)) ||| (128 : UInt8)).toNat : Nat) : Int)]) rfl rfl (by exact rfl) (by exact rfl) (by exact rfl) (by exact rfl) (fun g150 => ?_))
          obtain ⟨q153, hq154, h155⟩ := bind_ok h144
          clear h144
          have hr158 : repL IM.nil (cs123 ++ ([.int .u8 ((((ofI8 (((u_119 &&& (127 : UInt64)).toNat : Nat) : Int)) ||| (128 : UInt8)).toNat : Nat) : Int)] : List Value)) q153 := app_rep hq154 hr124 hr151
          refine OpsJ.put rfl (OpJ.appW hq154 rfl rfl (Src.ofRow (List.Mem.head _)) hr151 (by exact rfl) (List.Perm.swap _ _ _) (by exact rfl) (by exact rfl) (by exact rfl) rfl rfl (fun A156 c157 => ?_))
          refine OpsJ.put rfl (OpJ.pure (OpP.assign rfl) ?_)
          refine OpsJ.nil ?_
          refine CodeJ.region ?_
          refine OpsJ.put rfl (OpJ.pure (OpP.move rfl) ?_)
          refine OpsJ.put rfl (OpJ.pure (OpP.shrU64 (a := u_119) (m := 7) rfl rfl rfl) ?_)
          refine OpsJ.put rfl (OpJ.pure (OpP.assign rfl) ?_)
          refine OpsJ.nil ?_
          obtain rfl := Option.some.inj h155
          exact ⟨_, _, _, _, rfl, ⟨A156, c157, (cs123 ++ ([.int .u8 ((((ofI8 (((u_119 &&& (127 : UInt64)).toNat : Nat) : Int)) ||| (128 : UInt8)).toNat : Nat) : Int)] : List Value)), hr158, rfl, rfl⟩, IM.le_refl _, (SubE.cons rfl (SubE.cons rfl (SubE.nil _))), (SubL.p0 (SubL.nil _))⟩
        · rw [if_neg hc149] at h144
          refine CodeJ.cond_f rfl (decide_eq_false hc149) ?_
          refine CodeJ.exit rfl ?_
          obtain rfl := Option.some.inj h144
          have ht160 := hne145 _ rfl
          exact ⟨_, _, _, ⟨A121, c122, cs123, u_119, b_120, ht160, hr124, rfl, rfl⟩, IM.le_refl _, (SubE.cons rfl (SubE.cons rfl (SubE.nil _))), (SubL.p0 (SubL.nil _))⟩
      · rintro _ _ ⟨A139, c140, cs141, u_137, b_138, rfl, hr142, rfl, rfl⟩
        (try dsimp only at h148)
        refine CodeJ.seq' ?_
        refine CodeJ.region ?_
        refine OpsJ.put rfl (OpJ.pure (OpP.move rfl) ?_)
        refine OpsJ.put rfl (OpJ.pure (OpP.move rfl) ?_)
        refine OpsJ.put rfl (OpJ.pure (OpP.toU8 rfl) ?_)
        have hr162 : repL IM.nil [.int .u8 (((ofI8 ((u_137.toNat : Nat) : Int)).toNat : Nat) : Int)] ([(ofI8 ((u_137.toNat : Nat) : Int))] : List UInt8) := (repL_cons (c1 := [.int .u8 (((ofI8 ((u_137.toNat : Nat) : Int)).toNat : Nat) : Int)]) (show Dat.rep _ _ (ofI8 ((u_137.toNat : Nat) : Int)) from rfl) (repL_nil _))
        refine OpsJ.put rfl (OpJ.buildSliceC (cs := [.int .u8 (((ofI8 ((u_137.toNat : Nat) : Int)).toNat : Nat) : Int)]) rfl rfl (by exact rfl) (by exact rfl) (by exact rfl) (by exact rfl) (fun g161 => ?_))
        obtain ⟨q164, hq165, h166⟩ := bind_ok h148
        clear h148
        have hr169 : repL IM.nil (cs141 ++ ([.int .u8 (((ofI8 ((u_137.toNat : Nat) : Int)).toNat : Nat) : Int)] : List Value)) q164 := app_rep hq165 hr142 hr162
        refine OpsJ.put rfl (OpJ.appW hq165 rfl rfl (Src.ofRow (List.Mem.head _)) hr162 (by exact rfl) (List.Perm.swap _ _ _) (by exact rfl) (by exact rfl) (by exact rfl) rfl rfl (fun A167 c168 => ?_))
        refine OpsJ.put rfl (OpJ.pure (OpP.assign rfl) ?_)
        refine OpsJ.nil ?_
        refine CodeJ.ret' ?_
        obtain rfl := Option.some.inj h166
        exact Ret.mk0 ⟨A167, c168, (cs141 ++ ([.int .u8 (((ofI8 ((u_137.toNat : Nat) : Int)).toNat : Nat) : Int)] : List Value)), rfl, hr169, rfl⟩ (ResJ.one Try.results58 rfl) (IM.le_refl _) (SubL.p0 (SubL.nil _))
    · rw [if_neg hc87] at h
      refine CodeJ.cond_f rfl (decide_eq_false hc87) ?_
      refine CodeJ.skip ?_
      refine CodeJ.seq' ?_
      refine CodeJ.region ?_
      refine OpsJ.put rfl (OpJ.pure (OpP.assign rfl) ?_)
      refine OpsJ.nil ?_
      refine CodeJ.seq' ?_
      refine CodeJ.nilrow 5 1 ?_
      obtain ⟨t231, hl232, h233⟩ := bind_ok h
      clear h
      refine CodeJ.mid (fun e s => ∃ (A224 : Option Addr) (c225 : Nat) (cs226 : List Value) (u_222 : UInt64) (b_223 : List UInt8), (u_222, b_223) = t231 ∧ repL IM.nil cs226 b_223 ∧ e = [(3, .int .u64 ((u_222.toNat : Nat) : Int)), (4, .slice A224 b_223.length c225)] ∧ s = ⟨R, [.row 5 1 A224 b_223.length c225 cs226]⟩) ?_ ?_
      · refine CodeJ.block ?_
        refine CodeJ.loopM hl232 (fun (u_204, b_205) e s => ∃ (A206 : Option Addr) (c207 : Nat) (cs208 : List Value), repL IM.nil cs208 b_205 ∧ e = [(3, .int .u64 ((u_204.toNat : Nat) : Int)), (4, .slice A206 b_205.length c207)] ∧ s = ⟨R, [.row 5 1 A206 b_205.length c207 cs208]⟩) ⟨none, 0, ([] : List Value), (repL_nil IM.nil), rfl, rfl⟩ (SubE.cons rfl (SubE.cons rfl (SubE.nil _))) (SubL.p0 (SubL.nil _)) ?_
        rintro ⟨u_204, b_205⟩ _ _ _ ⟨A206, c207, cs208, hr209, rfl, rfl⟩ h229 hne230
        (try dsimp only at h229); unfold winnowerref1_Num_l0 at h229
        refine CodeJ.seq' ?_
        refine CodeJ.seq' ?_
        refine CodeJ.region ?_
        refine OpsJ.put rfl (OpJ.pure (OpP.move rfl) ?_)
        refine OpsJ.put rfl (OpJ.pure (OpP.geq rfl rfl) ?_)
        refine OpsJ.nil ?_
        by_cases hc234 : ((u_204.toNat : Nat) : Int) ≥ (((128 : UInt64).toNat : Nat) : Int)
        · rw [if_pos hc234] at h229
          refine CodeJ.cond_t rfl (decide_eq_true hc234) ?_
          refine CodeJ.skip ?_
          refine CodeJ.block ?_
          refine CodeJ.seq' ?_
          refine CodeJ.region ?_
          refine OpsJ.put rfl (OpJ.pure (OpP.move rfl) ?_)
          refine OpsJ.put rfl (OpJ.pure (OpP.move rfl) ?_)
          refine OpsJ.put rfl (OpJ.pure (OpP.andU64 (a := u_204) (b := (127 : UInt64)) rfl rfl) ?_)
          refine OpsJ.put rfl (OpJ.pure (OpP.toU8 rfl) ?_)
          refine OpsJ.put rfl (OpJ.pure (OpP.orU8 (a := (ofI8 (((u_204 &&& (127 : UInt64)).toNat : Nat) : Int))) (b := (128 : UInt8)) rfl rfl) ?_)
          have hr236 : repL IM.nil [.int .u8 ((((ofI8 (((u_204 &&& (127 : UInt64)).toNat : Nat) : Int)) ||| (128 : UInt8)).toNat : Nat) : Int)] ([((ofI8 (((u_204 &&& (127 : UInt64)).toNat : Nat) : Int)) ||| (128 : UInt8))] : List UInt8) := (repL_cons (c1 := [.int .u8 ((((ofI8 (((u_204 &&& (127 : UInt64)).toNat : Nat) : Int)) ||| (128 : UInt8)).toNat : Nat) : Int)]) (show Dat.rep _ _ ((ofI8 (((u_204 &&& (127 : UInt64)).toNat : Nat) : Int)) ||| (128 : UInt8)) from rfl) (repL_nil _))
          refine OpsJ.put rfl (OpJ.buildSliceC (cs := [.int .u8 ((((ofI8 (((u_204 &&& (127 : UInt64)).toNat : Nat) : Int)) ||| (128 : UInt8)).toNat : Nat) : Int)]) rfl rfl (by exact rfl) (by exact rfl) (by exact rfl) (by exact rfl) (fun g235 => ?_))
          obtain ⟨q238, hq239, h240⟩ := bind_ok h229
          clear h229
          have hr243 : repL IM.nil (cs208 ++ ([.int .u8 ((((ofI8 (((u_204 &&& (127 : UInt64)).toNat : Nat) : Int)) ||| (128 : UInt8)).toNat : Nat) : Int)] : List Value)) q238 := app_rep hq239 hr209 hr236
          refine OpsJ.put rfl (OpJ.appW hq239 rfl rfl (Src.ofRow (List.Mem.head _)) hr236 (by exact rfl) (List.Perm.swap _ _ _) (by exact rfl) (by exact rfl) (by exact rfl) rfl rfl (fun A241 c242 => ?_))
          refine OpsJ.put rfl (OpJ.pure (OpP.assign rfl) ?_)
          refine OpsJ.nil ?_
          refine CodeJ.region ?_
          refine OpsJ.put rfl (OpJ.pure (OpP.move rfl) ?_)
          refine OpsJ.put rfl (OpJ.pure (OpP.shrU64 (a := u_204) (m := 7) rfl rfl rfl) ?_)
          refine OpsJ.put rfl (OpJ.pure (OpP.assign rfl) ?_)
          refine OpsJ.nil ?_
          obtain rfl := Option.some.inj h240
          exact ⟨_, _, _, _, rfl, ⟨A241, c242, (cs208 ++ ([.int .u8 ((((ofI8 (((u_204 &&& (127 : UInt64)).toNat : Nat) : Int)) ||| (128 : UInt8)).toNat : Nat) : Int)] : List Value)), hr243, rfl, rfl⟩, IM.le_refl _, (SubE.cons rfl (SubE.cons rfl (SubE.nil _))), (SubL.p0 (SubL.nil _))⟩
        · rw [if_neg hc234] at h229
          refine CodeJ.cond_f rfl (decide_eq_false hc234) ?_
          refine CodeJ.exit rfl ?_
          obtain rfl := Option.some.inj h229
          have ht245 := hne230 _ rfl
          exact ⟨_, _, _, ⟨A206, c207, cs208, u_204, b_205, ht245, hr209, rfl, rfl⟩, IM.le_refl _, (SubE.cons rfl (SubE.cons rfl (SubE.nil _))), (SubL.p0 (SubL.nil _))⟩
      · rintro _ _ ⟨A224, c225, cs226, u_222, b_223, rfl, hr227, rfl, rfl⟩
        (try dsimp only at h233)
        refine CodeJ.seq' ?_
        refine CodeJ.region ?_
        refine OpsJ.put rfl (OpJ.pure (OpP.move rfl) ?_)
        refine OpsJ.put rfl (OpJ.pure (OpP.move rfl) ?_)
        refine OpsJ.put rfl (OpJ.pure (OpP.toU8 rfl) ?_)
        have hr247 : repL IM.nil [.int .u8 (((ofI8 ((u_222.toNat : Nat) : Int)).toNat : Nat) : Int)] ([(ofI8 ((u_222.toNat : Nat) : Int))] : List UInt8) := (repL_cons (c1 := [.int .u8 (((ofI8 ((u_222.toNat : Nat) : Int)).toNat : Nat) : Int)]) (show Dat.rep _ _ (ofI8 ((u_222.toNat : Nat) : Int)) from rfl) (repL_nil _))
        refine OpsJ.put rfl (OpJ.buildSliceC (cs := [.int .u8 (((ofI8 ((u_222.toNat : Nat) : Int)).toNat : Nat) : Int)]) rfl rfl (by exact rfl) (by exact rfl) (by exact rfl) (by exact rfl) (fun g246 => ?_))
        obtain ⟨q249, hq250, h251⟩ := bind_ok h233
        clear h233
        have hr254 : repL IM.nil (cs226 ++ ([.int .u8 (((ofI8 ((u_222.toNat : Nat) : Int)).toNat : Nat) : Int)] : List Value)) q249 := app_rep hq250 hr227 hr247
        refine OpsJ.put rfl (OpJ.appW hq250 rfl rfl (Src.ofRow (List.Mem.head _)) hr247 (by exact rfl) (List.Perm.swap _ _ _) (by exact rfl) (by exact rfl) (by exact rfl) rfl rfl (fun A252 c253 => ?_))
        refine OpsJ.put rfl (OpJ.pure (OpP.assign rfl) ?_)
        refine OpsJ.nil ?_
        refine CodeJ.ret' ?_
        obtain rfl := Option.some.inj h251
        exact Ret.mk0 ⟨A252, c253, (cs226 ++ ([.int .u8 (((ofI8 ((u_222.toNat : Nat) : Int)).toNat : Nat) : Int)] : List Value)), rfl, hr254, rfl⟩ (ResJ.one Try.results58 rfl) (IM.le_refl _) (SubL.p0 (SubL.nil _))
theorem octet_Writer_Out_w (R : IM) (g0_ : Nat) (p0_w : List UInt8) (A0_1_ : Option Addr) (c0_2_ : Nat) (cs0_3_ : List Value) (hr0_4_ : repL IM.nil cs0_3_ p0_w) (y : (List UInt8) × (List UInt8)) (h : octet_Writer_Out p0_w = some y) :
    CallJ Try.prog 18 #[.pointer (some ⟨g0_, 0, none⟩)] ⟨R, [.blk g0_ [.slice A0_1_ p0_w.length c0_2_] 25, .row 5 1 A0_1_ p0_w.length c0_2_ cs0_3_]⟩ (fun v D hs' => ∃ (B1 : Option Addr) (d2 : Nat) (ds3 : List Value) (B5 : Option Addr) (d6 : Nat) (ds7 : List Value), v = .slice B5 y.2.length d6 ∧ repL IM.nil ds3 y.1 ∧ repL IM.nil ds7 y.2 ∧ hs' = [.blk g0_ [.slice B1 y.1.length d2] 25, .row 5 1 B1 y.1.length d2 ds3, .row 5 1 B5 y.2.length d6 ds7]) := by
  unfold octet_Writer_Out at h
  refine CallJ.of1 Try.func18 rfl Try.ntmps18 rfl (fun W0 => ?_)
  refine CodeJ.seq' ?_
  refine CodeJ.region ?_
  refine OpsJ.put rfl (OpJ.pure (OpP.assign rfl) ?_)
  refine OpsJ.nil ?_
  refine CodeJ.seq' ?_
  refine CodeJ.seq' ?_
  refine CodeJ.region ?_
  refine OpsJ.put rfl (OpJ.pure (OpP.move rfl) ?_)
  refine OpsJ.put rfl (OpJ.pure (OpP.eql_nil rfl rfl) ?_)
  refine OpsJ.nil ?_
  refine CodeJ.cond_f rfl rfl ?_
  refine CodeJ.skip ?_
  refine CodeJ.seq' ?_
  refine CodeJ.region ?_
  refine OpsJ.put rfl (OpJ.pure (OpP.move rfl) ?_)
  refine OpsJ.put rfl (OpJ.pure (OpP.nilCheck rfl) ?_)
  refine OpsJ.put rfl (OpJ.pure (OpP.fldAddr_lit rfl (by exact rfl)) ?_)
  refine OpsJ.put rfl (OpJ.pure (OpP.load_blk (by exact rfl) rfl (List.Mem.head _) rfl) ?_)
  refine OpsJ.rowle (List.Perm.swap _ _ _) (fun hcap3 _ => ?_)
  obtain ⟨y7, hy8, h9⟩ := bind_ok h
  clear h
  refine OpsJ.put rfl (OpJ.callP Split.nil rfl (fun R4 hle5 hin6 => bytes_Clone_w R4 A0_1_ p0_w.length c0_2_ p0_w (SlR.of_row (inRow hin6 (List.Mem.tail _ (List.Mem.head _))) hr0_4_ (IM.le_nil _)) rfl hcap3  _ hy8) ?_)
  rintro _ _ _ ⟨A10, c11, cs12, rfl, hr13, rfl⟩
  refine OpsJ.put rfl (OpJ.pure (OpP.assign rfl) ?_)
  refine OpsJ.nil ?_
  refine CodeJ.ret' ?_
  obtain rfl := Option.some.inj h9
  exact Ret.mk0 ⟨A0_1_, c0_2_, cs0_3_, A10, c11, cs12, rfl, hr0_4_, hr13, rfl⟩ (ResJ.one Try.results18 rfl) (IM.le_refl _) (SubL.p1 (SubL.p1 (SubL.p0 (SubL.nil _))))
theorem winnowerref1_Nums_w (R : IM) (A0_ : Option Addr) (n0_ c0_ : Nat) (p0_v : List Int) (hA0_ : SlR R A0_ p0_v) (hn0_ : p0_v.length = n0_) (hc0_ : n0_ ≤ c0_) (y : (List UInt8)) (h : winnowerref1_Nums p0_v = some y) :
    CallJ Try.prog 20 #[.slice A0_ n0_ c0_] ⟨R, []⟩ (fun v D hs' => ∃ (B1 : Option Addr) (d2 : Nat) (ds3 : List Value), v = .slice B1 y.length d2 ∧ repL IM.nil ds3 y ∧ hs' = [.row 5 1 B1 y.length d2 ds3]) := by
  subst hn0_
  unfold winnowerref1_Nums at h
  refine CallJ.of1 Try.func20 rfl Try.ntmps20 rfl (fun W0 => ?_)
  refine CodeJ.seq' ?_
  refine CodeJ.region ?_
  refine OpsJ.put rfl (OpJ.pure (OpP.assign rfl) ?_)
  refine OpsJ.nil ?_
  refine CodeJ.seq' ?_
  refine CodeJ.region ?_
  refine OpsJ.put rfl (OpJ.pure (OpP.assign rfl) ?_)
  refine OpsJ.nil ?_
  refine CodeJ.seq' ?_
  refine CodeJ.seq' ?_
  refine CodeJ.region ?_
  refine OpsJ.put rfl (OpJ.pure (OpP.assign rfl) ?_)
  refine OpsJ.nil ?_
  refine CodeJ.nilrow 5 1 ?_
  obtain ⟨t94, hl95, h96⟩ := bind_ok h
  clear h
  refine CodeJ.mid (fun e s => ∃ (A87 : Option Addr) (c88 : Nat) (cs89 : List Value) (b_86 : List UInt8), b_86 = t94 ∧ repL IM.nil cs89 b_86 ∧ e = [(3, .slice A87 b_86.length c88)] ∧ s = ⟨R, [.row 5 1 A87 b_86.length c88 cs89]⟩) ?_ ?_
  · refine CodeJ.block ?_
    refine CodeJ.loopM hl95 (fun (b_56, i_62) e s => ∃ (A57 : Option Addr) (c58 : Nat) (cs59 : List Value), repL IM.nil cs59 b_56 ∧ e = [(0, .slice A0_ p0_v.length c0_), (3, .slice A57 b_56.length c58), (4, .int .i64 i_62)] ∧ s = ⟨R, [.row 5 1 A57 b_56.length c58 cs59]⟩) ⟨none, 0, ([] : List Value), (repL_nil IM.nil), rfl, rfl⟩ (SubE.cons rfl (SubE.cons rfl (SubE.cons rfl (SubE.nil _)))) (SubL.p0 (SubL.nil _)) ?_
    rintro ⟨b_56, i_62⟩ _ _ _ ⟨A57, c58, cs59, hr60, rfl, rfl⟩ h92 hne93
    (try dsimp only at h92); unfold winnowerref1_Nums_l0 at h92
    refine CodeJ.seq' ?_
    refine CodeJ.seq' ?_
    refine CodeJ.region ?_
    refine OpsJ.put rfl (OpJ.pure (OpP.move rfl) ?_)
    refine OpsJ.put rfl (OpJ.pure (OpP.move rfl) ?_)
    refine OpsJ.put rfl (OpJ.pure (OpP.len rfl) ?_)
    refine OpsJ.put rfl (OpJ.pure (OpP.lss rfl rfl) ?_)
    refine OpsJ.nil ?_
    by_cases hc97 : i_62 < ((p0_v.length : Nat) : Int)
    · rw [if_pos hc97] at h92
      refine CodeJ.cond_t rfl (decide_eq_true hc97) ?_
      refine CodeJ.skip ?_
      refine CodeJ.seq' ?_
      refine CodeJ.block ?_
      refine CodeJ.region ?_
      refine OpsJ.put rfl (OpJ.pure (OpP.move rfl) ?_)
      refine OpsJ.put rfl (OpJ.pure (OpP.move rfl) ?_)
      refine OpsJ.put rfl (OpJ.pure (OpP.move rfl) ?_)
      obtain ⟨x98, hx99, h100⟩ := bind_ok h92
      clear h92
      have hE101 : RC _ (some ((adr A0_).add (Int.toNat i_62 * Dat.size Int))) [.int .i64 x98] := SlR.getF (α := Int) hA0_ hx99
      refine OpsJ.put rfl (OpJ.pure (OpP.ixR hA0_ rfl hx99 (by exact rfl) (by exact rfl) rfl rfl) ?_)
      refine OpsJ.put rfl (OpJ.pure (OpP.ldR0 (by exact rfl) hE101 (IM.le_refl _) rfl rfl) ?_)
      obtain ⟨y105, hy106, h107⟩ := bind_ok h100
      clear h100
      refine OpsJ.put rfl (OpJ.callP Split.nil rfl (fun R102 hle103 hin104 => winnowerref1_Num_w R102 x98  _ hy106) ?_)
      rintro _ _ _ ⟨A108, c109, cs110, rfl, hr111, rfl⟩
      obtain ⟨q113, hq114, h115⟩ := bind_ok h107
      clear h107
      have hr118 : repL IM.nil (cs59 ++ cs110) q113 := app_rep hq114 hr60 hr111
      refine OpsJ.put rfl (OpJ.appW hq114 rfl rfl (Src.ofRow (List.Mem.head _)) hr111 (by exact rfl) (List.Perm.swap _ _ _) (by exact rfl) (by exact rfl) (by exact rfl) rfl rfl (fun A116 c117 => ?_))
      refine OpsJ.put rfl (OpJ.pure (OpP.assign rfl) ?_)
      refine OpsJ.nil ?_
      refine CodeJ.region ?_
      refine OpsJ.put rfl (OpJ.pure (OpP.move rfl) ?_)
      refine OpsJ.put rfl (OpJ.pure (OpP.add64 rfl rfl) ?_)
      refine OpsJ.put rfl (OpJ.pure (OpP.assign rfl) ?_)
      refine OpsJ.nil ?_
      obtain rfl := Option.some.inj h115
      exact ⟨_, _, _, _, rfl, ⟨A116, c117, (cs59 ++ cs110), hr118, rfl, rfl⟩, IM.le_refl _, (SubE.cons rfl (SubE.cons rfl (SubE.cons rfl (SubE.nil _)))), (SubL.p0 (SubL.nil _))⟩
    · rw [if_neg hc97] at h92
      refine CodeJ.cond_f rfl (decide_eq_false hc97) ?_
      refine CodeJ.exit rfl ?_
      obtain rfl := Option.some.inj h92
      have ht120 := hne93 _ rfl
      exact ⟨_, _, _, ⟨A57, c58, cs59, b_56, ht120, hr60, rfl, rfl⟩, IM.le_refl _, (SubE.cons rfl (SubE.nil _)), (SubL.p0 (SubL.nil _))⟩
  · rintro _ _ ⟨A87, c88, cs89, b_86, rfl, hr90, rfl, rfl⟩
    (try dsimp only at h96)
    refine CodeJ.seq' ?_
    refine CodeJ.region ?_
    refine OpsJ.put rfl (OpJ.pure (OpP.move rfl) ?_)
    refine OpsJ.put rfl (OpJ.pure (OpP.assign rfl) ?_)
    refine OpsJ.nil ?_
    refine CodeJ.ret' ?_
    obtain rfl := Option.some.inj h96
    exact Ret.mk0 ⟨A87, c88, cs89, rfl, hr90, rfl⟩ (ResJ.one Try.results20 rfl) (IM.le_refl _) (SubL.p0 (SubL.nil _))
theorem octet_NewReader_w (R : IM) (R0 : IM) (hR0 : IM.le R0 R) (A0_ : Option Addr) (n0_ c0_ : Nat) (p0_p : List UInt8) (hA0_ : SlR R A0_ p0_p) (hn0_ : p0_p.length = n0_) (hc0_ : n0_ ≤ c0_) (y : ((List UInt8) × Bool)) (h : octet_NewReader p0_p = some y) :
    CallJ Try.prog 21 #[.slice A0_ n0_ c0_] ⟨R, []⟩ (fun v D hs' => ∃ (gg1 : Nat) (B2 : Option Addr) (d3 : Nat), v = .pointer (some ⟨gg1, 0, none⟩) ∧ y.1.length ≤ d3 ∧ SlR (R0.or D) B2 y.1 ∧ hs' = [.blk gg1 [.slice B2 y.1.length d3, .bool y.2] 75]) := by
  subst hn0_
  unfold octet_NewReader at h
  refine CallJ.of1 Try.func21 rfl Try.ntmps21 rfl (fun W0 => ?_)
  refine CodeJ.seq' ?_
  refine CodeJ.region ?_
  refine OpsJ.put rfl (OpJ.pure (OpP.assign rfl) ?_)
  refine OpsJ.nil ?_
  refine CodeJ.seq' ?_
  refine CodeJ.region ?_
  refine OpsJ.put rfl (OpJ.pure (OpP.move rfl) ?_)
  obtain ⟨y4, hy5, h6⟩ := bind_ok h
  clear h
  refine OpsJ.put rfl (OpJ.callP Split.nil rfl (fun R1 hle2 hin3 => bytes_Clone_w R1 A0_ p0_p.length c0_ p0_p (SlR.mono hA0_ (IM.le_trans (IM.le_refl _) hle2)) rfl hc0_  _ hy5) ?_)
  rintro _ _ _ ⟨A7, c8, cs9, rfl, hr10, rfl⟩
  refine OpsJ.put rfl (OpJ.pure (OpP.buildC (cs := [.slice A7 y4.length c8, .bool false]) rfl (by exact rfl) (by exact rfl)) ?_)
  refine OpsJ.put rfl (OpJ.box (us := [.slice A7 y4.length c8, .bool false]) rfl (by exact rfl) (fun g12 => ?_))
  refine OpsJ.put rfl (OpJ.pure (OpP.assign rfl) ?_)
  refine OpsJ.nil ?_
  refine CodeJ.rowle (List.Perm.swap _ _ _) (fun hcap18 hlen19 => ?_)
  refine CodeJ.freeze (List.Perm.swap _ _ _) (fun D14 hd15 hin16 => ?_)
  have hA17 : SlR (R0.or D14) A7 y4 := SlR.of_row (RC.mono hin16 (IM.le_or_right (IM.dis_le hR0 hd15))) hr10 (IM.le_nil _)
  refine CodeJ.ret' ?_
  obtain rfl := Option.some.inj h6
  exact Ret.mkF (Fr.step (Fr.refl _ _) (IM.le_refl _) hR0 hd15) (fun D20 hD21 => ⟨g12, A7, c8, rfl, hcap18, (SlR.mono hA17 (IM.le_trans (IM.le_refl _) hD21)), rfl⟩) (ResJ.one Try.results21 rfl) (IM.le_trans (IM.le_refl _) (IM.le_or _ _)) (SubL.p0 (SubL.nil _))
theorem octet_Reader_Num_w (R : IM) (R0 : IM) (hR0 : IM.le R0 R) (g0_ : Nat) (p0_r : (List UInt8) × Bool) (A0_1_ : Option Addr) (c0_2_ : Nat) (hc0_3_ : p0_r.1.length ≤ c0_2_) (hA0_4_ : SlR R0 A0_1_ p0_r.1) (y : ((List UInt8) × Bool) × Int) (h : octet_Reader_Num p0_r = some y) :
    CallJ Try.prog 23 #[.pointer (some ⟨g0_, 0, none⟩)] ⟨R, [.blk g0_ [.slice A0_1_ p0_r.1.length c0_2_, .bool p0_r.2] 75]⟩ (fun v D hs' => ∃ (B1 : Option Addr) (d2 : Nat), v = .int .i64 y.2 ∧ y.1.1.length ≤ d2 ∧ SlR R0 B1 y.1.1 ∧ hs' = [.blk g0_ [.slice B1 y.1.1.length d2, .bool y.1.2] 75]) := by
  unfold octet_Reader_Num at h
  refine CallJ.of1 Try.func23 rfl Try.ntmps23 rfl (fun W0 => ?_)
  refine CodeJ.seq' ?_
  refine CodeJ.region ?_
  refine OpsJ.put rfl (OpJ.pure (OpP.assign rfl) ?_)
  refine OpsJ.nil ?_
  refine CodeJ.seq' ?_
  refine CodeJ.seq' ?_
  refine CodeJ.region ?_
  refine OpsJ.put rfl (OpJ.pure (OpP.move rfl) ?_)
  refine OpsJ.put rfl (OpJ.pure (OpP.eql_nil rfl rfl) ?_)
  refine OpsJ.nil ?_
  refine CodeJ.cond_f rfl rfl ?_
  refine CodeJ.skip ?_
  refine CodeJ.seq' ?_
  refine CodeJ.region ?_
  refine OpsJ.put rfl (OpJ.pure (OpP.assign rfl) ?_)
  refine OpsJ.nil ?_
  refine CodeJ.seq' ?_
  refine CodeJ.seq' ?_
  refine CodeJ.region ?_
  refine OpsJ.put rfl (OpJ.pure (OpP.move rfl) ?_)
  refine OpsJ.put rfl (OpJ.pure (OpP.nilCheck rfl) ?_)
  refine OpsJ.put rfl (OpJ.pure (OpP.fldAddr_lit rfl (by exact rfl)) ?_)
  refine OpsJ.put rfl (OpJ.pure (OpP.load_blk (by exact rfl) rfl (List.Mem.head _) rfl) ?_)
  refine OpsJ.put rfl (OpJ.pure (OpP.len rfl) ?_)
  refine OpsJ.put rfl (OpJ.pure (OpP.move rfl) ?_)
  refine OpsJ.nil ?_
  obtain ⟨t86, hl87, h88⟩ := bind_ok h
  clear h
  refine CodeJ.mid (fun e s => .inr () = t86 ∧ e = [(0, .pointer (some ⟨g0_, 0, none⟩))] ∧ s = ⟨R, [.blk g0_ [.slice A0_1_ p0_r.1.length c0_2_, .bool p0_r.2] 75]⟩) ?_ ?_
  · refine CodeJ.block ?_
    refine CodeJ.loopM hl87 (fun (u_56, v57) e s => e = [(0, .pointer (some ⟨g0_, 0, none⟩)), (3, .int .u64 ((u_56.toNat : Nat) : Int)), (11, .slice A0_1_ p0_r.1.length c0_2_), (12, .int .i64 ((p0_r.1.length : Nat) : Int)), (13, .int .i64 v57)] ∧ s = ⟨R, [.blk g0_ [.slice A0_1_ p0_r.1.length c0_2_, .bool p0_r.2] 75]⟩) ⟨rfl, rfl⟩ (SubE.cons rfl (SubE.cons rfl (SubE.cons rfl (SubE.cons rfl (SubE.cons rfl (SubE.nil _)))))) (SubL.p0 (SubL.nil _)) ?_
    rintro ⟨u_56, v57⟩ _ _ _ ⟨rfl, rfl⟩ h84 hne85
    (try dsimp only at h84); unfold octet_Reader_Num_l0 at h84
    refine CodeJ.seq' ?_
    refine CodeJ.region ?_
    refine OpsJ.put rfl (OpJ.pure (OpP.lss rfl rfl) ?_)
    refine OpsJ.nil ?_
    refine CodeJ.seq' ?_
    by_cases hc89 : v57 < ((p0_r.1.length : Nat) : Int)
    · rw [if_pos hc89] at h84
      refine CodeJ.cond_t rfl (decide_eq_true hc89) ?_
      refine CodeJ.skip ?_
      refine CodeJ.seq' ?_
      refine CodeJ.block ?_
      refine CodeJ.seq' ?_
      refine CodeJ.region ?_
      refine OpsJ.put rfl (OpJ.pure (OpP.move rfl) ?_)
      obtain ⟨x90, hx91, h92⟩ := bind_ok h84
      clear h84
      have hE93 : RC _ (some ((adr A0_1_).add (Int.toNat v57 * Dat.size UInt8))) [.int .u8 ((x90.toNat : Nat) : Int)] := SlR.getF (α := UInt8) hA0_4_ hx91
      refine OpsJ.put rfl (OpJ.pure (OpP.ixR hA0_4_ rfl hx91 (by exact rfl) (by exact rfl) rfl rfl) ?_)
      refine OpsJ.put rfl (OpJ.pure (OpP.ldR0 (by exact rfl) hE93 hR0 rfl rfl) ?_)
      refine OpsJ.put rfl (OpJ.pure (OpP.assign rfl) ?_)
      refine OpsJ.put rfl (OpJ.pure (OpP.assign rfl) ?_)
      refine OpsJ.nil ?_
      refine CodeJ.seq' ?_
      refine CodeJ.seq' ?_
      refine CodeJ.region ?_
      refine OpsJ.put rfl (OpJ.pure (OpP.move rfl) ?_)
      refine OpsJ.put rfl (OpJ.pure (OpP.geq rfl rfl) ?_)
      refine OpsJ.put rfl (OpJ.pure (OpP.move rfl) ?_)
      by_cases hc94 : v57 ≥ 9
      · rw [if_pos hc94] at h92
        refine OpsJ.guard_n rfl rfl rfl rfl (decide_eq_true hc94) ?_
        refine OpsJ.guard_n rfl rfl rfl rfl (decide_eq_true hc94) ?_
        refine OpsJ.guard_n rfl rfl rfl rfl (decide_eq_true hc94) ?_
        refine OpsJ.gund rfl rfl rfl rfl ?_
        refine OpsJ.gund rfl rfl rfl rfl ?_
        refine OpsJ.guard_n rfl rfl rfl rfl (decide_eq_true hc94) ?_
        refine OpsJ.put rfl (OpJ.pure (OpP.pick_t rfl (decide_eq_true hc94) rfl) ?_)
        refine OpsJ.nil ?_
        refine CodeJ.cond_t rfl rfl ?_
        refine CodeJ.exit rfl ?_
        obtain rfl := Option.some.inj h92
        have ht95 := hne85 _ rfl
        exact ⟨_, _, _, ⟨ht95, rfl, rfl⟩, IM.le_refl _, (SubE.cons rfl (SubE.nil _)), (SubL.p0 (SubL.nil _))⟩
      · rw [if_neg hc94] at h92
        refine OpsJ.guard_y rfl rfl rfl rfl (decide_eq_false hc94) ?_
        refine OpsJ.put rfl (OpJ.pure (OpP.move rfl) ?_)
        refine OpsJ.guard_y rfl rfl rfl rfl (decide_eq_false hc94) ?_
        refine OpsJ.put rfl (OpJ.pure (OpP.gtr rfl rfl) ?_)
        refine OpsJ.guard_y rfl rfl rfl rfl (decide_eq_false hc94) ?_
        refine OpsJ.put rfl (OpJ.pure (OpP.move rfl) ?_)
        by_cases hc96 : v57 > 0
        · rw [if_pos hc96] at h92
          refine OpsJ.guard_y rfl rfl rfl rfl (decide_eq_true hc96) ?_
          refine OpsJ.put rfl (OpJ.pure (OpP.move rfl) ?_)
          refine OpsJ.guard_y rfl rfl rfl rfl (decide_eq_true hc96) ?_
          refine OpsJ.put rfl (OpJ.pure (OpP.eql rfl rfl) ?_)
          refine OpsJ.guard_y rfl rfl rfl rfl (decide_eq_false hc94) ?_
          refine OpsJ.put rfl (OpJ.pure (OpP.pick_t rfl (decide_eq_true hc96) rfl) ?_)
          refine OpsJ.put rfl (OpJ.pure (OpP.pick_f rfl (decide_eq_false hc94) rfl) ?_)
          refine OpsJ.nil ?_
          by_cases hc97 : ((x90.toNat : Nat) : Int) = (((0 : UInt8).toNat : Nat) : Int)
          · rw [if_pos hc97] at h92
            refine CodeJ.cond_t rfl (decide_eq_true hc97) ?_
            refine CodeJ.exit rfl ?_
            obtain rfl := Option.some.inj h92
            have ht98 := hne85 _ rfl
            exact ⟨_, _, _, ⟨ht98, rfl, rfl⟩, IM.le_refl _, (SubE.cons rfl (SubE.nil _)), (SubL.p0 (SubL.nil _))⟩
          · rw [if_neg hc97] at h92
            refine CodeJ.cond_f rfl (decide_eq_false hc97) ?_
            refine CodeJ.skip ?_
            refine CodeJ.seq' ?_
            refine CodeJ.region ?_
            refine OpsJ.put rfl (OpJ.pure (OpP.move rfl) ?_)
            refine OpsJ.put rfl (OpJ.pure (OpP.move rfl) ?_)
            refine OpsJ.put rfl (OpJ.pure (OpP.andU8 (a := x90) (b := (127 : UInt8)) rfl rfl) ?_)
            refine OpsJ.put rfl (OpJ.pure (OpP.toU64 rfl) ?_)
            refine OpsJ.put rfl (OpJ.pure (OpP.move rfl) ?_)
            refine OpsJ.put rfl (OpJ.pure (OpP.mul64 rfl rfl) ?_)
            obtain ⟨m99, hm100, h101⟩ := bind_ok h92
            clear h92
            refine OpsJ.put rfl (OpJ.pure (OpP.shlU64 (a := (ofI64 (((x90 &&& (127 : UInt8)).toNat : Nat) : Int))) (amt?_ok hm100) rfl rfl) ?_)
            refine OpsJ.put rfl (OpJ.pure (OpP.orU64 (a := u_56) (b := (FW.shl64 (ofI64 (((x90 &&& (127 : UInt8)).toNat : Nat) : Int)) m99)) rfl rfl) ?_)
            refine OpsJ.put rfl (OpJ.pure (OpP.assign rfl) ?_)
            refine OpsJ.nil ?_
            refine CodeJ.seq' ?_
            refine CodeJ.region ?_
            refine OpsJ.put rfl (OpJ.pure (OpP.move rfl) ?_)
            refine OpsJ.put rfl (OpJ.pure (OpP.lss rfl rfl) ?_)
            refine OpsJ.nil ?_
            by_cases hc102 : ((x90.toNat : Nat) : Int) < (((128 : UInt8).toNat : Nat) : Int)
            · rw [if_pos hc102] at h101
              refine CodeJ.cond_t rfl (decide_eq_true hc102) ?_
              refine CodeJ.seq' ?_
              refine CodeJ.seq' ?_
              refine CodeJ.region ?_
              refine OpsJ.put rfl (OpJ.pure (OpP.move rfl) ?_)
              refine OpsJ.put rfl (OpJ.pure (OpP.gtr rfl rfl) ?_)
              refine OpsJ.nil ?_
              by_cases hc103 : (((u_56 ||| (FW.shl64 (ofI64 (((x90 &&& (127 : UInt8)).toNat : Nat) : Int)) m99)).toNat : Nat) : Int) > (((4611686018427387904 : UInt64).toNat : Nat) : Int)
              · rw [if_pos hc103] at h101
                refine CodeJ.cond_t rfl (decide_eq_true hc103) ?_
                refine CodeJ.exit rfl ?_
                obtain rfl := Option.some.inj h101
                have ht104 := hne85 _ rfl
                exact ⟨_, _, _, ⟨ht104, rfl, rfl⟩, IM.le_refl _, (SubE.cons rfl (SubE.nil _)), (SubL.p0 (SubL.nil _))⟩
              · rw [if_neg hc103] at h101
                refine CodeJ.cond_f rfl (decide_eq_false hc103) ?_
                refine CodeJ.skip ?_
                refine CodeJ.seq' ?_
                refine CodeJ.region ?_
                refine OpsJ.put rfl (OpJ.pure (OpP.move rfl) ?_)
                refine OpsJ.put rfl (OpJ.pure (OpP.move rfl) ?_)
                refine OpsJ.put rfl (OpJ.pure (OpP.nilCheck rfl) ?_)
                refine OpsJ.put rfl (OpJ.pure (OpP.fldAddr_lit rfl (by exact rfl)) ?_)
                refine OpsJ.put rfl (OpJ.pure (OpP.load_blk (by exact rfl) rfl (List.Mem.head _) rfl) ?_)
                refine OpsJ.put rfl (OpJ.pure (OpP.move rfl) ?_)
                refine OpsJ.put rfl (OpJ.pure (OpP.add64 rfl rfl) ?_)
                obtain ⟨q105, hq106, h108⟩ := bind_ok h101
                clear h101
                have hA107 : SlR R0 (cutA A0_1_ (Int.toNat (w64 (v57 + 1))) c0_2_ 1) q105 := SlR.cut hA0_4_ hq106 hc0_3_
                refine OpsJ.put rfl (OpJ.pure (OpP.cutLo hq106 rfl rfl rfl) ?_)
                refine OpsJ.put rfl (OpJ.pure (OpP.nilCheck rfl) ?_)
                refine OpsJ.put rfl (OpJ.pure (OpP.fldAddr_lit rfl (by exact rfl)) ?_)
                refine OpsJ.act (OpJ.storeC (us := [.slice (cutA A0_1_ (Int.toNat (w64 (v57 + 1))) c0_2_ 1) q105.length (c0_2_ - Int.toNat (w64 (v57 + 1)))]) (cs := [.slice (cutA A0_1_ (Int.toNat (w64 (v57 + 1))) c0_2_ 1) q105.length (c0_2_ - Int.toNat (w64 (v57 + 1))), .bool p0_r.2]) rfl rfl rfl (List.Perm.refl _) (by exact rfl) rfl rfl rfl ?_)
                refine OpsJ.nil ?_
                refine CodeJ.seq' ?_
                refine CodeJ.region ?_
                refine OpsJ.put rfl (OpJ.pure (OpP.move rfl) ?_)
                refine OpsJ.put rfl (OpJ.pure (OpP.conv64' rfl) ?_)
                refine OpsJ.put rfl (OpJ.pure (OpP.assign rfl) ?_)
                refine OpsJ.nil ?_
                obtain rfl := Option.some.inj h108
                have ht109 := hne85 _ rfl
                subst ht109
                simp only [Sum.elim_inl] at h88
                refine CodeJ.ret' ?_
                obtain rfl := Option.some.inj h88
                exact Ret.mk0 ⟨(cutA A0_1_ (Int.toNat (w64 (v57 + 1))) c0_2_ 1), (c0_2_ - Int.toNat (w64 (v57 + 1))), rfl, (sub_cap hq106 hc0_3_), (SlR.mono hA107 (IM.le_refl _)), rfl⟩ (ResJ.one Try.results23 rfl) (IM.le_refl _) (SubL.p0 (SubL.nil _))
            · rw [if_neg hc102] at h101
              refine CodeJ.cond_f rfl (decide_eq_false hc102) ?_
              refine CodeJ.skip ?_
              refine CodeJ.region ?_
              refine OpsJ.put rfl (OpJ.pure (OpP.add64 rfl rfl) ?_)
              refine OpsJ.put rfl (OpJ.pure (OpP.move rfl) ?_)
              refine OpsJ.nil ?_
              obtain rfl := Option.some.inj h101
              exact ⟨_, _, _, _, rfl, ⟨rfl, rfl⟩, IM.le_refl _, (SubE.cons rfl (SubE.cons rfl (SubE.cons rfl (SubE.cons rfl (SubE.cons rfl (SubE.nil _)))))), (SubL.p0 (SubL.nil _))⟩
        · rw [if_neg hc96] at h92
          refine OpsJ.guard_n rfl rfl rfl rfl (decide_eq_false hc96) ?_
          refine OpsJ.guard_n rfl rfl rfl rfl (decide_eq_false hc96) ?_
          refine OpsJ.guard_y rfl rfl rfl rfl (decide_eq_false hc94) ?_
          refine OpsJ.put rfl (OpJ.pure (OpP.pick_f rfl (decide_eq_false hc96) rfl) ?_)
          refine OpsJ.put rfl (OpJ.pure (OpP.pick_f rfl (decide_eq_false hc94) rfl) ?_)
          refine OpsJ.nil ?_
          refine CodeJ.cond_f rfl rfl ?_
          refine CodeJ.skip ?_
          refine CodeJ.seq' ?_
          refine CodeJ.region ?_
          refine OpsJ.put rfl (OpJ.pure (OpP.move rfl) ?_)
          refine OpsJ.put rfl (OpJ.pure (OpP.move rfl) ?_)
          refine OpsJ.put rfl (OpJ.pure (OpP.andU8 (a := x90) (b := (127 : UInt8)) rfl rfl) ?_)
          refine OpsJ.put rfl (OpJ.pure (OpP.toU64 rfl) ?_)
          refine OpsJ.put rfl (OpJ.pure (OpP.move rfl) ?_)
          refine OpsJ.put rfl (OpJ.pure (OpP.mul64 rfl rfl) ?_)
          obtain ⟨m112, hm113, h114⟩ := bind_ok h92
          clear h92
          refine OpsJ.put rfl (OpJ.pure (OpP.shlU64 (a := (ofI64 (((x90 &&& (127 : UInt8)).toNat : Nat) : Int))) (amt?_ok hm113) rfl rfl) ?_)
          refine OpsJ.put rfl (OpJ.pure (OpP.orU64 (a := u_56) (b := (FW.shl64 (ofI64 (((x90 &&& (127 : UInt8)).toNat : Nat) : Int)) m112)) rfl rfl) ?_)
          refine OpsJ.put rfl (OpJ.pure (OpP.assign rfl) ?_)
          refine OpsJ.nil ?_
          refine CodeJ.seq' ?_
          refine CodeJ.region ?_
          refine OpsJ.put rfl (OpJ.pure (OpP.move rfl) ?_)
          refine OpsJ.put rfl (OpJ.pure (OpP.lss rfl rfl) ?_)
          refine OpsJ.nil ?_
          by_cases hc115 : ((x90.toNat : Nat) : Int) < (((128 : UInt8).toNat : Nat) : Int)
          · rw [if_pos hc115] at h114
            refine CodeJ.cond_t rfl (decide_eq_true hc115) ?_
            refine CodeJ.seq' ?_
            refine CodeJ.seq' ?_
            refine CodeJ.region ?_
            refine OpsJ.put rfl (OpJ.pure (OpP.move rfl) ?_)
            refine OpsJ.put rfl (OpJ.pure (OpP.gtr rfl rfl) ?_)
            refine OpsJ.nil ?_
            by_cases hc116 : (((u_56 ||| (FW.shl64 (ofI64 (((x90 &&& (127 : UInt8)).toNat : Nat) : Int)) m112)).toNat : Nat) : Int) > (((4611686018427387904 : UInt64).toNat : Nat) : Int)
            · rw [if_pos hc116] at h114
              refine CodeJ.cond_t rfl (decide_eq_true hc116) ?_
              refine CodeJ.exit rfl ?_
              obtain rfl := Option.some.inj h114
              have ht117 := hne85 _ rfl
              exact ⟨_, _, _, ⟨ht117, rfl, rfl⟩, IM.le_refl _, (SubE.cons rfl (SubE.nil _)), (SubL.p0 (SubL.nil _))⟩
            · rw [if_neg hc116] at h114
              refine CodeJ.cond_f rfl (decide_eq_false hc116) ?_
              refine CodeJ.skip ?_
              refine CodeJ.seq' ?_
              refine CodeJ.region ?_
              refine OpsJ.put rfl (OpJ.pure (OpP.move rfl) ?_)
              refine OpsJ.put rfl (OpJ.pure (OpP.move rfl) ?_)
              refine OpsJ.put rfl (OpJ.pure (OpP.nilCheck rfl) ?_)
              refine OpsJ.put rfl (OpJ.pure (OpP.fldAddr_lit rfl (by exact rfl)) ?_)
              refine OpsJ.put rfl (OpJ.pure (OpP.load_blk (by exact rfl) rfl (List.Mem.head _) rfl) ?_)
              refine OpsJ.put rfl (OpJ.pure (OpP.move rfl) ?_)
              refine OpsJ.put rfl (OpJ.pure (OpP.add64 rfl rfl) ?_)
              obtain ⟨q118, hq119, h121⟩ := bind_ok h114
              clear h114
              have hA120 : SlR R0 (cutA A0_1_ (Int.toNat (w64 (v57 + 1))) c0_2_ 1) q118 := SlR.cut hA0_4_ hq119 hc0_3_
              refine OpsJ.put rfl (OpJ.pure (OpP.cutLo hq119 rfl rfl rfl) ?_)
              refine OpsJ.put rfl (OpJ.pure (OpP.nilCheck rfl) ?_)
              refine OpsJ.put rfl (OpJ.pure (OpP.fldAddr_lit rfl (by exact rfl)) ?_)
              refine OpsJ.act (OpJ.storeC (us := [.slice (cutA A0_1_ (Int.toNat (w64 (v57 + 1))) c0_2_ 1) q118.length (c0_2_ - Int.toNat (w64 (v57 + 1)))]) (cs := [.slice (cutA A0_1_ (Int.toNat (w64 (v57 + 1))) c0_2_ 1) q118.length (c0_2_ - Int.toNat (w64 (v57 + 1))), .bool p0_r.2]) rfl rfl rfl (List.Perm.refl _) (by exact rfl) rfl rfl rfl ?_)
              refine OpsJ.nil ?_
              refine CodeJ.seq' ?_
              refine CodeJ.region ?_
              refine OpsJ.put rfl (OpJ.pure (OpP.move rfl) ?_)
              refine OpsJ.put rfl (OpJ.pure (OpP.conv64' rfl) ?_)
              refine OpsJ.put rfl (OpJ.pure (OpP.assign rfl) ?_)
              refine OpsJ.nil ?_
              obtain rfl := Option.some.inj h121
              have ht122 := hne85 _ rfl
              subst ht122
              simp only [Sum.elim_inl] at h88
              refine CodeJ.ret' ?_
              obtain rfl := Option.some.inj h88
              exact Ret.mk0 ⟨(cutA A0_1_ (Int.toNat (w64 (v57 + 1))) c0_2_ 1), (c0_2_ - Int.toNat (w64 (v57 + 1))), rfl, (sub_cap hq119 hc0_3_), (SlR.mono hA120 (IM.le_refl _)), rfl⟩ (ResJ.one Try.results23 rfl) (IM.le_refl _) (SubL.p0 (SubL.nil _))
          · rw [if_neg hc115] at h114
            refine CodeJ.cond_f rfl (decide_eq_false hc115) ?_
            refine CodeJ.skip ?_
            refine CodeJ.region ?_
            refine OpsJ.put rfl (OpJ.pure (OpP.add64 rfl rfl) ?_)
            refine OpsJ.put rfl (OpJ.pure (OpP.move rfl) ?_)
            refine OpsJ.nil ?_
            obtain rfl := Option.some.inj h114
            exact ⟨_, _, _, _, rfl, ⟨rfl, rfl⟩, IM.le_refl _, (SubE.cons rfl (SubE.cons rfl (SubE.cons rfl (SubE.cons rfl (SubE.cons rfl (SubE.nil _)))))), (SubL.p0 (SubL.nil _))⟩
    · rw [if_neg hc89] at h84
      refine CodeJ.cond_f rfl (decide_eq_false hc89) ?_
      refine CodeJ.exit rfl ?_
      obtain rfl := Option.some.inj h84
      have ht125 := hne85 _ rfl
      exact ⟨_, _, _, ⟨ht125, rfl, rfl⟩, IM.le_refl _, (SubE.cons rfl (SubE.nil _)), (SubL.p0 (SubL.nil _))⟩
  · rintro _ _ ⟨rfl, rfl, rfl⟩
    simp only [Sum.elim_inr] at h88
    refine CodeJ.seq' ?_
    refine CodeJ.region ?_
    refine OpsJ.put rfl (OpJ.pure (OpP.move rfl) ?_)
    obtain ⟨y129, hy130, h131⟩ := bind_ok h88
    clear h88
    refine OpsJ.put rfl (OpJ.callP (Split.p0 Split.nil) rfl (fun R126 hle127 hin128 => octet_Reader_Bad_w R126 R0 (IM.le_trans hR0 hle127) g0_ (p0_r.1, p0_r.2) A0_1_ c0_2_ hc0_3_ (SlR.mono hA0_4_ (IM.le_refl _))  _ hy130) ?_)
    rintro _ _ _ ⟨A132, c133, rfl, hc134, hA135, rfl⟩
    refine OpsJ.nil ?_
    refine CodeJ.seq' ?_
    refine CodeJ.region ?_
    refine OpsJ.put rfl (OpJ.pure (OpP.assign rfl) ?_)
    refine OpsJ.nil ?_
    refine CodeJ.ret' ?_
    obtain rfl := Option.some.inj h131
    exact Ret.mk0 ⟨A132, c133, rfl, hc134, (SlR.mono hA135 (IM.le_refl _)), rfl⟩ (ResJ.one Try.results23 rfl) (IM.le_refl _) (SubL.p0 (SubL.nil _))
theorem octet_Writer_Bytes_w (R : IM) (g0_ : Nat) (p0_w : List UInt8) (A0_1_ : Option Addr) (c0_2_ : Nat) (cs0_3_ : List Value) (hr0_4_ : repL IM.nil cs0_3_ p0_w) (A1_ : Option Addr) (n1_ c1_ : Nat) (p1_p : List (List UInt8)) (hA1_ : SlR R A1_ p1_p) (hn1_ : p1_p.length = n1_) (hc1_ : n1_ ≤ c1_) (y : (List UInt8)) (h : octet_Writer_Bytes p0_w p1_p = some y) :
    CallJ Try.prog 40 #[.pointer (some ⟨g0_, 0, none⟩), .slice A1_ n1_ c1_] ⟨R, [.blk g0_ [.slice A0_1_ p0_w.length c0_2_] 25, .row 5 1 A0_1_ p0_w.length c0_2_ cs0_3_]⟩ (fun v D hs' => ∃ (B1 : Option Addr) (d2 : Nat) (ds3 : List Value), v = .tuple #[] ∧ repL IM.nil ds3 y ∧ hs' = [.blk g0_ [.slice B1 y.length d2] 25, .row 5 1 B1 y.length d2 ds3]) := by
  subst hn1_
  unfold octet_Writer_Bytes at h
  refine CallJ.of2 Try.func40 rfl Try.ntmps40 rfl (fun W0 => ?_)
  refine CodeJ.tail ?_
  refine CodeJ.seq' ?_
  refine CodeJ.region ?_
  refine OpsJ.put rfl (OpJ.pure (OpP.move rfl) ?_)
  refine OpsJ.put rfl (OpJ.pure (OpP.len rfl) ?_)
  refine OpsJ.put rfl (OpJ.pure (OpP.move rfl) ?_)
  refine OpsJ.nil ?_
  obtain ⟨t130, hl131, h132⟩ := bind_ok h
  clear h
  refine CodeJ.midF (fun e s => ∃ (A123 : Option Addr) (c124 : Nat) (cs125 : List Value) (f122 : List UInt8), f122 = t130 ∧ repL IM.nil cs125 f122 ∧ e = [(0, .pointer (some ⟨g0_, 0, none⟩))] ∧ s = ⟨R, [.blk g0_ [.slice A123 f122.length c124] 25, .row 5 1 A123 f122.length c124 cs125]⟩) ?_ ?_
  · refine CodeJ.block ?_
    refine CodeJ.loopM hl131 (fun (v80, f81) e s => ∃ (A82 : Option Addr) (c83 : Nat) (cs84 : List Value), repL IM.nil cs84 f81 ∧ e = [(0, .pointer (some ⟨g0_, 0, none⟩)), (6, .slice A1_ p1_p.length c1_), (7, .int .i64 ((p1_p.length : Nat) : Int)), (8, .int .i64 v80)] ∧ s = ⟨R, [.blk g0_ [.slice A82 f81.length c83] 25, .row 5 1 A82 f81.length c83 cs84]⟩) ⟨A0_1_, c0_2_, cs0_3_, hr0_4_, rfl, rfl⟩ (SubE.cons rfl (SubE.cons rfl (SubE.cons rfl (SubE.cons rfl (SubE.nil _))))) (SubL.p0 (SubL.p0 (SubL.nil _))) ?_
    rintro ⟨v80, f81⟩ _ _ _ ⟨A82, c83, cs84, hr85, rfl, rfl⟩ h128 hne129
    (try dsimp only at h128); unfold octet_Writer_Bytes_l0 at h128
    refine CodeJ.seq' ?_
    refine CodeJ.region ?_
    refine OpsJ.put rfl (OpJ.pure (OpP.lss rfl rfl) ?_)
    refine OpsJ.nil ?_
    refine CodeJ.seq' ?_
    by_cases hc133 : v80 < ((p1_p.length : Nat) : Int)
    · rw [if_pos hc133] at h128
      refine CodeJ.cond_t rfl (decide_eq_true hc133) ?_
      refine CodeJ.skip ?_
      refine CodeJ.seq' ?_
      refine CodeJ.block ?_
      refine CodeJ.seq' ?_
      refine CodeJ.region ?_
      obtain ⟨x134, hx135, h136⟩ := bind_ok h128
      clear h128
      obtain ⟨_, ⟨A138, c139, rfl, hc140, hA141⟩, hE137⟩ := SlR.getN hA1_ hx135
      refine OpsJ.put rfl (OpJ.pure (OpP.ixR hA1_ rfl hx135 (by exact rfl) (by exact rfl) rfl rfl) ?_)
      refine OpsJ.put rfl (OpJ.pure (OpP.ldR0 (by exact rfl) hE137 (IM.le_refl _) rfl rfl) ?_)
      refine OpsJ.put rfl (OpJ.pure (OpP.assign rfl) ?_)
      refine OpsJ.nil ?_
      refine CodeJ.seq' ?_
      refine CodeJ.region ?_
      refine OpsJ.put rfl (OpJ.pure (OpP.move rfl) ?_)
      refine OpsJ.put rfl (OpJ.pure (OpP.move rfl) ?_)
      refine OpsJ.put rfl (OpJ.pure (OpP.len rfl) ?_)
      have hr143 : repL IM.nil [.int .i64 ((x134.length : Nat) : Int)] ([((x134.length : Nat) : Int)] : List Int) := (repL_cons (c1 := [.int .i64 ((x134.length : Nat) : Int)]) (show Dat.rep _ _ ((x134.length : Nat) : Int) from rfl) (repL_nil _))
      refine OpsJ.put rfl (OpJ.buildSliceC (cs := [.int .i64 ((x134.length : Nat) : Int)]) rfl rfl (by exact rfl) (by exact rfl) (by exact rfl) (by exact rfl) (fun g142 => ?_))
      refine OpsJ.rowle (List.Perm.refl _) (fun hcap145 _ => ?_)
      obtain ⟨y149, hy150, h151⟩ := bind_ok h136
      clear h136
      refine OpsJ.put rfl (OpJ.callP (Split.p1 (Split.p1 Split.nil)) rfl (fun R146 hle147 hin148 => octet_Writer_Nums_w R146 g0_ f81 A82 c83 cs84 hr85 (some ⟨g142, 0, none⟩) 1 1 ([((x134.length : Nat) : Int)] : List Int) (SlR.of_row (inRow hin148 (List.Mem.head _)) hr143 (IM.le_nil _)) rfl hcap145  _ hy150) ?_)
      rintro _ _ _ ⟨A152, c153, cs154, rfl, hr155, rfl⟩
      refine OpsJ.nil ?_
      refine CodeJ.region ?_
      refine OpsJ.put rfl (OpJ.pure (OpP.move rfl) ?_)
      refine OpsJ.put rfl (OpJ.pure (OpP.move rfl) ?_)
      obtain ⟨y160, hy161, h162⟩ := bind_ok h151
      clear h151
      refine OpsJ.put rfl (OpJ.callP (Split.p0 (Split.p0 Split.nil)) rfl (fun R157 hle158 hin159 => octet_Writer_Raw_w R157 g0_ y149 A152 c153 cs154 hr155 A138 x134.length c139 x134 (SlR.mono hA141 (IM.le_trans (IM.le_refl _) hle158)) rfl hc140  _ hy161) ?_)
      rintro _ _ _ ⟨A163, c164, cs165, rfl, hr166, rfl⟩
      refine OpsJ.nil ?_
      refine CodeJ.region ?_
      refine OpsJ.put rfl (OpJ.pure (OpP.add64 rfl rfl) ?_)
      refine OpsJ.put rfl (OpJ.pure (OpP.move rfl) ?_)
      refine OpsJ.nil ?_
      obtain rfl := Option.some.inj h162
      exact ⟨_, _, _, _, rfl, ⟨A163, c164, cs165, hr166, rfl, rfl⟩, IM.le_refl _, (SubE.cons rfl (SubE.cons rfl (SubE.cons rfl (SubE.cons rfl (SubE.nil _))))), (SubL.p0 (SubL.p0 (SubL.nil _)))⟩
    · rw [if_neg hc133] at h128
      refine CodeJ.cond_f rfl (decide_eq_false hc133) ?_
      refine CodeJ.exit rfl ?_
      obtain rfl := Option.some.inj h128
      have ht168 := hne129 _ rfl
      exact ⟨_, _, _, ⟨A82, c83, cs84, f81, ht168, hr85, rfl, rfl⟩, IM.le_refl _, (SubE.cons rfl (SubE.nil _)), (SubL.p0 (SubL.p0 (SubL.nil _)))⟩
  · rintro _ _ ⟨A123, c124, cs125, f122, rfl, hr126, rfl, rfl⟩
    (try dsimp only at h132)
    refine FinJ.ret' ?_
    obtain rfl := Option.some.inj h132
    exact Ret.mk0 ⟨A123, c124, cs125, rfl, hr126, rfl⟩ (ResJ.none Try.results40) (IM.le_refl _) (SubL.p0 (SubL.p0 (SubL.nil _)))
theorem winnowerref1_Bytes_w (R : IM) (A0_ : Option Addr) (n0_ c0_ : Nat) (p0_p : List UInt8) (hA0_ : SlR R A0_ p0_p) (hn0_ : p0_p.length = n0_) (hc0_ : n0_ ≤ c0_) (y : (List UInt8)) (h : winnowerref1_Bytes p0_p = some y) :
    CallJ Try.prog 42 #[.slice A0_ n0_ c0_] ⟨R, []⟩ (fun v D hs' => ∃ (B1 : Option Addr) (d2 : Nat) (ds3 : List Value), v = .slice B1 y.length d2 ∧ repL IM.nil ds3 y ∧ hs' = [.row 5 1 B1 y.length d2 ds3]) := by
  subst hn0_
  unfold winnowerref1_Bytes at h
  refine CallJ.of1 Try.func42 rfl Try.ntmps42 rfl (fun W0 => ?_)
  refine CodeJ.seq' ?_
  refine CodeJ.region ?_
  refine OpsJ.put rfl (OpJ.pure (OpP.assign rfl) ?_)
  refine OpsJ.nil ?_
  refine CodeJ.seq' ?_
  refine CodeJ.region ?_
  refine OpsJ.put rfl (OpJ.pure (OpP.move rfl) ?_)
  refine OpsJ.put rfl (OpJ.pure (OpP.len rfl) ?_)
  obtain ⟨y4, hy5, h6⟩ := bind_ok h
  clear h
  refine OpsJ.put rfl (OpJ.callP Split.nil rfl (fun R1 hle2 hin3 => winnowerref1_Num_w R1 ((p0_p.length : Nat) : Int)  _ hy5) ?_)
  rintro _ _ _ ⟨A7, c8, cs9, rfl, hr10, rfl⟩
  refine OpsJ.put rfl (OpJ.pure (OpP.move rfl) ?_)
  obtain ⟨q12, hq13, h14⟩ := bind_ok h6
  clear h6
  obtain ⟨es15, hs16, hp17⟩ := SlR.out hA0_
  have hr20 : repL IM.nil (cs9 ++ es15) q12 := app_rep hq13 hr10 (flat_rep hp17)
  refine OpsJ.put rfl (OpJ.appW hq13 rfl rfl (Src.ofR (RC.mono hs16 (IM.le_refl _))) hp17 (by exact rfl) (List.Perm.refl _) (by exact rfl) (by exact rfl) (by exact rfl) rfl rfl (fun A18 c19 => ?_))
  refine OpsJ.put rfl (OpJ.pure (OpP.assign rfl) ?_)
  refine OpsJ.nil ?_
  refine CodeJ.ret' ?_
  obtain rfl := Option.some.inj h14
  exact Ret.mk0 ⟨A18, c19, (cs9 ++ es15), rfl, hr20, rfl⟩ (ResJ.one Try.results42 rfl) (IM.le_refl _) (SubL.p0 (SubL.nil _))
theorem octet_Reader_Raw_w (R : IM) (R0 : IM) (hR0 : IM.le R0 R) (g0_ : Nat) (p0_r : (List UInt8) × Bool) (A0_1_ : Option Addr) (c0_2_ : Nat) (hc0_3_ : p0_r.1.length ≤ c0_2_) (hA0_4_ : SlR R0 A0_1_ p0_r.1) (p1_n : Int) (y : ((List UInt8) × Bool) × (List UInt8)) (h : octet_Reader_Raw p0_r p1_n = some y) :
    CallJ Try.prog 46 #[.pointer (some ⟨g0_, 0, none⟩), .int .i64 p1_n] ⟨R, [.blk g0_ [.slice A0_1_ p0_r.1.length c0_2_, .bool p0_r.2] 75]⟩ (fun v D hs' => ∃ (B1 : Option Addr) (d2 : Nat) (B5 : Option Addr) (d6 : Nat) (ds7 : List Value), v = .slice B5 y.2.length d6 ∧ y.1.1.length ≤ d2 ∧ SlR R0 B1 y.1.1 ∧ repL IM.nil ds7 y.2 ∧ hs' = [.blk g0_ [.slice B1 y.1.1.length d2, .bool y.1.2] 75, .row 5 1 B5 y.2.length d6 ds7]) := by
  unfold octet_Reader_Raw at h
  refine CallJ.of2 Try.func46 rfl Try.ntmps46 rfl (fun W0 => ?_)
  refine CodeJ.seq' ?_
  refine CodeJ.region ?_
  refine OpsJ.put rfl (OpJ.pure (OpP.assign rfl) ?_)
  refine OpsJ.nil ?_
  refine CodeJ.seq' ?_
  refine CodeJ.seq' ?_
  refine CodeJ.region ?_
  refine OpsJ.put rfl (OpJ.pure (OpP.move rfl) ?_)
  refine OpsJ.put rfl (OpJ.pure (OpP.eql_nil rfl rfl) ?_)
  refine OpsJ.put rfl (OpJ.pure (OpP.move rfl) ?_)
  refine OpsJ.guard_y rfl rfl rfl rfl rfl ?_
  refine OpsJ.put rfl (OpJ.pure (OpP.move rfl) ?_)
  refine OpsJ.guard_y rfl rfl rfl rfl rfl ?_
  refine OpsJ.put rfl (OpJ.pure (OpP.lss rfl rfl) ?_)
  refine OpsJ.put rfl (OpJ.pure (OpP.pick_f rfl rfl rfl) ?_)
  refine OpsJ.put rfl (OpJ.pure (OpP.move rfl) ?_)
  by_cases hc2 : p1_n < 0
  · rw [if_pos hc2] at h
    refine OpsJ.guard_n rfl rfl rfl rfl (decide_eq_true hc2) ?_
    refine OpsJ.guard_n rfl rfl rfl rfl (decide_eq_true hc2) ?_
    refine OpsJ.guard_n rfl rfl rfl rfl (decide_eq_true hc2) ?_
    refine OpsJ.guard_n rfl rfl rfl rfl (decide_eq_true hc2) ?_
    refine OpsJ.guard_n rfl rfl rfl rfl (decide_eq_true hc2) ?_
    refine OpsJ.guard_n rfl rfl rfl rfl (decide_eq_true hc2) ?_
    refine OpsJ.guard_n rfl rfl rfl rfl (decide_eq_true hc2) ?_
    refine OpsJ.put rfl (OpJ.pure (OpP.pick_t rfl (decide_eq_true hc2) rfl) ?_)
    refine OpsJ.nil ?_
    refine CodeJ.cond_t rfl rfl ?_
    refine CodeJ.seq' ?_
    refine CodeJ.region ?_
    refine OpsJ.put rfl (OpJ.pure (OpP.move rfl) ?_)
    obtain ⟨y6, hy7, h8⟩ := bind_ok h
    clear h
    refine OpsJ.put rfl (OpJ.callP (Split.p0 Split.nil) rfl (fun R3 hle4 hin5 => octet_Reader_Bad_w R3 R0 (IM.le_trans hR0 hle4) g0_ (p0_r.1, p0_r.2) A0_1_ c0_2_ hc0_3_ (SlR.mono hA0_4_ (IM.le_refl _))  _ hy7) ?_)
    rintro _ _ _ ⟨A9, c10, rfl, hc11, hA12, rfl⟩
    refine OpsJ.nil ?_
    refine CodeJ.seq' ?_
    refine CodeJ.region ?_
    refine OpsJ.put rfl (OpJ.pure (OpP.assign rfl) ?_)
    refine OpsJ.nil ?_
    refine CodeJ.nilrow 5 1 ?_
    refine CodeJ.ret' ?_
    obtain rfl := Option.some.inj h8
    exact Ret.mk0 ⟨A9, c10, none, 0, ([] : List Value), rfl, hc11, (SlR.mono hA12 (IM.le_refl _)), (repL_nil IM.nil), rfl⟩ (ResJ.one Try.results46 rfl) (IM.le_refl _) (SubL.p1 (SubL.p0 (SubL.nil _)))
  · rw [if_neg hc2] at h
    refine OpsJ.guard_y rfl rfl rfl rfl (decide_eq_false hc2) ?_
    refine OpsJ.put rfl (OpJ.pure (OpP.move rfl) ?_)
    refine OpsJ.guard_y rfl rfl rfl rfl (decide_eq_false hc2) ?_
    refine OpsJ.put rfl (OpJ.pure (OpP.move rfl) ?_)
    refine OpsJ.guard_y rfl rfl rfl rfl (decide_eq_false hc2) ?_
    refine OpsJ.put rfl (OpJ.pure (OpP.nilCheck rfl) ?_)
    refine OpsJ.guard_y rfl rfl rfl rfl (decide_eq_false hc2) ?_
    refine OpsJ.put rfl (OpJ.pure (OpP.fldAddr_lit rfl (by exact rfl)) ?_)
    refine OpsJ.guard_y rfl rfl rfl rfl (decide_eq_false hc2) ?_
    refine OpsJ.put rfl (OpJ.pure (OpP.load_blk (by exact rfl) rfl (List.Mem.head _) rfl) ?_)
    refine OpsJ.guard_y rfl rfl rfl rfl (decide_eq_false hc2) ?_
    refine OpsJ.put rfl (OpJ.pure (OpP.len rfl) ?_)
    refine OpsJ.guard_y rfl rfl rfl rfl (decide_eq_false hc2) ?_
    refine OpsJ.put rfl (OpJ.pure (OpP.gtr rfl rfl) ?_)
    refine OpsJ.put rfl (OpJ.pure (OpP.pick_f rfl (decide_eq_false hc2) rfl) ?_)
    refine OpsJ.nil ?_
    by_cases hc16 : p1_n > ((p0_r.1.length : Nat) : Int)
    · rw [if_pos hc16] at h
      refine CodeJ.cond_t rfl (decide_eq_true hc16) ?_
      refine CodeJ.seq' ?_
      refine CodeJ.region ?_
      refine OpsJ.put rfl (OpJ.pure (OpP.move rfl) ?_)
      obtain ⟨y20, hy21, h22⟩ := bind_ok h
      clear h
      refine OpsJ.put rfl (OpJ.callP (Split.p0 Split.nil) rfl (fun R17 hle18 hin19 => octet_Reader_Bad_w R17 R0 (IM.le_trans hR0 hle18) g0_ (p0_r.1, p0_r.2) A0_1_ c0_2_ hc0_3_ (SlR.mono hA0_4_ (IM.le_refl _))  _ hy21) ?_)
      rintro _ _ _ ⟨A23, c24, rfl, hc25, hA26, rfl⟩
      refine OpsJ.nil ?_
      refine CodeJ.seq' ?_
      refine CodeJ.region ?_
      refine OpsJ.put rfl (OpJ.pure (OpP.assign rfl) ?_)
      refine OpsJ.nil ?_
      refine CodeJ.nilrow 5 1 ?_
      refine CodeJ.ret' ?_
      obtain rfl := Option.some.inj h22
      exact Ret.mk0 ⟨A23, c24, none, 0, ([] : List Value), rfl, hc25, (SlR.mono hA26 (IM.le_refl _)), (repL_nil IM.nil), rfl⟩ (ResJ.one Try.results46 rfl) (IM.le_refl _) (SubL.p1 (SubL.p0 (SubL.nil _)))
    · rw [if_neg hc16] at h
      refine CodeJ.cond_f rfl (decide_eq_false hc16) ?_
      refine CodeJ.skip ?_
      refine CodeJ.seq' ?_
      refine CodeJ.region ?_
      refine OpsJ.put rfl (OpJ.pure (OpP.move rfl) ?_)
      refine OpsJ.put rfl (OpJ.pure (OpP.nilCheck rfl) ?_)
      refine OpsJ.put rfl (OpJ.pure (OpP.fldAddr_lit rfl (by exact rfl)) ?_)
      refine OpsJ.put rfl (OpJ.pure (OpP.load_blk (by exact rfl) rfl (List.Mem.head _) rfl) ?_)
      refine OpsJ.put rfl (OpJ.pure (OpP.move rfl) ?_)
      obtain ⟨q30, hq31, h33⟩ := bind_ok h
      clear h
      have hA32 : SlR R0 A0_1_ q30 := cutA0 hA0_4_ hq31
      refine OpsJ.put rfl (OpJ.pure (OpP.cutHi hq31 rfl hc0_3_ rfl rfl) ?_)
      obtain ⟨y37, hy38, h39⟩ := bind_ok h33
      clear h33
      refine OpsJ.put rfl (OpJ.callP Split.nil rfl (fun R34 hle35 hin36 => bytes_Clone_w R34 A0_1_ q30.length c0_2_ q30 (SlR.mono hA32 (IM.le_trans hR0 hle35)) rfl (sub_cap hq31 hc0_3_)  _ hy38) ?_)
      rintro _ _ _ ⟨A40, c41, cs42, rfl, hr43, rfl⟩
      refine OpsJ.put rfl (OpJ.pure (OpP.assign rfl) ?_)
      refine OpsJ.nil ?_
      refine CodeJ.seq' ?_
      refine CodeJ.region ?_
      refine OpsJ.put rfl (OpJ.pure (OpP.move rfl) ?_)
      refine OpsJ.put rfl (OpJ.pure (OpP.move rfl) ?_)
      refine OpsJ.put rfl (OpJ.pure (OpP.nilCheck rfl) ?_)
      refine OpsJ.put rfl (OpJ.pure (OpP.fldAddr_lit rfl (by exact rfl)) ?_)
      refine OpsJ.put rfl (OpJ.pure (OpP.load_blk (by exact rfl) rfl (List.Mem.tail _ (List.Mem.head _)) rfl) ?_)
      refine OpsJ.put rfl (OpJ.pure (OpP.move rfl) ?_)
      obtain ⟨q45, hq46, h48⟩ := bind_ok h39
      clear h39
      have hA47 : SlR R0 (cutA A0_1_ (Int.toNat p1_n) c0_2_ 1) q45 := SlR.cut hA0_4_ hq46 hc0_3_
      refine OpsJ.put rfl (OpJ.pure (OpP.cutLo hq46 rfl rfl rfl) ?_)
      refine OpsJ.put rfl (OpJ.pure (OpP.nilCheck rfl) ?_)
      refine OpsJ.put rfl (OpJ.pure (OpP.fldAddr_lit rfl (by exact rfl)) ?_)
      refine OpsJ.act (OpJ.storeC (us := [.slice (cutA A0_1_ (Int.toNat p1_n) c0_2_ 1) q45.length (c0_2_ - Int.toNat p1_n)]) (cs := [.slice (cutA A0_1_ (Int.toNat p1_n) c0_2_ 1) q45.length (c0_2_ - Int.toNat p1_n), .bool p0_r.2]) rfl rfl rfl (List.Perm.swap _ _ _) (by exact rfl) rfl rfl rfl ?_)
      refine OpsJ.nil ?_
      refine CodeJ.seq' ?_
      refine CodeJ.region ?_
      refine OpsJ.put rfl (OpJ.pure (OpP.move rfl) ?_)
      refine OpsJ.put rfl (OpJ.pure (OpP.assign rfl) ?_)
      refine OpsJ.nil ?_
      refine CodeJ.ret' ?_
      obtain rfl := Option.some.inj h48
      exact Ret.mk0 ⟨(cutA A0_1_ (Int.toNat p1_n) c0_2_ 1), (c0_2_ - Int.toNat p1_n), A40, c41, cs42, rfl, (sub_cap hq46 hc0_3_), (SlR.mono hA47 (IM.le_refl _)), hr43, rfl⟩ (ResJ.one Try.results46 rfl) (IM.le_refl _) (SubL.p0 (SubL.p0 (SubL.nil _)))
theorem winnowerref1_Reader_Raw_w (R : IM) (R0 : IM) (hR0 : IM.le R0 R) (g0_ : Nat) (p0_r : (List UInt8) × Bool) (A0_1_ : Option Addr) (c0_2_ : Nat) (hc0_3_ : p0_r.1.length ≤ c0_2_) (hA0_4_ : SlR R0 A0_1_ p0_r.1) (p1_n : Int) (y : ((List UInt8) × Bool) × (List UInt8)) (h : winnowerref1_Reader_Raw p0_r p1_n = some y) :
    CallJ Try.prog 51 #[.pointer (some ⟨g0_, 0, none⟩), .int .i64 p1_n] ⟨R, [.blk g0_ [.slice A0_1_ p0_r.1.length c0_2_, .bool p0_r.2] 62]⟩ (fun v D hs' => ∃ (B1 : Option Addr) (d2 : Nat) (B5 : Option Addr) (d6 : Nat) (ds7 : List Value), v = .slice B5 y.2.length d6 ∧ y.1.1.length ≤ d2 ∧ SlR R0 B1 y.1.1 ∧ repL IM.nil ds7 y.2 ∧ hs' = [.blk g0_ [.slice B1 y.1.1.length d2, .bool y.1.2] 62, .row 5 1 B5 y.2.length d6 ds7]) := by
  unfold winnowerref1_Reader_Raw at h
  refine CallJ.of2 Try.func51 rfl Try.ntmps51 rfl (fun W0 => ?_)
  refine CodeJ.seq' ?_
  refine CodeJ.region ?_
  refine OpsJ.put rfl (OpJ.pure (OpP.assign rfl) ?_)
  refine OpsJ.nil ?_
  refine CodeJ.seq' ?_
  refine CodeJ.seq' ?_
  refine CodeJ.region ?_
  refine OpsJ.put rfl (OpJ.pure (OpP.move rfl) ?_)
  refine OpsJ.put rfl (OpJ.pure (OpP.lss rfl rfl) ?_)
  refine OpsJ.put rfl (OpJ.pure (OpP.move rfl) ?_)
  by_cases hc2 : p1_n < 0
  · rw [if_pos hc2] at h
    refine OpsJ.guard_n rfl rfl rfl rfl (decide_eq_true hc2) ?_
    refine OpsJ.guard_n rfl rfl rfl rfl (decide_eq_true hc2) ?_
    refine OpsJ.guard_n rfl rfl rfl rfl (decide_eq_true hc2) ?_
    refine OpsJ.guard_n rfl rfl rfl rfl (decide_eq_true hc2) ?_
    refine OpsJ.guard_n rfl rfl rfl rfl (decide_eq_true hc2) ?_
    refine OpsJ.guard_n rfl rfl rfl rfl (decide_eq_true hc2) ?_
    refine OpsJ.guard_n rfl rfl rfl rfl (decide_eq_true hc2) ?_
    refine OpsJ.put rfl (OpJ.pure (OpP.pick_t rfl (decide_eq_true hc2) rfl) ?_)
    refine OpsJ.nil ?_
    refine CodeJ.cond_t rfl rfl ?_
    refine CodeJ.region ?_
    refine OpsJ.put rfl (OpJ.pure (OpP.move rfl) ?_)
    obtain ⟨y6, hy7, h8⟩ := bind_ok h
    clear h
    refine OpsJ.put rfl (OpJ.callP (Split.p0 Split.nil) rfl (fun R3 hle4 hin5 => winnowerref1_Reader_Bad_w R3 R0 (IM.le_trans hR0 hle4) g0_ (p0_r.1, p0_r.2) A0_1_ c0_2_ hc0_3_ (SlR.mono hA0_4_ (IM.le_refl _))  _ hy7) ?_)
    rintro _ _ _ ⟨A9, c10, rfl, hc11, hA12, rfl⟩
    refine OpsJ.nil ?_
    refine CodeJ.seq' ?_
    refine CodeJ.seq' ?_
    refine CodeJ.region ?_
    refine OpsJ.put rfl (OpJ.pure (OpP.move rfl) ?_)
    refine OpsJ.put rfl (OpJ.pure (OpP.nilCheck rfl) ?_)
    refine OpsJ.put rfl (OpJ.pure (OpP.fldAddr_lit rfl (by exact rfl)) ?_)
    refine OpsJ.put rfl (OpJ.pure (OpP.load_blk (by exact rfl) rfl (List.Mem.head _) rfl) ?_)
    refine OpsJ.nil ?_
    by_cases hc13 : y6.2 = true
    · rw [if_pos hc13] at h8
      refine CodeJ.cond_t rfl hc13 ?_
      refine CodeJ.seq' ?_
      refine CodeJ.region ?_
      refine OpsJ.put rfl (OpJ.pure (OpP.assign rfl) ?_)
      refine OpsJ.nil ?_
      refine CodeJ.nilrow 5 1 ?_
      refine CodeJ.ret' ?_
      obtain rfl := Option.some.inj h8
      exact Ret.mk0 ⟨A9, c10, none, 0, ([] : List Value), rfl, hc11, (SlR.mono hA12 (IM.le_refl _)), (repL_nil IM.nil), rfl⟩ (ResJ.one Try.results51 rfl) (IM.le_refl _) (SubL.p1 (SubL.p0 (SubL.nil _)))
    · rw [if_neg hc13] at h8
      refine CodeJ.cond_f rfl (Bool.eq_false_iff.2 hc13) ?_
      refine CodeJ.skip ?_
      refine CodeJ.seq' ?_
      refine CodeJ.region ?_
      have hr18 : repL IM.nil [] ([] : List UInt8) := (repL_nil _)
      refine OpsJ.put rfl (OpJ.buildSliceC (cs := []) rfl rfl (by exact rfl) (by exact rfl) (by exact rfl) (by exact rfl) (fun g17 => ?_))
      refine OpsJ.put rfl (OpJ.pure (OpP.move rfl) ?_)
      refine OpsJ.put rfl (OpJ.pure (OpP.nilCheck rfl) ?_)
      refine OpsJ.put rfl (OpJ.pure (OpP.fldAddr_lit rfl (by exact rfl)) ?_)
      refine OpsJ.put rfl (OpJ.pure (OpP.load_blk (by exact rfl) rfl (List.Mem.tail _ (List.Mem.head _)) rfl) ?_)
      refine OpsJ.put rfl (OpJ.pure (OpP.move rfl) ?_)
      obtain ⟨q20, hq21, h23⟩ := bind_ok h8
      clear h8
      have hA22 : SlR R0 A9 q20 := cutA0 hA12 hq21
      refine OpsJ.put rfl (OpJ.pure (OpP.cutHi hq21 rfl hc11 rfl rfl) ?_)
      obtain ⟨q24, hq25, h26⟩ := bind_ok h23
      clear h23
      obtain ⟨es27, hs28, hp29⟩ := SlR.out hA22
      have hr32 : repL IM.nil (([] : List Value) ++ es27) q24 := app_rep hq25 hr18 (flat_rep hp29)
      refine OpsJ.put rfl (OpJ.appW hq25 rfl rfl (Src.ofR (RC.mono hs28 hR0)) hp29 (by exact rfl) (List.Perm.refl _) (by exact rfl) (by exact rfl) (by exact rfl) rfl rfl (fun A30 c31 => ?_))
      refine OpsJ.put rfl (OpJ.pure (OpP.assign rfl) ?_)
      refine OpsJ.nil ?_
      refine CodeJ.seq' ?_
      refine CodeJ.region ?_
      refine OpsJ.put rfl (OpJ.pure (OpP.move rfl) ?_)
      refine OpsJ.put rfl (OpJ.pure (OpP.move rfl) ?_)
      refine OpsJ.put rfl (OpJ.pure (OpP.nilCheck rfl) ?_)
      refine OpsJ.put rfl (OpJ.pure (OpP.fldAddr_lit rfl (by exact rfl)) ?_)
      refine OpsJ.put rfl (OpJ.pure (OpP.load_blk (by exact rfl) rfl (List.Mem.tail _ (List.Mem.head _)) rfl) ?_)
      refine OpsJ.put rfl (OpJ.pure (OpP.move rfl) ?_)
      obtain ⟨q34, hq35, h37⟩ := bind_ok h26
      clear h26
      have hA36 : SlR R0 (cutA A9 (Int.toNat p1_n) c10 1) q34 := SlR.cut hA12 hq35 hc11
      refine OpsJ.put rfl (OpJ.pure (OpP.cutLo hq35 rfl rfl rfl) ?_)
      refine OpsJ.put rfl (OpJ.pure (OpP.nilCheck rfl) ?_)
      refine OpsJ.put rfl (OpJ.pure (OpP.fldAddr_lit rfl (by exact rfl)) ?_)
      refine OpsJ.act (OpJ.storeC (us := [.slice (cutA A9 (Int.toNat p1_n) c10 1) q34.length (c10 - Int.toNat p1_n)]) (cs := [.slice (cutA A9 (Int.toNat p1_n) c10 1) q34.length (c10 - Int.toNat p1_n), .bool y6.2]) rfl rfl rfl (List.Perm.swap _ _ _) (by exact rfl) rfl rfl rfl ?_)
      refine OpsJ.nil ?_
      refine CodeJ.seq' ?_
      refine CodeJ.region ?_
      refine OpsJ.put rfl (OpJ.pure (OpP.move rfl) ?_)
      refine OpsJ.put rfl (OpJ.pure (OpP.assign rfl) ?_)
      refine OpsJ.nil ?_
      refine CodeJ.ret' ?_
      obtain rfl := Option.some.inj h37
      exact Ret.mk0 ⟨(cutA A9 (Int.toNat p1_n) c10 1), (c10 - Int.toNat p1_n), A30, c31, (([] : List Value) ++ es27), rfl, (sub_cap hq35 hc11), (SlR.mono hA36 (IM.le_refl _)), hr32, rfl⟩ (ResJ.one Try.results51 rfl) (IM.le_refl _) (SubL.p0 (SubL.p0 (SubL.nil _)))
  · rw [if_neg hc2] at h
    refine OpsJ.guard_y rfl rfl rfl rfl (decide_eq_false hc2) ?_
    refine OpsJ.put rfl (OpJ.pure (OpP.move rfl) ?_)
    refine OpsJ.guard_y rfl rfl rfl rfl (decide_eq_false hc2) ?_
    refine OpsJ.put rfl (OpJ.pure (OpP.move rfl) ?_)
    refine OpsJ.guard_y rfl rfl rfl rfl (decide_eq_false hc2) ?_
    refine OpsJ.put rfl (OpJ.pure (OpP.nilCheck rfl) ?_)
    refine OpsJ.guard_y rfl rfl rfl rfl (decide_eq_false hc2) ?_
    refine OpsJ.put rfl (OpJ.pure (OpP.fldAddr_lit rfl (by exact rfl)) ?_)
    refine OpsJ.guard_y rfl rfl rfl rfl (decide_eq_false hc2) ?_
    refine OpsJ.put rfl (OpJ.pure (OpP.load_blk (by exact rfl) rfl (List.Mem.head _) rfl) ?_)
    refine OpsJ.guard_y rfl rfl rfl rfl (decide_eq_false hc2) ?_
    refine OpsJ.put rfl (OpJ.pure (OpP.len rfl) ?_)
    refine OpsJ.guard_y rfl rfl rfl rfl (decide_eq_false hc2) ?_
    refine OpsJ.put rfl (OpJ.pure (OpP.gtr rfl rfl) ?_)
    refine OpsJ.put rfl (OpJ.pure (OpP.pick_f rfl (decide_eq_false hc2) rfl) ?_)
    refine OpsJ.nil ?_
    by_cases hc40 : p1_n > ((p0_r.1.length : Nat) : Int)
    · rw [if_pos hc40] at h
      refine CodeJ.cond_t rfl (decide_eq_true hc40) ?_
      refine CodeJ.region ?_
      refine OpsJ.put rfl (OpJ.pure (OpP.move rfl) ?_)
      obtain ⟨y44, hy45, h46⟩ := bind_ok h
      clear h
      refine OpsJ.put rfl (OpJ.callP (Split.p0 Split.nil) rfl (fun R41 hle42 hin43 => winnowerref1_Reader_Bad_w R41 R0 (IM.le_trans hR0 hle42) g0_ (p0_r.1, p0_r.2) A0_1_ c0_2_ hc0_3_ (SlR.mono hA0_4_ (IM.le_refl _))  _ hy45) ?_)
      rintro _ _ _ ⟨A47, c48, rfl, hc49, hA50, rfl⟩
      refine OpsJ.nil ?_
      refine CodeJ.seq' ?_
      refine CodeJ.seq' ?_
      refine CodeJ.region ?_
      refine OpsJ.put rfl (OpJ.pure (OpP.move rfl) ?_)
      refine OpsJ.put rfl (OpJ.pure (OpP.nilCheck rfl) ?_)
      refine OpsJ.put rfl (OpJ.pure (OpP.fldAddr_lit rfl (by exact rfl)) ?_)
      refine OpsJ.put rfl (OpJ.pure (OpP.load_blk (by exact rfl) rfl (List.Mem.head _) rfl) ?_)
      refine OpsJ.nil ?_
      by_cases hc51 : y44.2 = true
      · rw [if_pos hc51] at h46
        refine CodeJ.cond_t rfl hc51 ?_
        refine CodeJ.seq' ?_
        refine CodeJ.region ?_
        refine OpsJ.put rfl (OpJ.pure (OpP.assign rfl) ?_)
        refine OpsJ.nil ?_
        refine CodeJ.nilrow 5 1 ?_
        refine CodeJ.ret' ?_
        obtain rfl := Option.some.inj h46
        exact Ret.mk0 ⟨A47, c48, none, 0, ([] : List Value), rfl, hc49, (SlR.mono hA50 (IM.le_refl _)), (repL_nil IM.nil), rfl⟩ (ResJ.one Try.results51 rfl) (IM.le_refl _) (SubL.p1 (SubL.p0 (SubL.nil _)))
      · rw [if_neg hc51] at h46
        refine CodeJ.cond_f rfl (Bool.eq_false_iff.2 hc51) ?_
        refine CodeJ.skip ?_
        refine CodeJ.seq' ?_
        refine CodeJ.region ?_
        have hr56 : repL IM.nil [] ([] : List UInt8) := (repL_nil _)
        refine OpsJ.put rfl (OpJ.buildSliceC (cs := []) rfl rfl (by exact rfl) (by exact rfl) (by exact rfl) (by exact rfl) (fun g55 => ?_))
        refine OpsJ.put rfl (OpJ.pure (OpP.move rfl) ?_)
        refine OpsJ.put rfl (OpJ.pure (OpP.nilCheck rfl) ?_)
        refine OpsJ.put rfl (OpJ.pure (OpP.fldAddr_lit rfl (by exact rfl)) ?_)
        refine OpsJ.put rfl (OpJ.pure (OpP.load_blk (by exact rfl) rfl (List.Mem.tail _ (List.Mem.head _)) rfl) ?_)
        refine OpsJ.put rfl (OpJ.pure (OpP.move rfl) ?_)
        obtain ⟨q58, hq59, h61⟩ := bind_ok h46
        clear h46
        have hA60 : SlR R0 A47 q58 := cutA0 hA50 hq59
        refine OpsJ.put rfl (OpJ.pure (OpP.cutHi hq59 rfl hc49 rfl rfl) ?_)
        obtain ⟨q62, hq63, h64⟩ := bind_ok h61
        clear h61
        obtain ⟨es65, hs66, hp67⟩ := SlR.out hA60
        have hr70 : repL IM.nil (([] : List Value) ++ es65) q62 := app_rep hq63 hr56 (flat_rep hp67)
        refine OpsJ.put rfl (OpJ.appW hq63 rfl rfl (Src.ofR (RC.mono hs66 hR0)) hp67 (by exact rfl) (List.Perm.refl _) (by exact rfl) (by exact rfl) (by exact rfl) rfl rfl (fun A68 c69 => ?_))
        refine OpsJ.put rfl (OpJ.pure (OpP.assign rfl) ?_)
        refine OpsJ.nil ?_
        refine CodeJ.seq' ?_
        refine CodeJ.region ?_
        refine OpsJ.put rfl (OpJ.pure (OpP.move rfl) ?_)
        refine OpsJ.put rfl (OpJ.pure (OpP.move rfl) ?_)
        refine OpsJ.put rfl (OpJ.pure (OpP.nilCheck rfl) ?_)
        refine OpsJ.put rfl (OpJ.pure (OpP.fldAddr_lit rfl (by exact rfl)) ?_)
        refine OpsJ.put rfl (OpJ.pure (OpP.load_blk (by exact rfl) rfl (List.Mem.tail _ (List.Mem.head _)) rfl) ?_)
        refine OpsJ.put rfl (OpJ.pure (OpP.move rfl) ?_)
        obtain ⟨q72, hq73, h75⟩ := bind_ok h64
        clear h64
        have hA74 : SlR R0 (cutA A47 (Int.toNat p1_n) c48 1) q72 := SlR.cut hA50 hq73 hc49
        refine OpsJ.put rfl (OpJ.pure (OpP.cutLo hq73 rfl rfl rfl) ?_)
        refine OpsJ.put rfl (OpJ.pure (OpP.nilCheck rfl) ?_)
        refine OpsJ.put rfl (OpJ.pure (OpP.fldAddr_lit rfl (by exact rfl)) ?_)
        refine OpsJ.act (OpJ.storeC (us := [.slice (cutA A47 (Int.toNat p1_n) c48 1) q72.length (c48 - Int.toNat p1_n)]) (cs := [.slice (cutA A47 (Int.toNat p1_n) c48 1) q72.length (c48 - Int.toNat p1_n), .bool y44.2]) rfl rfl rfl (List.Perm.swap _ _ _) (by exact rfl) rfl rfl rfl ?_)
        refine OpsJ.nil ?_
        refine CodeJ.seq' ?_
        refine CodeJ.region ?_
        refine OpsJ.put rfl (OpJ.pure (OpP.move rfl) ?_)
        refine OpsJ.put rfl (OpJ.pure (OpP.assign rfl) ?_)
        refine OpsJ.nil ?_
        refine CodeJ.ret' ?_
        obtain rfl := Option.some.inj h75
        exact Ret.mk0 ⟨(cutA A47 (Int.toNat p1_n) c48 1), (c48 - Int.toNat p1_n), A68, c69, (([] : List Value) ++ es65), rfl, (sub_cap hq73 hc49), (SlR.mono hA74 (IM.le_refl _)), hr70, rfl⟩ (ResJ.one Try.results51 rfl) (IM.le_refl _) (SubL.p0 (SubL.p0 (SubL.nil _)))
    · rw [if_neg hc40] at h
      refine CodeJ.cond_f rfl (decide_eq_false hc40) ?_
      refine CodeJ.skip ?_
      refine CodeJ.seq' ?_
      refine CodeJ.seq' ?_
      refine CodeJ.region ?_
      refine OpsJ.put rfl (OpJ.pure (OpP.move rfl) ?_)
      refine OpsJ.put rfl (OpJ.pure (OpP.nilCheck rfl) ?_)
      refine OpsJ.put rfl (OpJ.pure (OpP.fldAddr_lit rfl (by exact rfl)) ?_)
      refine OpsJ.put rfl (OpJ.pure (OpP.load_blk (by exact rfl) rfl (List.Mem.head _) rfl) ?_)
      refine OpsJ.nil ?_
      by_cases hc78 : p0_r.2 = true
      · rw [if_pos hc78] at h
        refine CodeJ.cond_t rfl hc78 ?_
        refine CodeJ.seq' ?_
        refine CodeJ.region ?_
        refine OpsJ.put rfl (OpJ.pure (OpP.assign rfl) ?_)
        refine OpsJ.nil ?_
        refine CodeJ.nilrow 5 1 ?_
        refine CodeJ.ret' ?_
        obtain rfl := Option.some.inj h
        exact Ret.mk0 ⟨A0_1_, c0_2_, none, 0, ([] : List Value), rfl, hc0_3_, (SlR.mono hA0_4_ (IM.le_refl _)), (repL_nil IM.nil), rfl⟩ (ResJ.one Try.results51 rfl) (IM.le_refl _) (SubL.p1 (SubL.p0 (SubL.nil _)))
      · rw [if_neg hc78] at h
        refine CodeJ.cond_f rfl (Bool.eq_false_iff.2 hc78) ?_
        refine CodeJ.skip ?_
        refine CodeJ.seq' ?_
        refine CodeJ.region ?_
        have hr83 : repL IM.nil [] ([] : List UInt8) := (repL_nil _)
        refine OpsJ.put rfl (OpJ.buildSliceC (cs := []) rfl rfl (by exact rfl) (by exact rfl) (by exact rfl) (by exact rfl) (fun g82 => ?_))
        refine OpsJ.put rfl (OpJ.pure (OpP.move rfl) ?_)
        refine OpsJ.put rfl (OpJ.pure (OpP.nilCheck rfl) ?_)
        refine OpsJ.put rfl (OpJ.pure (OpP.fldAddr_lit rfl (by exact rfl)) ?_)
        refine OpsJ.put rfl (OpJ.pure (OpP.load_blk (by exact rfl) rfl (List.Mem.tail _ (List.Mem.head _)) rfl) ?_)
        refine OpsJ.put rfl (OpJ.pure (OpP.move rfl) ?_)
        obtain ⟨q85, hq86, h88⟩ := bind_ok h
        clear h
        have hA87 : SlR R0 A0_1_ q85 := cutA0 hA0_4_ hq86
        refine OpsJ.put rfl (OpJ.pure (OpP.cutHi hq86 rfl hc0_3_ rfl rfl) ?_)
        obtain ⟨q89, hq90, h91⟩ := bind_ok h88
        clear h88
        obtain ⟨es92, hs93, hp94⟩ := SlR.out hA87
        have hr97 : repL IM.nil (([] : List Value) ++ es92) q89 := app_rep hq90 hr83 (flat_rep hp94)
        refine OpsJ.put rfl (OpJ.appW hq90 rfl rfl (Src.ofR (RC.mono hs93 hR0)) hp94 (by exact rfl) (List.Perm.refl _) (by exact rfl) (by exact rfl) (by exact rfl) rfl rfl (fun A95 c96 => ?_))
        refine OpsJ.put rfl (OpJ.pure (OpP.assign rfl) ?_)
        refine OpsJ.nil ?_
        refine CodeJ.seq' ?_
        refine CodeJ.region ?_
        refine OpsJ.put rfl (OpJ.pure (OpP.move rfl) ?_)
        refine OpsJ.put rfl (OpJ.pure (OpP.move rfl) ?_)
        refine OpsJ.put rfl (OpJ.pure (OpP.nilCheck rfl) ?_)
        refine OpsJ.put rfl (OpJ.pure (OpP.fldAddr_lit rfl (by exact rfl)) ?_)
        refine OpsJ.put rfl (OpJ.pure (OpP.load_blk (by exact rfl) rfl (List.Mem.tail _ (List.Mem.head _)) rfl) ?_)
        refine OpsJ.put rfl (OpJ.pure (OpP.move rfl) ?_)
        obtain ⟨q99, hq100, h102⟩ := bind_ok h91
        clear h91
        have hA101 : SlR R0 (cutA A0_1_ (Int.toNat p1_n) c0_2_ 1) q99 := SlR.cut hA0_4_ hq100 hc0_3_
        refine OpsJ.put rfl (OpJ.pure (OpP.cutLo hq100 rfl rfl rfl) ?_)
        refine OpsJ.put rfl (OpJ.pure (OpP.nilCheck rfl) ?_)
        refine OpsJ.put rfl (OpJ.pure (OpP.fldAddr_lit rfl (by exact rfl)) ?_)
        refine OpsJ.act (OpJ.storeC (us := [.slice (cutA A0_1_ (Int.toNat p1_n) c0_2_ 1) q99.length (c0_2_ - Int.toNat p1_n)]) (cs := [.slice (cutA A0_1_ (Int.toNat p1_n) c0_2_ 1) q99.length (c0_2_ - Int.toNat p1_n), .bool p0_r.2]) rfl rfl rfl (List.Perm.swap _ _ _) (by exact rfl) rfl rfl rfl ?_)
        refine OpsJ.nil ?_
        refine CodeJ.seq' ?_
        refine CodeJ.region ?_
        refine OpsJ.put rfl (OpJ.pure (OpP.move rfl) ?_)
        refine OpsJ.put rfl (OpJ.pure (OpP.assign rfl) ?_)
        refine OpsJ.nil ?_
        refine CodeJ.ret' ?_
        obtain rfl := Option.some.inj h102
        exact Ret.mk0 ⟨(cutA A0_1_ (Int.toNat p1_n) c0_2_ 1), (c0_2_ - Int.toNat p1_n), A95, c96, (([] : List Value) ++ es92), rfl, (sub_cap hq100 hc0_3_), (SlR.mono hA101 (IM.le_refl _)), hr97, rfl⟩ (ResJ.one Try.results51 rfl) (IM.le_refl _) (SubL.p0 (SubL.p0 (SubL.nil _)))
theorem winnowerlaw1_known_w (R : IM)  (y : Bool) (h : winnowerlaw1_known = some y) :
    CallJ Try.prog 16 #[] ⟨R, []⟩ (fun v D hs' => v = .bool y ∧ hs' = []) := by
  unfold winnowerlaw1_known at h
  refine CallJ.of0 Try.func16 rfl Try.ntmps16 (fun W0 => ?_)
  refine CodeJ.seq' ?_
  refine CodeJ.region ?_
  refine OpsJ.put rfl (OpJ.pure (OpP.assign rfl) ?_)
  refine OpsJ.nil ?_
  refine CodeJ.seq' ?_
  refine CodeJ.region ?_
  refine OpsJ.put rfl (OpJ.alloc (fun g1 => ?_))
  refine OpsJ.nil ?_
  refine CodeJ.seq' ?_
  refine CodeJ.region ?_
  have hr4 : repL IM.nil [.int .i64 1, .int .i64 300] ([1, 300] : List Int) := (repL_cons (c1 := [.int .i64 1]) (show Dat.rep _ _ 1 from rfl) (repL_cons (c1 := [.int .i64 300]) (show Dat.rep _ _ 300 from rfl) (repL_nil _)))
  refine OpsJ.put rfl (OpJ.buildSliceC (cs := [.int .i64 1, .int .i64 300]) rfl rfl (by exact rfl) (by exact rfl) (by exact rfl) (by exact rfl) (fun g3 => ?_))
  refine OpsJ.nilrow 5 1 ?_
  refine OpsJ.rowle (List.Perm.swap _ _ _) (fun hcap7 _ => ?_)
  obtain ⟨y11, hy12, h13⟩ := bind_ok h
  clear h
  refine OpsJ.put rfl (OpJ.callP (Split.p2 (Split.p0 Split.nil)) rfl (fun R8 hle9 hin10 => octet_Writer_Nums_w R8 g1 ([] : List UInt8) none 0 ([] : List Value) (repL_nil IM.nil) (some ⟨g3, 0, none⟩) 2 2 ([1, 300] : List Int) (SlR.of_row (inRow hin10 (List.Mem.head _)) hr4 (IM.le_nil _)) rfl hcap7  _ hy12) ?_)
  rintro _ _ _ ⟨A14, c15, cs16, rfl, hr17, rfl⟩
  refine OpsJ.nil ?_
  refine CodeJ.seq' ?_
  refine CodeJ.region ?_
  have hr20 : repL IM.nil [.int .u8 (((97 : UInt8).toNat : Nat) : Int)] ([(97 : UInt8)] : List UInt8) := (repL_cons (c1 := [.int .u8 (((97 : UInt8).toNat : Nat) : Int)]) (show Dat.rep _ _ (97 : UInt8) from rfl) (repL_nil _))
  refine OpsJ.put rfl (OpJ.buildSliceC (cs := [.int .u8 (((97 : UInt8).toNat : Nat) : Int)]) rfl rfl (by exact rfl) (by exact rfl) (by exact rfl) (by exact rfl) (fun g19 => ?_))
  refine OpsJ.rowle (List.Perm.refl _) (fun hcap26 _ => ?_)
  refine OpsJ.put rfl (OpJ.conv_bytes rfl (List.Perm.refl _) (fun D22 hd23 hin24 => ?_))
  have hA25 : SlR (R.or D22) (some ⟨g19, 0, none⟩) ([(97 : UInt8)] : List UInt8) := SlR.of_row (RC.mono hin24 (IM.le_or_right hd23)) hr20 (IM.le_nil _)
  have hr28 : repL (R.or D22) [.slice (some ⟨g19, 0, none⟩) 1 1] ([([(97 : UInt8)] : List UInt8)] : List (List UInt8)) := (repL_cons (c1 := [.slice (some ⟨g19, 0, none⟩) 1 1]) (show Dat.rep _ _ ([(97 : UInt8)] : List UInt8) from ⟨(some ⟨g19, 0, none⟩), 1, rfl, hcap26, SlR.mono hA25 (IM.le_refl _)⟩) (repL_nil _))
  refine OpsJ.put rfl (OpJ.buildSliceC (cs := [.slice (some ⟨g19, 0, none⟩) 1 1]) rfl rfl (by exact rfl) (by exact rfl) (by exact rfl) (by exact rfl) (fun g27 => ?_))
  refine OpsJ.rowle (List.Perm.refl _) (fun hcap30 _ => ?_)
  obtain ⟨y34, hy35, h36⟩ := bind_ok h13
  clear h13
  refine OpsJ.put rfl (OpJ.callP (Split.p1 (Split.p1 Split.nil)) rfl (fun R31 hle32 hin33 => octet_Writer_Bytes_w R31 g1 y11 A14 c15 cs16 hr17 (some ⟨g27, 0, none⟩) 1 1 ([([(97 : UInt8)] : List UInt8)] : List (List UInt8)) (SlR.of_row (inRow hin33 (List.Mem.head _)) hr28 (IM.le_trans (IM.le_refl _) hle32)) rfl hcap30  _ hy35) ?_)
  rintro _ _ _ ⟨A37, c38, cs39, rfl, hr40, rfl⟩
  refine OpsJ.nil ?_
  refine CodeJ.seq' ?_
  refine CodeJ.region ?_
  obtain ⟨y45, hy46, h47⟩ := bind_ok h36
  clear h36
  refine OpsJ.put rfl (OpJ.callP (Split.p0 (Split.p0 Split.nil)) rfl (fun R42 hle43 hin44 => octet_Writer_Out_w R42 g1 y34 A37 c38 cs39 hr40  _ hy46) ?_)
  rintro _ _ _ ⟨A48, c49, cs50, A53, c54, cs55, rfl, hr51, hr56, rfl⟩
  have hr59 : repL IM.nil [.int .u8 (((1 : UInt8).toNat : Nat) : Int), .int .u8 (((172 : UInt8).toNat : Nat) : Int), .int .u8 (((2 : UInt8).toNat : Nat) : Int), .int .u8 (((1 : UInt8).toNat : Nat) : Int), .int .u8 (((97 : UInt8).toNat : Nat) : Int)] ([(1 : UInt8), (172 : UInt8), (2 : UInt8), (1 : UInt8), (97 : UInt8)] : List UInt8) := (repL_cons (c1 := [.int .u8 (((1 : UInt8).toNat : Nat) : Int)]) (show Dat.rep _ _ (1 : UInt8) from rfl) (repL_cons (c1 := [.int .u8 (((172 : UInt8).toNat : Nat) : Int)]) (show Dat.rep _ _ (172 : UInt8) from rfl) (repL_cons (c1 := [.int .u8 (((2 : UInt8).toNat : Nat) : Int)]) (show Dat.rep _ _ (2 : UInt8) from rfl) (repL_cons (c1 := [.int .u8 (((1 : UInt8).toNat : Nat) : Int)]) (show Dat.rep _ _ (1 : UInt8) from rfl) (repL_cons (c1 := [.int .u8 (((97 : UInt8).toNat : Nat) : Int)]) (show Dat.rep _ _ (97 : UInt8) from rfl) (repL_nil _))))))
  refine OpsJ.put rfl (OpJ.buildSliceC (cs := [.int .u8 (((1 : UInt8).toNat : Nat) : Int), .int .u8 (((172 : UInt8).toNat : Nat) : Int), .int .u8 (((2 : UInt8).toNat : Nat) : Int), .int .u8 (((1 : UInt8).toNat : Nat) : Int), .int .u8 (((97 : UInt8).toNat : Nat) : Int)]) rfl rfl (by exact rfl) (by exact rfl) (by exact rfl) (by exact rfl) (fun g58 => ?_))
  refine OpsJ.rowle (permm3 _ _ _ _ _) (fun hcap61 _ => ?_)
  refine OpsJ.rowle (List.Perm.refl _) (fun hcap62 _ => ?_)
  obtain ⟨y66, hy67, h68⟩ := bind_ok h47
  clear h47
  refine OpsJ.put rfl (OpJ.call0 rfl (fun R63 hle64 hin65 => winnowerlaw1_same_w R63 A53 y45.2.length c54 y45.2 (SlR.of_row (inRow hin65 (List.Mem.tail _ (List.Mem.tail _ (List.Mem.tail _ (List.Mem.head _))))) hr56 (IM.le_nil _)) rfl hcap61 (some ⟨g58, 0, none⟩) 5 5 ([(1 : UInt8), (172 : UInt8), (2 : UInt8), (1 : UInt8), (97 : UInt8)] : List UInt8) (SlR.of_row (inRow hin65 (List.Mem.head _)) hr59 (IM.le_nil _)) rfl hcap62  _ hy67) ?_)
  rintro _ _ _ ⟨rfl, rfl⟩
  refine OpsJ.put rfl (OpJ.pure (OpP.move rfl) ?_)
  by_cases hc69 : y66 = true
  · rw [if_pos hc69] at h68
    refine OpsJ.guard_y rfl rfl rfl rfl hc69 ?_
    have hr71 : repL IM.nil [.int .u8 (((49 : UInt8).toNat : Nat) : Int), .int .u8 (((50 : UInt8).toNat : Nat) : Int), .int .u8 (((51 : UInt8).toNat : Nat) : Int), .int .u8 (((52 : UInt8).toNat : Nat) : Int)] ([(49 : UInt8), (50 : UInt8), (51 : UInt8), (52 : UInt8)] : List UInt8) := (repL_cons (c1 := [.int .u8 (((49 : UInt8).toNat : Nat) : Int)]) (show Dat.rep _ _ (49 : UInt8) from rfl) (repL_cons (c1 := [.int .u8 (((50 : UInt8).toNat : Nat) : Int)]) (show Dat.rep _ _ (50 : UInt8) from rfl) (repL_cons (c1 := [.int .u8 (((51 : UInt8).toNat : Nat) : Int)]) (show Dat.rep _ _ (51 : UInt8) from rfl) (repL_cons (c1 := [.int .u8 (((52 : UInt8).toNat : Nat) : Int)]) (show Dat.rep _ _ (52 : UInt8) from rfl) (repL_nil _)))))
    refine OpsJ.put rfl (OpJ.buildSliceC (cs := [.int .u8 (((49 : UInt8).toNat : Nat) : Int), .int .u8 (((50 : UInt8).toNat : Nat) : Int), .int .u8 (((51 : UInt8).toNat : Nat) : Int), .int .u8 (((52 : UInt8).toNat : Nat) : Int)]) rfl rfl (by exact rfl) (by exact rfl) (by exact rfl) (by exact rfl) (fun g70 => ?_))
    refine OpsJ.guard_y rfl rfl rfl rfl hc69 ?_
    refine OpsJ.rowle (List.Perm.refl _) (fun hcap77 _ => ?_)
    refine OpsJ.put rfl (OpJ.conv_bytes rfl (List.Perm.refl _) (fun D73 hd74 hin75 => ?_))
    have hA76 : SlR ((R.or D22).or D73) (some ⟨g70, 0, none⟩) ([(49 : UInt8), (50 : UInt8), (51 : UInt8), (52 : UInt8)] : List UInt8) := SlR.of_row (RC.mono hin75 (IM.le_or_right hd74)) hr71 (IM.le_nil _)
    refine OpsJ.guard_y rfl rfl rfl rfl hc69 ?_
    have hr79 : repL IM.nil [.int .u8 (((53 : UInt8).toNat : Nat) : Int), .int .u8 (((54 : UInt8).toNat : Nat) : Int), .int .u8 (((55 : UInt8).toNat : Nat) : Int), .int .u8 (((56 : UInt8).toNat : Nat) : Int), .int .u8 (((57 : UInt8).toNat : Nat) : Int)] ([(53 : UInt8), (54 : UInt8), (55 : UInt8), (56 : UInt8), (57 : UInt8)] : List UInt8) := (repL_cons (c1 := [.int .u8 (((53 : UInt8).toNat : Nat) : Int)]) (show Dat.rep _ _ (53 : UInt8) from rfl) (repL_cons (c1 := [.int .u8 (((54 : UInt8).toNat : Nat) : Int)]) (show Dat.rep _ _ (54 : UInt8) from rfl) (repL_cons (c1 := [.int .u8 (((55 : UInt8).toNat : Nat) : Int)]) (show Dat.rep _ _ (55 : UInt8) from rfl) (repL_cons (c1 := [.int .u8 (((56 : UInt8).toNat : Nat) : Int)]) (show Dat.rep _ _ (56 : UInt8) from rfl) (repL_cons (c1 := [.int .u8 (((57 : UInt8).toNat : Nat) : Int)]) (show Dat.rep _ _ (57 : UInt8) from rfl) (repL_nil _))))))
    refine OpsJ.put rfl (OpJ.buildSliceC (cs := [.int .u8 (((53 : UInt8).toNat : Nat) : Int), .int .u8 (((54 : UInt8).toNat : Nat) : Int), .int .u8 (((55 : UInt8).toNat : Nat) : Int), .int .u8 (((56 : UInt8).toNat : Nat) : Int), .int .u8 (((57 : UInt8).toNat : Nat) : Int)]) rfl rfl (by exact rfl) (by exact rfl) (by exact rfl) (by exact rfl) (fun g78 => ?_))
    refine OpsJ.guard_y rfl rfl rfl rfl hc69 ?_
    refine OpsJ.rowle (List.Perm.refl _) (fun hcap85 _ => ?_)
    refine OpsJ.put rfl (OpJ.conv_bytes rfl (List.Perm.refl _) (fun D81 hd82 hin83 => ?_))
    have hA84 : SlR (((R.or D22).or D73).or D81) (some ⟨g78, 0, none⟩) ([(53 : UInt8), (54 : UInt8), (55 : UInt8), (56 : UInt8), (57 : UInt8)] : List UInt8) := SlR.of_row (RC.mono hin83 (IM.le_or_right hd82)) hr79 (IM.le_nil _)
    refine OpsJ.guard_y rfl rfl rfl rfl hc69 ?_
    have hr87 : repL (((R.or D22).or D73).or D81) [.slice (some ⟨g70, 0, none⟩) 4 4, .slice (some ⟨g78, 0, none⟩) 5 5] ([([(49 : UInt8), (50 : UInt8), (51 : UInt8), (52 : UInt8)] : List UInt8), ([(53 : UInt8), (54 : UInt8), (55 : UInt8), (56 : UInt8), (57 : UInt8)] : List UInt8)] : List (List UInt8)) := (repL_cons (c1 := [.slice (some ⟨g70, 0, none⟩) 4 4]) (show Dat.rep _ _ ([(49 : UInt8), (50 : UInt8), (51 : UInt8), (52 : UInt8)] : List UInt8) from ⟨(some ⟨g70, 0, none⟩), 4, rfl, hcap77, SlR.mono hA76 (IM.le_trans (IM.le_refl _) (IM.le_or _ _))⟩) (repL_cons (c1 := [.slice (some ⟨g78, 0, none⟩) 5 5]) (show Dat.rep _ _ ([(53 : UInt8), (54 : UInt8), (55 : UInt8), (56 : UInt8), (57 : UInt8)] : List UInt8) from ⟨(some ⟨g78, 0, none⟩), 5, rfl, hcap85, SlR.mono hA84 (IM.le_refl _)⟩) (repL_nil _)))
    refine OpsJ.put rfl (OpJ.buildSliceC (cs := [.slice (some ⟨g70, 0, none⟩) 4 4, .slice (some ⟨g78, 0, none⟩) 5 5]) rfl rfl (by exact rfl) (by exact rfl) (by exact rfl) (by exact rfl) (fun g86 => ?_))
    refine OpsJ.guard_y rfl rfl rfl rfl hc69 ?_
    refine OpsJ.rowle (List.Perm.refl _) (fun hcap89 _ => ?_)
    obtain ⟨y93, hy94, h95⟩ := bind_ok h68
    clear h68
    refine OpsJ.put rfl (OpJ.call0 rfl (fun R90 hle91 hin92 => octet_Sum_w R90 (some ⟨g86, 0, none⟩) 2 2 ([([(49 : UInt8), (50 : UInt8), (51 : UInt8), (52 : UInt8)] : List UInt8), ([(53 : UInt8), (54 : UInt8), (55 : UInt8), (56 : UInt8), (57 : UInt8)] : List UInt8)] : List (List UInt8)) (SlR.of_row (inRow hin92 (List.Mem.head _)) hr87 (IM.le_trans (IM.le_refl _) hle91)) rfl hcap89  _ hy94) ?_)
    rintro _ _ _ ⟨rfl, rfl⟩
    refine OpsJ.guard_y rfl rfl rfl rfl hc69 ?_
    refine OpsJ.put rfl (OpJ.pure (OpP.eql rfl rfl) ?_)
    refine OpsJ.put rfl (OpJ.pure (OpP.pick_t rfl hc69 rfl) ?_)
    refine OpsJ.put rfl (OpJ.pure (OpP.assign rfl) ?_)
    refine OpsJ.nil ?_
    refine CodeJ.ret' ?_
    obtain rfl := Option.some.inj h95
    exact Ret.mk0 ⟨rfl, rfl⟩ (ResJ.one Try.results16 rfl) (IM.le_trans (IM.le_trans (IM.le_trans (IM.le_refl _) (IM.le_or _ _)) (IM.le_or _ _)) (IM.le_or _ _)) (SubL.nil _)
  · rw [if_neg hc69] at h68
    refine OpsJ.guard_n rfl rfl rfl rfl (Bool.eq_false_iff.2 hc69) ?_
    refine OpsJ.guard_n rfl rfl rfl rfl (Bool.eq_false_iff.2 hc69) ?_
    refine OpsJ.guard_n rfl rfl rfl rfl (Bool.eq_false_iff.2 hc69) ?_
    refine OpsJ.guard_n rfl rfl rfl rfl (Bool.eq_false_iff.2 hc69) ?_
    refine OpsJ.guard_n rfl rfl rfl rfl (Bool.eq_false_iff.2 hc69) ?_
    refine OpsJ.guard_n rfl rfl rfl rfl (Bool.eq_false_iff.2 hc69) ?_
    refine OpsJ.guard_n rfl rfl rfl rfl (Bool.eq_false_iff.2 hc69) ?_
    refine OpsJ.put rfl (OpJ.pure (OpP.pick_f rfl (Bool.eq_false_iff.2 hc69) rfl) ?_)
    refine OpsJ.put rfl (OpJ.pure (OpP.assign rfl) ?_)
    refine OpsJ.nil ?_
    refine CodeJ.ret' ?_
    obtain rfl := Option.some.inj h68
    exact Ret.mk0 ⟨rfl, rfl⟩ (ResJ.one Try.results16 rfl) (IM.le_trans (IM.le_refl _) (IM.le_or _ _)) (SubL.nil _)
theorem octet_Reader_Bytes_w (R : IM) (R0 : IM) (hR0 : IM.le R0 R) (g0_ : Nat) (p0_r : (List UInt8) × Bool) (A0_1_ : Option Addr) (c0_2_ : Nat) (hc0_3_ : p0_r.1.length ≤ c0_2_) (hA0_4_ : SlR R0 A0_1_ p0_r.1) (y : ((List UInt8) × Bool) × (List UInt8)) (h : octet_Reader_Bytes p0_r = some y) :
    CallJ Try.prog 44 #[.pointer (some ⟨g0_, 0, none⟩)] ⟨R, [.blk g0_ [.slice A0_1_ p0_r.1.length c0_2_, .bool p0_r.2] 75]⟩ (fun v D hs' => ∃ (B1 : Option Addr) (d2 : Nat) (B5 : Option Addr) (d6 : Nat) (ds7 : List Value), v = .slice B5 y.2.length d6 ∧ y.1.1.length ≤ d2 ∧ SlR R0 B1 y.1.1 ∧ repL IM.nil ds7 y.2 ∧ hs' = [.blk g0_ [.slice B1 y.1.1.length d2, .bool y.1.2] 75, .row 5 1 B5 y.2.length d6 ds7]) := by
  unfold octet_Reader_Bytes at h
  refine CallJ.of1 Try.func44 rfl Try.ntmps44 rfl (fun W0 => ?_)
  refine CodeJ.seq' ?_
  refine CodeJ.region ?_
  refine OpsJ.put rfl (OpJ.pure (OpP.assign rfl) ?_)
  refine OpsJ.nil ?_
  refine CodeJ.seq' ?_
  refine CodeJ.region ?_
  refine OpsJ.put rfl (OpJ.pure (OpP.move rfl) ?_)
  refine OpsJ.put rfl (OpJ.pure (OpP.move rfl) ?_)
  obtain ⟨y5, hy6, h7⟩ := bind_ok h
  clear h
  refine OpsJ.put rfl (OpJ.callP (Split.p0 Split.nil) rfl (fun R2 hle3 hin4 => octet_Reader_Num_w R2 R0 (IM.le_trans hR0 hle3) g0_ (p0_r.1, p0_r.2) A0_1_ c0_2_ hc0_3_ (SlR.mono hA0_4_ (IM.le_refl _))  _ hy6) ?_)
  rintro _ _ _ ⟨A8, c9, rfl, hc10, hA11, rfl⟩
  obtain ⟨y15, hy16, h17⟩ := bind_ok h7
  clear h7
  refine OpsJ.put rfl (OpJ.callP (Split.p0 Split.nil) rfl (fun R12 hle13 hin14 => octet_Reader_Raw_w R12 R0 (IM.le_trans hR0 hle13) g0_ (y5.1.1, y5.1.2) A8 c9 hc10 (SlR.mono hA11 (IM.le_refl _)) y5.2  _ hy16) ?_)
  rintro _ _ _ ⟨A18, c19, A22, c23, cs24, rfl, hc20, hA21, hr25, rfl⟩
  refine OpsJ.put rfl (OpJ.pure (OpP.assign rfl) ?_)
  refine OpsJ.nil ?_
  refine CodeJ.ret' ?_
  obtain rfl := Option.some.inj h17
  exact Ret.mk0 ⟨A18, c19, A22, c23, cs24, rfl, hc20, (SlR.mono hA21 (IM.le_refl _)), hr25, rfl⟩ (ResJ.one Try.results44 rfl) (IM.le_refl _) (SubL.p0 (SubL.p0 (SubL.nil _)))
theorem winnowerref1_Reader_Num_w (R : IM) (R0 : IM) (hR0 : IM.le R0 R) (g0_ : Nat) (p0_r : (List UInt8) × Bool) (A0_1_ : Option Addr) (c0_2_ : Nat) (hc0_3_ : p0_r.1.length ≤ c0_2_) (hA0_4_ : SlR R0 A0_1_ p0_r.1) (y : ((List UInt8) × Bool) × Int) (h : winnowerref1_Reader_Num p0_r = some y) :
    CallJ Try.prog 49 #[.pointer (some ⟨g0_, 0, none⟩)] ⟨R, [.blk g0_ [.slice A0_1_ p0_r.1.length c0_2_, .bool p0_r.2] 62]⟩ (fun v D hs' => ∃ (B1 : Option Addr) (d2 : Nat), v = .int .i64 y.2 ∧ y.1.1.length ≤ d2 ∧ SlR R0 B1 y.1.1 ∧ hs' = [.blk g0_ [.slice B1 y.1.1.length d2, .bool y.1.2] 62]) := by
  unfold winnowerref1_Reader_Num at h
  refine CallJ.of1 Try.func49 rfl Try.ntmps49 rfl (fun W0 => ?_)
  refine CodeJ.seq' ?_
  refine CodeJ.region ?_
  refine OpsJ.put rfl (OpJ.pure (OpP.assign rfl) ?_)
  refine OpsJ.nil ?_
  refine CodeJ.seq' ?_
  refine CodeJ.region ?_
  refine OpsJ.put rfl (OpJ.pure (OpP.assign rfl) ?_)
  refine OpsJ.nil ?_
  refine CodeJ.seq' ?_
  refine CodeJ.seq' ?_
  refine CodeJ.region ?_
  refine OpsJ.put rfl (OpJ.pure (OpP.assign rfl) ?_)
  refine OpsJ.nil ?_
  obtain ⟨t143, hl144, h145⟩ := bind_ok h
  clear h
  refine CodeJ.mid (fun e s => ∃ (A136 : Option Addr) (c137 : Nat) (f135 : List UInt8) (f140 : Bool), .inr (f135, f140) = t143 ∧ f135.length ≤ c137 ∧ SlR R0 A136 f135 ∧ e = [(0, .pointer (some ⟨g0_, 0, none⟩))] ∧ s = ⟨R, [.blk g0_ [.slice A136 f135.length c137, .bool f140] 62]⟩) ?_ ?_
  · refine CodeJ.block ?_
    refine CodeJ.loopM hl144 (fun (u_88, i_89, f90, f95) e s => ∃ (A91 : Option Addr) (c92 : Nat), f90.length ≤ c92 ∧ SlR R0 A91 f90 ∧ e = [(0, .pointer (some ⟨g0_, 0, none⟩)), (3, .int .u64 ((u_88.toNat : Nat) : Int)), (4, .int .i64 i_89)] ∧ s = ⟨R, [.blk g0_ [.slice A91 f90.length c92, .bool f95] 62]⟩) ⟨A0_1_, c0_2_, hc0_3_, (SlR.mono hA0_4_ (IM.le_refl _)), rfl, rfl⟩ (SubE.cons rfl (SubE.cons rfl (SubE.cons rfl (SubE.nil _)))) (SubL.p0 (SubL.nil _)) ?_
    rintro ⟨u_88, i_89, f90, f95⟩ _ _ _ ⟨A91, c92, hc94, hA93, rfl, rfl⟩ h141 hne142
    (try dsimp only at h141); unfold winnowerref1_Reader_Num_l0 at h141
    refine CodeJ.seq' ?_
    refine CodeJ.seq' ?_
    refine CodeJ.region ?_
    refine OpsJ.put rfl (OpJ.pure (OpP.move rfl) ?_)
    refine OpsJ.put rfl (OpJ.pure (OpP.lss rfl rfl) ?_)
    refine OpsJ.nil ?_
    by_cases hc146 : i_89 < 10
    · rw [if_pos hc146] at h141
      refine CodeJ.cond_t rfl (decide_eq_true hc146) ?_
      refine CodeJ.skip ?_
      refine CodeJ.seq' ?_
      refine CodeJ.block ?_
      refine CodeJ.seq' ?_
      refine CodeJ.region ?_
      refine OpsJ.put rfl (OpJ.pure (OpP.move rfl) ?_)
      obtain ⟨y150, hy151, h152⟩ := bind_ok h141
      clear h141
      refine OpsJ.put rfl (OpJ.callP (Split.p0 Split.nil) rfl (fun R147 hle148 hin149 => winnowerref1_Reader_Raw_w R147 R0 (IM.le_trans hR0 hle148) g0_ (f90, f95) A91 c92 hc94 (SlR.mono hA93 (IM.le_refl _)) 1  _ hy151) ?_)
      rintro _ _ _ ⟨A153, c154, A157, c158, cs159, rfl, hc155, hA156, hr160, rfl⟩
      refine OpsJ.put rfl (OpJ.pure (OpP.assign rfl) ?_)
      refine OpsJ.nil ?_
      refine CodeJ.seq' ?_
      refine CodeJ.seq' ?_
      refine CodeJ.region ?_
      refine OpsJ.put rfl (OpJ.pure (OpP.move rfl) ?_)
      refine OpsJ.put rfl (OpJ.pure (OpP.nilCheck rfl) ?_)
      refine OpsJ.put rfl (OpJ.pure (OpP.fldAddr_lit rfl (by exact rfl)) ?_)
      refine OpsJ.put rfl (OpJ.pure (OpP.load_blk (by exact rfl) rfl (List.Mem.head _) rfl) ?_)
      refine OpsJ.nil ?_
      by_cases hc162 : y150.1.2 = true
      · rw [if_pos hc162] at h152
        refine CodeJ.cond_t rfl hc162 ?_
        refine CodeJ.seq' ?_
        refine CodeJ.region ?_
        refine OpsJ.put rfl (OpJ.pure (OpP.assign rfl) ?_)
        refine OpsJ.nil ?_
        obtain rfl := Option.some.inj h152
        have ht163 := hne142 _ rfl
        subst ht163
        simp only [Sum.elim_inl] at h145
        refine CodeJ.ret' ?_
        obtain rfl := Option.some.inj h145
        exact Ret.mk0 ⟨A153, c154, rfl, hc155, (SlR.mono hA156 (IM.le_refl _)), rfl⟩ (ResJ.one Try.results49 rfl) (IM.le_refl _) (SubL.p0 (SubL.nil _))
      · rw [if_neg hc162] at h152
        refine CodeJ.cond_f rfl (Bool.eq_false_iff.2 hc162) ?_
        refine CodeJ.skip ?_
        refine CodeJ.seq' ?_
        refine CodeJ.region ?_
        refine OpsJ.put rfl (OpJ.pure (OpP.move rfl) ?_)
        obtain ⟨x166, hx167, h168⟩ := bind_ok h152
        clear h152
        have hE169 : ∀ j v, ([.int .u8 ((x166.toNat : Nat) : Int)] : List Value)[j]? = some v → (cs159)[Int.toNat 0 * Dat.size UInt8 + j]? = some v := row_getF (α := UInt8) hr160 hx167
        refine OpsJ.put rfl (OpJ.pure (OpP.ixW (List.Mem.tail _ (List.Mem.head _)) hr160 rfl hx167 (by exact rfl) (by exact rfl) rfl rfl) ?_)
        refine OpsJ.put rfl (OpJ.pure (OpP.ldW0 (by exact rfl) (List.Mem.tail _ (List.Mem.head _)) hE169 rfl rfl) ?_)
        refine OpsJ.put rfl (OpJ.pure (OpP.assign rfl) ?_)
        refine OpsJ.nil ?_
        refine CodeJ.seq' ?_
        refine CodeJ.seq' ?_
        refine CodeJ.region ?_
        refine OpsJ.put rfl (OpJ.pure (OpP.move rfl) ?_)
        refine OpsJ.put rfl (OpJ.pure (OpP.eql rfl rfl) ?_)
        refine OpsJ.put rfl (OpJ.pure (OpP.move rfl) ?_)
        by_cases hc170 : i_89 = 9
        · rw [if_pos hc170] at h168
          refine OpsJ.guard_y rfl rfl rfl rfl (decide_eq_true hc170) ?_
          refine OpsJ.put rfl (OpJ.pure (OpP.move rfl) ?_)
          refine OpsJ.guard_y rfl rfl rfl rfl (decide_eq_true hc170) ?_
          refine OpsJ.put rfl (OpJ.pure (OpP.gtr rfl rfl) ?_)
          refine OpsJ.put rfl (OpJ.pure (OpP.pick_t rfl (decide_eq_true hc170) rfl) ?_)
          refine OpsJ.nil ?_
          by_cases hc171 : ((x166.toNat : Nat) : Int) > (((127 : UInt8).toNat : Nat) : Int)
          · rw [if_pos hc171] at h168
            refine CodeJ.cond_t rfl (decide_eq_true hc171) ?_
            refine CodeJ.exit rfl ?_
            obtain rfl := Option.some.inj h168
            have ht172 := hne142 _ rfl
            exact ⟨_, _, _, ⟨A153, c154, y150.1.1, y150.1.2, ht172, hc155, (SlR.mono hA156 (IM.le_refl _)), rfl, rfl⟩, IM.le_refl _, (SubE.cons rfl (SubE.nil _)), (SubL.p0 (SubL.nil _))⟩
          · rw [if_neg hc171] at h168
            refine CodeJ.cond_f rfl (decide_eq_false hc171) ?_
            refine CodeJ.skip ?_
            refine CodeJ.seq' ?_
            refine CodeJ.seq' ?_
            refine CodeJ.region ?_
            refine OpsJ.put rfl (OpJ.pure (OpP.move rfl) ?_)
            refine OpsJ.put rfl (OpJ.pure (OpP.eql rfl rfl) ?_)
            refine OpsJ.put rfl (OpJ.pure (OpP.move rfl) ?_)
            refine OpsJ.guard_y rfl rfl rfl rfl (decide_eq_true hc170) ?_
            refine OpsJ.put rfl (OpJ.pure (OpP.move rfl) ?_)
            refine OpsJ.guard_y rfl rfl rfl rfl (decide_eq_true hc170) ?_
            refine OpsJ.put rfl (OpJ.pure (OpP.gtr rfl rfl) ?_)
            refine OpsJ.put rfl (OpJ.pure (OpP.pick_t rfl (decide_eq_true hc170) rfl) ?_)
            refine OpsJ.nil ?_
            by_cases hc173 : ((x166.toNat : Nat) : Int) > (((1 : UInt8).toNat : Nat) : Int)
            · rw [if_pos hc173] at h168
              refine CodeJ.cond_t rfl (decide_eq_true hc173) ?_
              refine CodeJ.exit rfl ?_
              obtain rfl := Option.some.inj h168
              have ht174 := hne142 _ rfl
              exact ⟨_, _, _, ⟨A153, c154, y150.1.1, y150.1.2, ht174, hc155, (SlR.mono hA156 (IM.le_refl _)), rfl, rfl⟩, IM.le_refl _, (SubE.cons rfl (SubE.nil _)), (SubL.p0 (SubL.nil _))⟩
            · rw [if_neg hc173] at h168
              refine CodeJ.cond_f rfl (decide_eq_false hc173) ?_
              refine CodeJ.skip ?_
              refine CodeJ.seq' ?_
              refine CodeJ.region ?_
              refine OpsJ.put rfl (OpJ.pure (OpP.move rfl) ?_)
              refine OpsJ.put rfl (OpJ.pure (OpP.move rfl) ?_)
              refine OpsJ.put rfl (OpJ.pure (OpP.andU8 (a := x166) (b := (127 : UInt8)) rfl rfl) ?_)
              refine OpsJ.put rfl (OpJ.pure (OpP.toU64 rfl) ?_)
              refine OpsJ.put rfl (OpJ.pure (OpP.move rfl) ?_)
              refine OpsJ.put rfl (OpJ.pure (OpP.mul64 rfl rfl) ?_)
              refine OpsJ.put rfl (OpJ.pure (OpP.toU64 rfl) ?_)
              obtain ⟨m175, hm176, h177⟩ := bind_ok h168
              clear h168
              refine OpsJ.put rfl (OpJ.pure (OpP.shlU64 (a := (ofI64 (((x166 &&& (127 : UInt8)).toNat : Nat) : Int))) (amt?_ok hm176) rfl rfl) ?_)
              refine OpsJ.put rfl (OpJ.pure (OpP.orU64 (a := u_88) (b := (FW.shl64 (ofI64 (((x166 &&& (127 : UInt8)).toNat : Nat) : Int)) m175)) rfl rfl) ?_)
              refine OpsJ.put rfl (OpJ.pure (OpP.assign rfl) ?_)
              refine OpsJ.nil ?_
              refine CodeJ.seq' ?_
              refine CodeJ.seq' ?_
              refine CodeJ.region ?_
              refine OpsJ.put rfl (OpJ.pure (OpP.move rfl) ?_)
              refine OpsJ.put rfl (OpJ.pure (OpP.gtr rfl rfl) ?_)
              refine OpsJ.nil ?_
              refine CodeJ.cond_f rfl (decide_eq_false hc171) ?_
              refine CodeJ.skip ?_
              refine CodeJ.seq' ?_
              refine CodeJ.seq' ?_
              refine CodeJ.region ?_
              refine OpsJ.put rfl (OpJ.pure (OpP.move rfl) ?_)
              refine OpsJ.put rfl (OpJ.pure (OpP.gtr rfl rfl) ?_)
              refine OpsJ.put rfl (OpJ.pure (OpP.move rfl) ?_)
              by_cases hc178 : i_89 > 0
              · rw [if_pos hc178] at h177
                refine OpsJ.guard_y rfl rfl rfl rfl (decide_eq_true hc178) ?_
                refine OpsJ.put rfl (OpJ.pure (OpP.move rfl) ?_)
                refine OpsJ.guard_y rfl rfl rfl rfl (decide_eq_true hc178) ?_
                refine OpsJ.put rfl (OpJ.pure (OpP.eql rfl rfl) ?_)
                refine OpsJ.put rfl (OpJ.pure (OpP.pick_t rfl (decide_eq_true hc178) rfl) ?_)
                refine OpsJ.put rfl (OpJ.pure (OpP.move rfl) ?_)
                by_cases hc179 : ((x166.toNat : Nat) : Int) = (((0 : UInt8).toNat : Nat) : Int)
                · rw [if_pos hc179] at h177
                  refine OpsJ.guard_n rfl rfl rfl rfl (decide_eq_true hc179) ?_
                  refine OpsJ.guard_n rfl rfl rfl rfl (decide_eq_true hc179) ?_
                  refine OpsJ.put rfl (OpJ.pure (OpP.pick_t rfl (decide_eq_true hc179) rfl) ?_)
                  refine OpsJ.nil ?_
                  refine CodeJ.cond_t rfl rfl ?_
                  refine CodeJ.exit rfl ?_
                  obtain rfl := Option.some.inj h177
                  have ht180 := hne142 _ rfl
                  exact ⟨_, _, _, ⟨A153, c154, y150.1.1, y150.1.2, ht180, hc155, (SlR.mono hA156 (IM.le_refl _)), rfl, rfl⟩, IM.le_refl _, (SubE.cons rfl (SubE.nil _)), (SubL.p0 (SubL.nil _))⟩
                · rw [if_neg hc179] at h177
                  refine OpsJ.guard_y rfl rfl rfl rfl (decide_eq_false hc179) ?_
                  refine OpsJ.put rfl (OpJ.pure (OpP.move rfl) ?_)
                  refine OpsJ.guard_y rfl rfl rfl rfl (decide_eq_false hc179) ?_
                  refine OpsJ.put rfl (OpJ.pure (OpP.gtr rfl rfl) ?_)
                  refine OpsJ.put rfl (OpJ.pure (OpP.pick_f rfl (decide_eq_false hc179) rfl) ?_)
                  refine OpsJ.nil ?_
                  by_cases hc181 : (((u_88 ||| (FW.shl64 (ofI64 (((x166 &&& (127 : UInt8)).toNat : Nat) : Int)) m175)).toNat : Nat) : Int) > (((4611686018427387904 : UInt64).toNat : Nat) : Int)
                  · rw [if_pos hc181] at h177
                    refine CodeJ.cond_t rfl (decide_eq_true hc181) ?_
                    refine CodeJ.exit rfl ?_
                    obtain rfl := Option.some.inj h177
                    have ht182 := hne142 _ rfl
                    exact ⟨_, _, _, ⟨A153, c154, y150.1.1, y150.1.2, ht182, hc155, (SlR.mono hA156 (IM.le_refl _)), rfl, rfl⟩, IM.le_refl _, (SubE.cons rfl (SubE.nil _)), (SubL.p0 (SubL.nil _))⟩
                  · rw [if_neg hc181] at h177
                    refine CodeJ.cond_f rfl (decide_eq_false hc181) ?_
                    refine CodeJ.skip ?_
                    refine CodeJ.seq' ?_
                    refine CodeJ.region ?_
                    refine OpsJ.put rfl (OpJ.pure (OpP.move rfl) ?_)
                    refine OpsJ.put rfl (OpJ.pure (OpP.conv64' rfl) ?_)
                    refine OpsJ.put rfl (OpJ.pure (OpP.assign rfl) ?_)
                    refine OpsJ.nil ?_
                    obtain rfl := Option.some.inj h177
                    have ht183 := hne142 _ rfl
                    subst ht183
                    simp only [Sum.elim_inl] at h145
                    refine CodeJ.ret' ?_
                    obtain rfl := Option.some.inj h145
                    exact Ret.mk0 ⟨A153, c154, rfl, hc155, (SlR.mono hA156 (IM.le_refl _)), rfl⟩ (ResJ.one Try.results49 rfl) (IM.le_refl _) (SubL.p0 (SubL.nil _))
              · rw [if_neg hc178] at h177
                refine OpsJ.guard_n rfl rfl rfl rfl (decide_eq_false hc178) ?_
                refine OpsJ.guard_n rfl rfl rfl rfl (decide_eq_false hc178) ?_
                refine OpsJ.put rfl (OpJ.pure (OpP.pick_f rfl (decide_eq_false hc178) rfl) ?_)
                refine OpsJ.put rfl (OpJ.pure (OpP.move rfl) ?_)
                refine OpsJ.guard_y rfl rfl rfl rfl rfl ?_
                refine OpsJ.put rfl (OpJ.pure (OpP.move rfl) ?_)
                refine OpsJ.guard_y rfl rfl rfl rfl rfl ?_
                refine OpsJ.put rfl (OpJ.pure (OpP.gtr rfl rfl) ?_)
                refine OpsJ.put rfl (OpJ.pure (OpP.pick_f rfl rfl rfl) ?_)
                refine OpsJ.nil ?_
                by_cases hc186 : (((u_88 ||| (FW.shl64 (ofI64 (((x166 &&& (127 : UInt8)).toNat : Nat) : Int)) m175)).toNat : Nat) : Int) > (((4611686018427387904 : UInt64).toNat : Nat) : Int)
                · rw [if_pos hc186] at h177
                  refine CodeJ.cond_t rfl (decide_eq_true hc186) ?_
                  refine CodeJ.exit rfl ?_
                  obtain rfl := Option.some.inj h177
                  have ht187 := hne142 _ rfl
                  exact ⟨_, _, _, ⟨A153, c154, y150.1.1, y150.1.2, ht187, hc155, (SlR.mono hA156 (IM.le_refl _)), rfl, rfl⟩, IM.le_refl _, (SubE.cons rfl (SubE.nil _)), (SubL.p0 (SubL.nil _))⟩
                · rw [if_neg hc186] at h177
                  refine CodeJ.cond_f rfl (decide_eq_false hc186) ?_
                  refine CodeJ.skip ?_
                  refine CodeJ.seq' ?_
                  refine CodeJ.region ?_
                  refine OpsJ.put rfl (OpJ.pure (OpP.move rfl) ?_)
                  refine OpsJ.put rfl (OpJ.pure (OpP.conv64' rfl) ?_)
                  refine OpsJ.put rfl (OpJ.pure (OpP.assign rfl) ?_)
                  refine OpsJ.nil ?_
                  obtain rfl := Option.some.inj h177
                  have ht188 := hne142 _ rfl
                  subst ht188
                  simp only [Sum.elim_inl] at h145
                  refine CodeJ.ret' ?_
                  obtain rfl := Option.some.inj h145
                  exact Ret.mk0 ⟨A153, c154, rfl, hc155, (SlR.mono hA156 (IM.le_refl _)), rfl⟩ (ResJ.one Try.results49 rfl) (IM.le_refl _) (SubL.p0 (SubL.nil _))
        · rw [if_neg hc170] at h168
          refine OpsJ.guard_n rfl rfl rfl rfl (decide_eq_false hc170) ?_
          refine OpsJ.guard_n rfl rfl rfl rfl (decide_eq_false hc170) ?_
          refine OpsJ.put rfl (OpJ.pure (OpP.pick_f rfl (decide_eq_false hc170) rfl) ?_)
          refine OpsJ.nil ?_
          refine CodeJ.cond_f rfl rfl ?_
          refine CodeJ.skip ?_
          refine CodeJ.seq' ?_
          refine CodeJ.seq' ?_
          refine CodeJ.region ?_
          refine OpsJ.put rfl (OpJ.pure (OpP.move rfl) ?_)
          refine OpsJ.put rfl (OpJ.pure (OpP.eql rfl rfl) ?_)
          refine OpsJ.put rfl (OpJ.pure (OpP.move rfl) ?_)
          refine OpsJ.guard_n rfl rfl rfl rfl (decide_eq_false hc170) ?_
          refine OpsJ.guard_n rfl rfl rfl rfl (decide_eq_false hc170) ?_
          refine OpsJ.put rfl (OpJ.pure (OpP.pick_f rfl (decide_eq_false hc170) rfl) ?_)
          refine OpsJ.nil ?_
          refine CodeJ.cond_f rfl rfl ?_
          refine CodeJ.skip ?_
          refine CodeJ.seq' ?_
          refine CodeJ.region ?_
          refine OpsJ.put rfl (OpJ.pure (OpP.move rfl) ?_)
          refine OpsJ.put rfl (OpJ.pure (OpP.move rfl) ?_)
          refine OpsJ.put rfl (OpJ.pure (OpP.andU8 (a := x166) (b := (127 : UInt8)) rfl rfl) ?_)
          refine OpsJ.put rfl (OpJ.pure (OpP.toU64 rfl) ?_)
          refine OpsJ.put rfl (OpJ.pure (OpP.move rfl) ?_)
          refine OpsJ.put rfl (OpJ.pure (OpP.mul64 rfl rfl) ?_)
          refine OpsJ.put rfl (OpJ.pure (OpP.toU64 rfl) ?_)
          obtain ⟨m191, hm192, h193⟩ := bind_ok h168
          clear h168
          refine OpsJ.put rfl (OpJ.pure (OpP.shlU64 (a := (ofI64 (((x166 &&& (127 : UInt8)).toNat : Nat) : Int))) (amt?_ok hm192) rfl rfl) ?_)
          refine OpsJ.put rfl (OpJ.pure (OpP.orU64 (a := u_88) (b := (FW.shl64 (ofI64 (((x166 &&& (127 : UInt8)).toNat : Nat) : Int)) m191)) rfl rfl) ?_)
          refine OpsJ.put rfl (OpJ.pure (OpP.assign rfl) ?_)
          refine OpsJ.nil ?_
          refine CodeJ.seq' ?_
          refine CodeJ.seq' ?_
          refine CodeJ.region ?_
          refine OpsJ.put rfl (OpJ.pure (OpP.move rfl) ?_)
          refine OpsJ.put rfl (OpJ.pure (OpP.gtr rfl rfl) ?_)
          refine OpsJ.nil ?_
          by_cases hc194 : ((x166.toNat : Nat) : Int) > (((127 : UInt8).toNat : Nat) : Int)
          · rw [if_pos hc194] at h193
            refine CodeJ.cond_t rfl (decide_eq_true hc194) ?_
            refine CodeJ.exit rfl ?_
            refine CodeJ.region ?_
            refine OpsJ.put rfl (OpJ.pure (OpP.move rfl) ?_)
            refine OpsJ.put rfl (OpJ.pure (OpP.add64 rfl rfl) ?_)
            refine OpsJ.put rfl (OpJ.pure (OpP.assign rfl) ?_)
            refine OpsJ.nil ?_
            obtain rfl := Option.some.inj h193
            exact ⟨_, _, _, _, rfl, ⟨A153, c154, hc155, (SlR.mono hA156 (IM.le_refl _)), rfl, rfl⟩, IM.le_refl _, (SubE.cons rfl (SubE.cons rfl (SubE.cons rfl (SubE.nil _)))), (SubL.p0 (SubL.nil _))⟩
          · rw [if_neg hc194] at h193
            refine CodeJ.cond_f rfl (decide_eq_false hc194) ?_
            refine CodeJ.skip ?_
            refine CodeJ.seq' ?_
            refine CodeJ.seq' ?_
            refine CodeJ.region ?_
            refine OpsJ.put rfl (OpJ.pure (OpP.move rfl) ?_)
            refine OpsJ.put rfl (OpJ.pure (OpP.gtr rfl rfl) ?_)
            refine OpsJ.put rfl (OpJ.pure (OpP.move rfl) ?_)
            by_cases hc195 : i_89 > 0
            · rw [if_pos hc195] at h193
              refine OpsJ.guard_y rfl rfl rfl rfl (decide_eq_true hc195) ?_
              refine OpsJ.put rfl (OpJ.pure (OpP.move rfl) ?_)
              refine OpsJ.guard_y rfl rfl rfl rfl (decide_eq_true hc195) ?_
              refine OpsJ.put rfl (OpJ.pure (OpP.eql rfl rfl) ?_)
              refine OpsJ.put rfl (OpJ.pure (OpP.pick_t rfl (decide_eq_true hc195) rfl) ?_)
              refine OpsJ.put rfl (OpJ.pure (OpP.move rfl) ?_)
              by_cases hc196 : ((x166.toNat : Nat) : Int) = (((0 : UInt8).toNat : Nat) : Int)
              · rw [if_pos hc196] at h193
                refine OpsJ.guard_n rfl rfl rfl rfl (decide_eq_true hc196) ?_
                refine OpsJ.guard_n rfl rfl rfl rfl (decide_eq_true hc196) ?_
                refine OpsJ.put rfl (OpJ.pure (OpP.pick_t rfl (decide_eq_true hc196) rfl) ?_)
                refine OpsJ.nil ?_
                refine CodeJ.cond_t rfl rfl ?_
                refine CodeJ.exit rfl ?_
                obtain rfl := Option.some.inj h193
                have ht197 := hne142 _ rfl
                exact ⟨_, _, _, ⟨A153, c154, y150.1.1, y150.1.2, ht197, hc155, (SlR.mono hA156 (IM.le_refl _)), rfl, rfl⟩, IM.le_refl _, (SubE.cons rfl (SubE.nil _)), (SubL.p0 (SubL.nil _))⟩
              · rw [if_neg hc196] at h193
                refine OpsJ.guard_y rfl rfl rfl rfl (decide_eq_false hc196) ?_
                refine OpsJ.put rfl (OpJ.pure (OpP.move rfl) ?_)
                refine OpsJ.guard_y rfl rfl rfl rfl (decide_eq_false hc196) ?_
                refine OpsJ.put rfl (OpJ.pure (OpP.gtr rfl rfl) ?_)
                refine OpsJ.put rfl (OpJ.pure (OpP.pick_f rfl (decide_eq_false hc196) rfl) ?_)
                refine OpsJ.nil ?_
                by_cases hc198 : (((u_88 ||| (FW.shl64 (ofI64 (((x166 &&& (127 : UInt8)).toNat : Nat) : Int)) m191)).toNat : Nat) : Int) > (((4611686018427387904 : UInt64).toNat : Nat) : Int)
                · rw [if_pos hc198] at h193
                  refine CodeJ.cond_t rfl (decide_eq_true hc198) ?_
                  refine CodeJ.exit rfl ?_
                  obtain rfl := Option.some.inj h193
                  have ht199 := hne142 _ rfl
                  exact ⟨_, _, _, ⟨A153, c154, y150.1.1, y150.1.2, ht199, hc155, (SlR.mono hA156 (IM.le_refl _)), rfl, rfl⟩, IM.le_refl _, (SubE.cons rfl (SubE.nil _)), (SubL.p0 (SubL.nil _))⟩
                · rw [if_neg hc198] at h193
                  refine CodeJ.cond_f rfl (decide_eq_false hc198) ?_
                  refine CodeJ.skip ?_
                  refine CodeJ.seq' ?_
                  refine CodeJ.region ?_
                  refine OpsJ.put rfl (OpJ.pure (OpP.move rfl) ?_)
                  refine OpsJ.put rfl (OpJ.pure (OpP.conv64' rfl) ?_)
                  refine OpsJ.put rfl (OpJ.pure (OpP.assign rfl) ?_)
                  refine OpsJ.nil ?_
                  obtain rfl := Option.some.inj h193
                  have ht200 := hne142 _ rfl
                  subst ht200
                  simp only [Sum.elim_inl] at h145
                  refine CodeJ.ret' ?_
                  obtain rfl := Option.some.inj h145
                  exact Ret.mk0 ⟨A153, c154, rfl, hc155, (SlR.mono hA156 (IM.le_refl _)), rfl⟩ (ResJ.one Try.results49 rfl) (IM.le_refl _) (SubL.p0 (SubL.nil _))
            · rw [if_neg hc195] at h193
              refine OpsJ.guard_n rfl rfl rfl rfl (decide_eq_false hc195) ?_
              refine OpsJ.guard_n rfl rfl rfl rfl (decide_eq_false hc195) ?_
              refine OpsJ.put rfl (OpJ.pure (OpP.pick_f rfl (decide_eq_false hc195) rfl) ?_)
              refine OpsJ.put rfl (OpJ.pure (OpP.move rfl) ?_)
              refine OpsJ.guard_y rfl rfl rfl rfl rfl ?_
              refine OpsJ.put rfl (OpJ.pure (OpP.move rfl) ?_)
              refine OpsJ.guard_y rfl rfl rfl rfl rfl ?_
              refine OpsJ.put rfl (OpJ.pure (OpP.gtr rfl rfl) ?_)
              refine OpsJ.put rfl (OpJ.pure (OpP.pick_f rfl rfl rfl) ?_)
              refine OpsJ.nil ?_
              by_cases hc203 : (((u_88 ||| (FW.shl64 (ofI64 (((x166 &&& (127 : UInt8)).toNat : Nat) : Int)) m191)).toNat : Nat) : Int) > (((4611686018427387904 : UInt64).toNat : Nat) : Int)
              · rw [if_pos hc203] at h193
                refine CodeJ.cond_t rfl (decide_eq_true hc203) ?_
                refine CodeJ.exit rfl ?_
                obtain rfl := Option.some.inj h193
                have ht204 := hne142 _ rfl
                exact ⟨_, _, _, ⟨A153, c154, y150.1.1, y150.1.2, ht204, hc155, (SlR.mono hA156 (IM.le_refl _)), rfl, rfl⟩, IM.le_refl _, (SubE.cons rfl (SubE.nil _)), (SubL.p0 (SubL.nil _))⟩
              · rw [if_neg hc203] at h193
                refine CodeJ.cond_f rfl (decide_eq_false hc203) ?_
                refine CodeJ.skip ?_
                refine CodeJ.seq' ?_
                refine CodeJ.region ?_
                refine OpsJ.put rfl (OpJ.pure (OpP.move rfl) ?_)
                refine OpsJ.put rfl (OpJ.pure (OpP.conv64' rfl) ?_)
                refine OpsJ.put rfl (OpJ.pure (OpP.assign rfl) ?_)
                refine OpsJ.nil ?_
                obtain rfl := Option.some.inj h193
                have ht205 := hne142 _ rfl
                subst ht205
                simp only [Sum.elim_inl] at h145
                refine CodeJ.ret' ?_
                obtain rfl := Option.some.inj h145
                exact Ret.mk0 ⟨A153, c154, rfl, hc155, (SlR.mono hA156 (IM.le_refl _)), rfl⟩ (ResJ.one Try.results49 rfl) (IM.le_refl _) (SubL.p0 (SubL.nil _))
    · rw [if_neg hc146] at h141
      refine CodeJ.cond_f rfl (decide_eq_false hc146) ?_
      refine CodeJ.exit rfl ?_
      obtain rfl := Option.some.inj h141
      have ht208 := hne142 _ rfl
      exact ⟨_, _, _, ⟨A91, c92, f90, f95, ht208, hc94, (SlR.mono hA93 (IM.le_refl _)), rfl, rfl⟩, IM.le_refl _, (SubE.cons rfl (SubE.nil _)), (SubL.p0 (SubL.nil _))⟩
  · rintro _ _ ⟨A136, c137, f135, f140, rfl, hc139, hA138, rfl, rfl⟩
    simp only [Sum.elim_inr] at h145
    refine CodeJ.seq' ?_
    refine CodeJ.region ?_
    refine OpsJ.put rfl (OpJ.pure (OpP.move rfl) ?_)
    obtain ⟨y212, hy213, h214⟩ := bind_ok h145
    clear h145
    refine OpsJ.put rfl (OpJ.callP (Split.p0 Split.nil) rfl (fun R209 hle210 hin211 => winnowerref1_Reader_Bad_w R209 R0 (IM.le_trans hR0 hle210) g0_ (f135, f140) A136 c137 hc139 (SlR.mono hA138 (IM.le_refl _))  _ hy213) ?_)
    rintro _ _ _ ⟨A215, c216, rfl, hc217, hA218, rfl⟩
    refine OpsJ.nil ?_
    refine CodeJ.seq' ?_
    refine CodeJ.region ?_
    refine OpsJ.put rfl (OpJ.pure (OpP.assign rfl) ?_)
    refine OpsJ.nil ?_
    refine CodeJ.ret' ?_
    obtain rfl := Option.some.inj h214
    exact Ret.mk0 ⟨A215, c216, rfl, hc217, (SlR.mono hA218 (IM.le_refl _)), rfl⟩ (ResJ.one Try.results49 rfl) (IM.le_refl _) (SubL.p0 (SubL.nil _))
theorem winnowerref1_Reader_Bytes_w (R : IM) (R0 : IM) (hR0 : IM.le R0 R) (g0_ : Nat) (p0_r : (List UInt8) × Bool) (A0_1_ : Option Addr) (c0_2_ : Nat) (hc0_3_ : p0_r.1.length ≤ c0_2_) (hA0_4_ : SlR R0 A0_1_ p0_r.1) (y : ((List UInt8) × Bool) × (List UInt8)) (h : winnowerref1_Reader_Bytes p0_r = some y) :
    CallJ Try.prog 50 #[.pointer (some ⟨g0_, 0, none⟩)] ⟨R, [.blk g0_ [.slice A0_1_ p0_r.1.length c0_2_, .bool p0_r.2] 62]⟩ (fun v D hs' => ∃ (B1 : Option Addr) (d2 : Nat) (B5 : Option Addr) (d6 : Nat) (ds7 : List Value), v = .slice B5 y.2.length d6 ∧ y.1.1.length ≤ d2 ∧ SlR R0 B1 y.1.1 ∧ repL IM.nil ds7 y.2 ∧ hs' = [.blk g0_ [.slice B1 y.1.1.length d2, .bool y.1.2] 62, .row 5 1 B5 y.2.length d6 ds7]) := by
  unfold winnowerref1_Reader_Bytes at h
  refine CallJ.of1 Try.func50 rfl Try.ntmps50 rfl (fun W0 => ?_)
  refine CodeJ.seq' ?_
  refine CodeJ.region ?_
  refine OpsJ.put rfl (OpJ.pure (OpP.assign rfl) ?_)
  refine OpsJ.nil ?_
  refine CodeJ.seq' ?_
  refine CodeJ.region ?_
  refine OpsJ.put rfl (OpJ.pure (OpP.move rfl) ?_)
  obtain ⟨y5, hy6, h7⟩ := bind_ok h
  clear h
  refine OpsJ.put rfl (OpJ.callP (Split.p0 Split.nil) rfl (fun R2 hle3 hin4 => winnowerref1_Reader_Num_w R2 R0 (IM.le_trans hR0 hle3) g0_ (p0_r.1, p0_r.2) A0_1_ c0_2_ hc0_3_ (SlR.mono hA0_4_ (IM.le_refl _))  _ hy6) ?_)
  rintro _ _ _ ⟨A8, c9, rfl, hc10, hA11, rfl⟩
  refine OpsJ.put rfl (OpJ.pure (OpP.assign rfl) ?_)
  refine OpsJ.nil ?_
  refine CodeJ.seq' ?_
  refine CodeJ.seq' ?_
  refine CodeJ.region ?_
  refine OpsJ.put rfl (OpJ.pure (OpP.move rfl) ?_)
  refine OpsJ.put rfl (OpJ.pure (OpP.nilCheck rfl) ?_)
  refine OpsJ.put rfl (OpJ.pure (OpP.fldAddr_lit rfl (by exact rfl)) ?_)
  refine OpsJ.put rfl (OpJ.pure (OpP.load_blk (by exact rfl) rfl (List.Mem.head _) rfl) ?_)
  refine OpsJ.nil ?_
  by_cases hc12 : y5.1.2 = true
  · rw [if_pos hc12] at h7
    refine CodeJ.cond_t rfl hc12 ?_
    refine CodeJ.seq' ?_
    refine CodeJ.region ?_
    refine OpsJ.put rfl (OpJ.pure (OpP.assign rfl) ?_)
    refine OpsJ.nil ?_
    refine CodeJ.nilrow 5 1 ?_
    refine CodeJ.ret' ?_
    obtain rfl := Option.some.inj h7
    exact Ret.mk0 ⟨A8, c9, none, 0, ([] : List Value), rfl, hc10, (SlR.mono hA11 (IM.le_refl _)), (repL_nil IM.nil), rfl⟩ (ResJ.one Try.results50 rfl) (IM.le_refl _) (SubL.p1 (SubL.p0 (SubL.nil _)))
  · rw [if_neg hc12] at h7
    refine CodeJ.cond_f rfl (Bool.eq_false_iff.2 hc12) ?_
    refine CodeJ.skip ?_
    refine CodeJ.seq' ?_
    refine CodeJ.region ?_
    refine OpsJ.put rfl (OpJ.pure (OpP.move rfl) ?_)
    refine OpsJ.put rfl (OpJ.pure (OpP.move rfl) ?_)
    obtain ⟨y19, hy20, h21⟩ := bind_ok h7
    clear h7
    refine OpsJ.put rfl (OpJ.callP (Split.p0 Split.nil) rfl (fun R16 hle17 hin18 => winnowerref1_Reader_Raw_w R16 R0 (IM.le_trans hR0 hle17) g0_ (y5.1.1, y5.1.2) A8 c9 hc10 (SlR.mono hA11 (IM.le_refl _)) y5.2  _ hy20) ?_)
    rintro _ _ _ ⟨A22, c23, A26, c27, cs28, rfl, hc24, hA25, hr29, rfl⟩
    refine OpsJ.put rfl (OpJ.pure (OpP.assign rfl) ?_)
    refine OpsJ.nil ?_
    refine CodeJ.ret' ?_
    obtain rfl := Option.some.inj h21
    exact Ret.mk0 ⟨A22, c23, A26, c27, cs28, rfl, hc24, (SlR.mono hA25 (IM.le_refl _)), hr29, rfl⟩ (ResJ.one Try.results50 rfl) (IM.le_refl _) (SubL.p0 (SubL.p0 (SubL.nil _)))
theorem winnowerlaw1_OctetSmall_w (R : IM) (p0_v : Int) (y : Bool) (h : winnowerlaw1_OctetSmall p0_v = some y) :
    CallJ Try.prog 3 #[.int .i64 p0_v] ⟨R, []⟩ (fun v D hs' => v = .bool y ∧ hs' = []) := by
  unfold winnowerlaw1_OctetSmall at h
  refine CallJ.of1 Try.func3 rfl Try.ntmps3 rfl (fun W0 => ?_)
  refine CodeJ.seq' ?_
  refine CodeJ.region ?_
  refine OpsJ.put rfl (OpJ.pure (OpP.assign rfl) ?_)
  refine OpsJ.nil ?_
  refine CodeJ.seq' ?_
  refine CodeJ.seq' ?_
  refine CodeJ.region ?_
  refine OpsJ.put rfl (OpJ.pure (OpP.move rfl) ?_)
  refine OpsJ.put rfl (OpJ.pure (OpP.lss rfl rfl) ?_)
  refine OpsJ.put rfl (OpJ.pure (OpP.move rfl) ?_)
  by_cases hc1 : p0_v < 0
  · rw [if_pos hc1] at h
    refine OpsJ.guard_n rfl rfl rfl rfl (decide_eq_true hc1) ?_
    refine OpsJ.guard_n rfl rfl rfl rfl (decide_eq_true hc1) ?_
    refine OpsJ.put rfl (OpJ.pure (OpP.pick_t rfl (decide_eq_true hc1) rfl) ?_)
    refine OpsJ.nil ?_
    refine CodeJ.cond_t rfl rfl ?_
    refine CodeJ.seq' ?_
    refine CodeJ.region ?_
    obtain ⟨y5, hy6, h7⟩ := bind_ok h
    clear h
    refine OpsJ.put rfl (OpJ.call0 rfl (fun R2 hle3 hin4 => winnowerlaw1_known_w R2   _ hy6) ?_)
    rintro _ _ _ ⟨rfl, rfl⟩
    refine OpsJ.put rfl (OpJ.pure (OpP.assign rfl) ?_)
    refine OpsJ.nil ?_
    refine CodeJ.ret' ?_
    obtain rfl := Option.some.inj h7
    exact Ret.mk0 ⟨rfl, rfl⟩ (ResJ.one Try.results3 rfl) (IM.le_refl _) (SubL.nil _)
  · rw [if_neg hc1] at h
    refine OpsJ.guard_y rfl rfl rfl rfl (decide_eq_false hc1) ?_
    refine OpsJ.put rfl (OpJ.pure (OpP.move rfl) ?_)
    refine OpsJ.guard_y rfl rfl rfl rfl (decide_eq_false hc1) ?_
    refine OpsJ.put rfl (OpJ.pure (OpP.gtr rfl rfl) ?_)
    refine OpsJ.put rfl (OpJ.pure (OpP.pick_f rfl (decide_eq_false hc1) rfl) ?_)
    refine OpsJ.nil ?_
    by_cases hc10 : p0_v > 4611686018427387904
    · rw [if_pos hc10] at h
      refine CodeJ.cond_t rfl (decide_eq_true hc10) ?_
      refine CodeJ.seq' ?_
      refine CodeJ.region ?_
      obtain ⟨y14, hy15, h16⟩ := bind_ok h
      clear h
      refine OpsJ.put rfl (OpJ.call0 rfl (fun R11 hle12 hin13 => winnowerlaw1_known_w R11   _ hy15) ?_)
      rintro _ _ _ ⟨rfl, rfl⟩
      refine OpsJ.put rfl (OpJ.pure (OpP.assign rfl) ?_)
      refine OpsJ.nil ?_
      refine CodeJ.ret' ?_
      obtain rfl := Option.some.inj h16
      exact Ret.mk0 ⟨rfl, rfl⟩ (ResJ.one Try.results3 rfl) (IM.le_refl _) (SubL.nil _)
    · rw [if_neg hc10] at h
      refine CodeJ.cond_f rfl (decide_eq_false hc10) ?_
      refine CodeJ.skip ?_
      refine CodeJ.seq' ?_
      refine CodeJ.region ?_
      refine OpsJ.put rfl (OpJ.alloc (fun g19 => ?_))
      refine OpsJ.nil ?_
      refine CodeJ.seq' ?_
      refine CodeJ.region ?_
      refine OpsJ.put rfl (OpJ.pure (OpP.move rfl) ?_)
      have hr22 : repL IM.nil [.int .i64 p0_v] ([p0_v] : List Int) := (repL_cons (c1 := [.int .i64 p0_v]) (show Dat.rep _ _ p0_v from rfl) (repL_nil _))
      refine OpsJ.put rfl (OpJ.buildSliceC (cs := [.int .i64 p0_v]) rfl rfl (by exact rfl) (by exact rfl) (by exact rfl) (by exact rfl) (fun g21 => ?_))
      refine OpsJ.nilrow 5 1 ?_
      refine OpsJ.rowle (List.Perm.swap _ _ _) (fun hcap25 _ => ?_)
      obtain ⟨y29, hy30, h31⟩ := bind_ok h
      clear h
      refine OpsJ.put rfl (OpJ.callP (Split.p2 (Split.p0 Split.nil)) rfl (fun R26 hle27 hin28 => octet_Writer_Nums_w R26 g19 ([] : List UInt8) none 0 ([] : List Value) (repL_nil IM.nil) (some ⟨g21, 0, none⟩) 1 1 ([p0_v] : List Int) (SlR.of_row (inRow hin28 (List.Mem.head _)) hr22 (IM.le_nil _)) rfl hcap25  _ hy30) ?_)
      rintro _ _ _ ⟨A32, c33, cs34, rfl, hr35, rfl⟩
      refine OpsJ.nil ?_
      refine CodeJ.seq' ?_
      refine CodeJ.region ?_
      obtain ⟨y40, hy41, h42⟩ := bind_ok h31
      clear h31
      refine OpsJ.put rfl (OpJ.callP (Split.p0 (Split.p0 Split.nil)) rfl (fun R37 hle38 hin39 => octet_Writer_Out_w R37 g19 y29 A32 c33 cs34 hr35  _ hy41) ?_)
      rintro _ _ _ ⟨A43, c44, cs45, A48, c49, cs50, rfl, hr46, hr51, rfl⟩
      refine OpsJ.put rfl (OpJ.pure (OpP.assign rfl) ?_)
      refine OpsJ.nil ?_
      refine CodeJ.seq' ?_
      refine CodeJ.region ?_
      refine OpsJ.put rfl (OpJ.pure (OpP.assign rfl) ?_)
      refine OpsJ.nil ?_
      refine CodeJ.seq' ?_
      refine CodeJ.seq' ?_
      refine CodeJ.region ?_
      refine OpsJ.put rfl (OpJ.pure (OpP.move rfl) ?_)
      refine OpsJ.put rfl (OpJ.pure (OpP.ishr (m := 7) rfl rfl rfl) ?_)
      refine OpsJ.put rfl (OpJ.pure (OpP.assign rfl) ?_)
      refine OpsJ.nil ?_
      obtain ⟨t63, hl64, h65⟩ := bind_ok h42
      clear h42
      refine CodeJ.mid (fun e s => ∃ (n_60 : Int), n_60 = t63 ∧ e = [(0, .int .i64 p0_v), (4, .slice A48 y40.2.length c49), (5, .int .i64 n_60)] ∧ s = ⟨R, [.row 5 1 A48 y40.2.length c49 cs50]⟩) ?_ ?_
      · refine CodeJ.block ?_
        refine CodeJ.loopM hl64 (fun (n_57, x_58) e s => e = [(0, .int .i64 p0_v), (4, .slice A48 y40.2.length c49), (5, .int .i64 n_57), (6, .int .i64 x_58)] ∧ s = ⟨R, [.row 5 1 A48 y40.2.length c49 cs50]⟩) ⟨rfl, rfl⟩ (SubE.cons rfl (SubE.cons rfl (SubE.cons rfl (SubE.cons rfl (SubE.nil _))))) (SubL.p2 (SubL.nil _)) ?_
        rintro ⟨n_57, x_58⟩ _ _ _ ⟨rfl, rfl⟩ h61 hne62
        (try dsimp only at h61); unfold winnowerlaw1_OctetSmall_l0 at h61
        refine CodeJ.seq' ?_
        refine CodeJ.seq' ?_
        refine CodeJ.region ?_
        refine OpsJ.put rfl (OpJ.pure (OpP.move rfl) ?_)
        refine OpsJ.put rfl (OpJ.pure (OpP.gtr rfl rfl) ?_)
        refine OpsJ.nil ?_
        by_cases hc66 : x_58 > 0
        · rw [if_pos hc66] at h61
          refine CodeJ.cond_t rfl (decide_eq_true hc66) ?_
          refine CodeJ.skip ?_
          refine CodeJ.seq' ?_
          refine CodeJ.block ?_
          refine CodeJ.region ?_
          refine OpsJ.put rfl (OpJ.pure (OpP.move rfl) ?_)
          refine OpsJ.put rfl (OpJ.pure (OpP.add64 rfl rfl) ?_)
          refine OpsJ.put rfl (OpJ.pure (OpP.assign rfl) ?_)
          refine OpsJ.nil ?_
          refine CodeJ.region ?_
          refine OpsJ.put rfl (OpJ.pure (OpP.move rfl) ?_)
          refine OpsJ.put rfl (OpJ.pure (OpP.ishr (m := 7) rfl rfl rfl) ?_)
          refine OpsJ.put rfl (OpJ.pure (OpP.assign rfl) ?_)
          refine OpsJ.nil ?_
          obtain rfl := Option.some.inj h61
          exact ⟨_, _, _, _, rfl, ⟨rfl, rfl⟩, IM.le_refl _, (SubE.cons rfl (SubE.cons rfl (SubE.cons rfl (SubE.cons rfl (SubE.nil _))))), (SubL.p0 (SubL.nil _))⟩
        · rw [if_neg hc66] at h61
          refine CodeJ.cond_f rfl (decide_eq_false hc66) ?_
          refine CodeJ.exit rfl ?_
          obtain rfl := Option.some.inj h61
          have ht67 := hne62 _ rfl
          exact ⟨_, _, _, ⟨n_57, ht67, rfl, rfl⟩, IM.le_refl _, (SubE.cons rfl (SubE.cons rfl (SubE.cons rfl (SubE.nil _)))), (SubL.p0 (SubL.nil _))⟩
      · rintro _ _ ⟨n_60, rfl, rfl, rfl⟩
        (try dsimp only at h65)
        refine CodeJ.seq' ?_
        refine CodeJ.region ?_
        refine OpsJ.put rfl (OpJ.pure (OpP.move rfl) ?_)
        refine OpsJ.put rfl (OpJ.pure (OpP.len rfl) ?_)
        refine OpsJ.put rfl (OpJ.pure (OpP.move rfl) ?_)
        refine OpsJ.put rfl (OpJ.pure (OpP.eql rfl rfl) ?_)
        refine OpsJ.put rfl (OpJ.pure (OpP.move rfl) ?_)
        by_cases hc68 : ((y40.2.length : Nat) : Int) = n_60
        · rw [if_pos hc68] at h65
          refine OpsJ.guard_y rfl rfl rfl rfl (decide_eq_true hc68) ?_
          refine OpsJ.put rfl (OpJ.pure (OpP.move rfl) ?_)
          refine OpsJ.guard_y rfl rfl rfl rfl (decide_eq_true hc68) ?_
          obtain ⟨x69, hx70, h71⟩ := bind_ok h65
          clear h65
          have hE72 : ∀ j v, ([.int .u8 ((x69.toNat : Nat) : Int)] : List Value)[j]? = some v → (cs50)[Int.toNat 0 * Dat.size UInt8 + j]? = some v := row_getF (α := UInt8) hr51 hx70
          refine OpsJ.put rfl (OpJ.pure (OpP.ixW (List.Mem.head _) hr51 rfl hx70 (by exact rfl) (by exact rfl) rfl rfl) ?_)
          refine OpsJ.guard_y rfl rfl rfl rfl (decide_eq_true hc68) ?_
          refine OpsJ.put rfl (OpJ.pure (OpP.ldW0 (by exact rfl) (List.Mem.head _) hE72 rfl rfl) ?_)
          refine OpsJ.guard_y rfl rfl rfl rfl (decide_eq_true hc68) ?_
          refine OpsJ.put rfl (OpJ.pure (OpP.lss rfl rfl) ?_)
          refine OpsJ.guard_y rfl rfl rfl rfl (decide_eq_true hc68) ?_
          refine OpsJ.put rfl (OpJ.pure (OpP.move rfl) ?_)
          refine OpsJ.guard_y rfl rfl rfl rfl (decide_eq_true hc68) ?_
          refine OpsJ.put rfl (OpJ.pure (OpP.lss rfl rfl) ?_)
          refine OpsJ.guard_y rfl rfl rfl rfl (decide_eq_true hc68) ?_
          refine OpsJ.put rfl (OpJ.pure (OpP.eql_bool rfl rfl) ?_)
          refine OpsJ.put rfl (OpJ.pure (OpP.pick_t rfl (decide_eq_true hc68) rfl) ?_)
          refine OpsJ.put rfl (OpJ.pure (OpP.move rfl) ?_)
          by_cases hc73 : (decide (((x69.toNat : Nat) : Int) < (((128 : UInt8).toNat : Nat) : Int)) == decide (p0_v < 128)) = true
          · rw [if_pos hc73] at h71
            refine OpsJ.guard_y rfl rfl rfl rfl hc73 ?_
            refine OpsJ.put rfl (OpJ.pure (OpP.move rfl) ?_)
            refine OpsJ.guard_y rfl rfl rfl rfl hc73 ?_
            refine OpsJ.put rfl (OpJ.pure (OpP.eql rfl rfl) ?_)
            refine OpsJ.guard_y rfl rfl rfl rfl hc73 ?_
            refine OpsJ.put rfl (OpJ.pure (OpP.move rfl) ?_)
            by_cases hc74 : n_60 = 1
            · rw [if_pos hc74] at h71
              refine OpsJ.guard_n rfl rfl rfl rfl (decide_eq_true hc74) ?_
              refine OpsJ.guard_n rfl rfl rfl rfl (decide_eq_true hc74) ?_
              refine OpsJ.guard_n rfl rfl rfl rfl (decide_eq_true hc74) ?_
              refine OpsJ.guard_n rfl rfl rfl rfl (decide_eq_true hc74) ?_
              refine OpsJ.guard_n rfl rfl rfl rfl (decide_eq_true hc74) ?_
              refine OpsJ.guard_n rfl rfl rfl rfl (decide_eq_true hc74) ?_
              refine OpsJ.guard_y rfl rfl rfl rfl hc73 ?_
              refine OpsJ.put rfl (OpJ.pure (OpP.pick_t rfl (decide_eq_true hc74) rfl) ?_)
              refine OpsJ.put rfl (OpJ.pure (OpP.pick_t rfl hc73 rfl) ?_)
              refine OpsJ.put rfl (OpJ.pure (OpP.move rfl) ?_)
              refine OpsJ.guard_y rfl rfl rfl rfl rfl ?_
              obtain ⟨y78, hy79, h80⟩ := bind_ok h71
              clear h71
              refine OpsJ.put rfl (OpJ.call0 rfl (fun R75 hle76 hin77 => winnowerlaw1_known_w R75   _ hy79) ?_)
              rintro _ _ _ ⟨rfl, rfl⟩
              refine OpsJ.put rfl (OpJ.pure (OpP.pick_t rfl rfl rfl) ?_)
              refine OpsJ.put rfl (OpJ.pure (OpP.assign rfl) ?_)
              refine OpsJ.nil ?_
              refine CodeJ.ret' ?_
              obtain rfl := Option.some.inj h80
              exact Ret.mk0 ⟨rfl, rfl⟩ (ResJ.one Try.results3 rfl) (IM.le_refl _) (SubL.nil _)
            · rw [if_neg hc74] at h71
              refine OpsJ.guard_y rfl rfl rfl rfl (decide_eq_false hc74) ?_
              refine OpsJ.put rfl (OpJ.pure (OpP.move rfl) ?_)
              refine OpsJ.guard_y rfl rfl rfl rfl (decide_eq_false hc74) ?_
              refine OpsJ.put rfl (OpJ.pure (OpP.move rfl) ?_)
              refine OpsJ.guard_y rfl rfl rfl rfl (decide_eq_false hc74) ?_
              refine OpsJ.put rfl (OpJ.pure (OpP.sub64 rfl rfl) ?_)
              refine OpsJ.guard_y rfl rfl rfl rfl (decide_eq_false hc74) ?_
              obtain ⟨x83, hx84, h85⟩ := bind_ok h71
              clear h71
              have hE86 : ∀ j v, ([.int .u8 ((x83.toNat : Nat) : Int)] : List Value)[j]? = some v → (cs50)[Int.toNat (w64 (n_60 - 1)) * Dat.size UInt8 + j]? = some v := row_getF (α := UInt8) hr51 hx84
              refine OpsJ.put rfl (OpJ.pure (OpP.ixW (List.Mem.head _) hr51 rfl hx84 (by exact rfl) (by exact rfl) rfl rfl) ?_)
              refine OpsJ.guard_y rfl rfl rfl rfl (decide_eq_false hc74) ?_
              refine OpsJ.put rfl (OpJ.pure (OpP.ldW0 (by exact rfl) (List.Mem.head _) hE86 rfl rfl) ?_)
              refine OpsJ.guard_y rfl rfl rfl rfl (decide_eq_false hc74) ?_
              refine OpsJ.put rfl (OpJ.pure (OpP.neq rfl rfl) ?_)
              refine OpsJ.guard_y rfl rfl rfl rfl hc73 ?_
              refine OpsJ.put rfl (OpJ.pure (OpP.pick_f rfl (decide_eq_false hc74) rfl) ?_)
              refine OpsJ.put rfl (OpJ.pure (OpP.pick_t rfl hc73 rfl) ?_)
              refine OpsJ.put rfl (OpJ.pure (OpP.move rfl) ?_)
              by_cases hc87 : ((x83.toNat : Nat) : Int) ≠ (((0 : UInt8).toNat : Nat) : Int)
              · rw [if_pos hc87] at h85
                refine OpsJ.guard_y rfl rfl rfl rfl (decide_eq_true hc87) ?_
                obtain ⟨y91, hy92, h93⟩ := bind_ok h85
                clear h85
                refine OpsJ.put rfl (OpJ.call0 rfl (fun R88 hle89 hin90 => winnowerlaw1_known_w R88   _ hy92) ?_)
                rintro _ _ _ ⟨rfl, rfl⟩
                refine OpsJ.put rfl (OpJ.pure (OpP.pick_t rfl (decide_eq_true hc87) rfl) ?_)
                refine OpsJ.put rfl (OpJ.pure (OpP.assign rfl) ?_)
                refine OpsJ.nil ?_
                refine CodeJ.ret' ?_
                obtain rfl := Option.some.inj h93
                exact Ret.mk0 ⟨rfl, rfl⟩ (ResJ.one Try.results3 rfl) (IM.le_refl _) (SubL.nil _)
              · rw [if_neg hc87] at h85
                refine OpsJ.guard_n rfl rfl rfl rfl (decide_eq_false hc87) ?_
                refine OpsJ.put rfl (OpJ.pure (OpP.pick_f rfl (decide_eq_false hc87) rfl) ?_)
                refine OpsJ.put rfl (OpJ.pure (OpP.assign rfl) ?_)
                refine OpsJ.nil ?_
                refine CodeJ.ret' ?_
                obtain rfl := Option.some.inj h85
                exact Ret.mk0 ⟨rfl, rfl⟩ (ResJ.one Try.results3 rfl) (IM.le_refl _) (SubL.nil _)
          · rw [if_neg hc73] at h71
            refine OpsJ.guard_n rfl rfl rfl rfl (Bool.eq_false_iff.2 hc73) ?_
            refine OpsJ.guard_n rfl rfl rfl rfl (Bool.eq_false_iff.2 hc73) ?_
            refine OpsJ.guard_n rfl rfl rfl rfl (Bool.eq_false_iff.2 hc73) ?_
            refine OpsJ.gund rfl rfl rfl rfl ?_
            refine OpsJ.gund rfl rfl rfl rfl ?_
            refine OpsJ.gund rfl rfl rfl rfl ?_
            refine OpsJ.gund rfl rfl rfl rfl ?_
            refine OpsJ.gund rfl rfl rfl rfl ?_
            refine OpsJ.gund rfl rfl rfl rfl ?_
            refine OpsJ.guard_n rfl rfl rfl rfl (Bool.eq_false_iff.2 hc73) ?_
            refine OpsJ.put rfl (OpJ.pure (OpP.pick_f rfl (Bool.eq_false_iff.2 hc73) rfl) ?_)
            refine OpsJ.put rfl (OpJ.pure (OpP.move rfl) ?_)
            refine OpsJ.guard_n rfl rfl rfl rfl rfl ?_
            refine OpsJ.put rfl (OpJ.pure (OpP.pick_f rfl rfl rfl) ?_)
            refine OpsJ.put rfl (OpJ.pure (OpP.assign rfl) ?_)
            refine OpsJ.nil ?_
            refine CodeJ.ret' ?_
            obtain rfl := Option.some.inj h71
            exact Ret.mk0 ⟨rfl, rfl⟩ (ResJ.one Try.results3 rfl) (IM.le_refl _) (SubL.nil _)
        · rw [if_neg hc68] at h65
          refine OpsJ.guard_n rfl rfl rfl rfl (decide_eq_false hc68) ?_
          refine OpsJ.guard_n rfl rfl rfl rfl (decide_eq_false hc68) ?_
          refine OpsJ.guard_n rfl rfl rfl rfl (decide_eq_false hc68) ?_
          refine OpsJ.guard_n rfl rfl rfl rfl (decide_eq_false hc68) ?_
          refine OpsJ.guard_n rfl rfl rfl rfl (decide_eq_false hc68) ?_
          refine OpsJ.guard_n rfl rfl rfl rfl (decide_eq_false hc68) ?_
          refine OpsJ.guard_n rfl rfl rfl rfl (decide_eq_false hc68) ?_
          refine OpsJ.put rfl (OpJ.pure (OpP.pick_f rfl (decide_eq_false hc68) rfl) ?_)
          refine OpsJ.put rfl (OpJ.pure (OpP.move rfl) ?_)
          refine OpsJ.guard_n rfl rfl rfl rfl rfl ?_
          refine OpsJ.guard_n rfl rfl rfl rfl rfl ?_
          refine OpsJ.guard_n rfl rfl rfl rfl rfl ?_
          refine OpsJ.gund rfl rfl rfl rfl ?_
          refine OpsJ.gund rfl rfl rfl rfl ?_
          refine OpsJ.gund rfl rfl rfl rfl ?_
          refine OpsJ.gund rfl rfl rfl rfl ?_
          refine OpsJ.gund rfl rfl rfl rfl ?_
          refine OpsJ.gund rfl rfl rfl rfl ?_
          refine OpsJ.guard_n rfl rfl rfl rfl rfl ?_
          refine OpsJ.put rfl (OpJ.pure (OpP.pick_f rfl rfl rfl) ?_)
          refine OpsJ.put rfl (OpJ.pure (OpP.move rfl) ?_)
          refine OpsJ.guard_n rfl rfl rfl rfl rfl ?_
          refine OpsJ.put rfl (OpJ.pure (OpP.pick_f rfl rfl rfl) ?_)
          refine OpsJ.put rfl (OpJ.pure (OpP.assign rfl) ?_)
          refine OpsJ.nil ?_
          refine CodeJ.ret' ?_
          obtain rfl := Option.some.inj h65
          exact Ret.mk0 ⟨rfl, rfl⟩ (ResJ.one Try.results3 rfl) (IM.le_refl _) (SubL.nil _)
theorem winnowerlaw1_OctetNums_w (R : IM) (A0_ : Option Addr) (n0_ c0_ : Nat) (p0_v : List Int) (hA0_ : SlR R A0_ p0_v) (hn0_ : p0_v.length = n0_) (hc0_ : n0_ ≤ c0_) (y : Bool) (h : winnowerlaw1_OctetNums p0_v = some y) :
    CallJ Try.prog 4 #[.slice A0_ n0_ c0_] ⟨R, []⟩ (fun v D hs' => v = .bool y ∧ hs' = []) := by
  subst hn0_
  unfold winnowerlaw1_OctetNums at h
  refine CallJ.of1 Try.func4 rfl Try.ntmps4 rfl (fun W0 => ?_)
  refine CodeJ.seq' ?_
  refine CodeJ.region ?_
  refine OpsJ.put rfl (OpJ.pure (OpP.assign rfl) ?_)
  refine OpsJ.nil ?_
  refine CodeJ.seq' ?_
  refine CodeJ.seq' ?_
  refine CodeJ.region ?_
  refine OpsJ.put rfl (OpJ.pure (OpP.move rfl) ?_)
  refine OpsJ.put rfl (OpJ.pure (OpP.len rfl) ?_)
  refine OpsJ.put rfl (OpJ.pure (OpP.gtr rfl rfl) ?_)
  refine OpsJ.nil ?_
  by_cases hc1 : ((p0_v.length : Nat) : Int) > 500
  · rw [if_pos hc1] at h
    refine CodeJ.cond_t rfl (decide_eq_true hc1) ?_
    refine CodeJ.seq' ?_
    refine CodeJ.region ?_
    refine OpsJ.put rfl (OpJ.pure (OpP.assign rfl) ?_)
    refine OpsJ.nil ?_
    refine CodeJ.ret' ?_
    obtain rfl := Option.some.inj h
    exact Ret.mk0 ⟨rfl, rfl⟩ (ResJ.one Try.results4 rfl) (IM.le_refl _) (SubL.nil _)
  · rw [if_neg hc1] at h
    refine CodeJ.cond_f rfl (decide_eq_false hc1) ?_
    refine CodeJ.skip ?_
    refine CodeJ.seq' ?_
    refine CodeJ.region ?_
    refine OpsJ.put rfl (OpJ.alloc (fun g4 => ?_))
    refine OpsJ.nil ?_
    refine CodeJ.seq' ?_
    refine CodeJ.region ?_
    refine OpsJ.put rfl (OpJ.pure (OpP.move rfl) ?_)
    refine OpsJ.nilrow 5 1 ?_
    obtain ⟨y10, hy11, h12⟩ := bind_ok h
    clear h
    refine OpsJ.put rfl (OpJ.callP (Split.p1 (Split.p0 Split.nil)) rfl (fun R7 hle8 hin9 => octet_Writer_Nums_w R7 g4 ([] : List UInt8) none 0 ([] : List Value) (repL_nil IM.nil) A0_ p0_v.length c0_ p0_v (SlR.mono hA0_ (IM.le_trans (IM.le_refl _) hle8)) rfl hc0_  _ hy11) ?_)
    rintro _ _ _ ⟨A13, c14, cs15, rfl, hr16, rfl⟩
    refine OpsJ.nil ?_
    refine CodeJ.seq' ?_
    refine CodeJ.region ?_
    obtain ⟨y21, hy22, h23⟩ := bind_ok h12
    clear h12
    refine OpsJ.put rfl (OpJ.callP (Split.p0 (Split.p0 Split.nil)) rfl (fun R18 hle19 hin20 => octet_Writer_Out_w R18 g4 y10 A13 c14 cs15 hr16  _ hy22) ?_)
    rintro _ _ _ ⟨A24, c25, cs26, A29, c30, cs31, rfl, hr27, hr32, rfl⟩
    refine OpsJ.put rfl (OpJ.pure (OpP.assign rfl) ?_)
    refine OpsJ.nil ?_
    refine CodeJ.seq' ?_
    refine CodeJ.seq' ?_
    refine CodeJ.region ?_
    refine OpsJ.put rfl (OpJ.pure (OpP.move rfl) ?_)
    refine OpsJ.put rfl (OpJ.pure (OpP.move rfl) ?_)
    obtain ⟨y37, hy38, h39⟩ := bind_ok h23
    clear h23
    refine OpsJ.put rfl (OpJ.callP Split.nil rfl (fun R34 hle35 hin36 => winnowerref1_Nums_w R34 A0_ p0_v.length c0_ p0_v (SlR.mono hA0_ (IM.le_trans (IM.le_refl _) hle35)) rfl hc0_  _ hy38) ?_)
    rintro _ _ _ ⟨A40, c41, cs42, rfl, hr43, rfl⟩
    refine OpsJ.rowle (permm3 _ _ _ _ _) (fun hcap45 _ => ?_)
    refine OpsJ.rowle (List.Perm.refl _) (fun hcap46 _ => ?_)
    obtain ⟨y50, hy51, h52⟩ := bind_ok h39
    clear h39
    refine OpsJ.put rfl (OpJ.call0 rfl (fun R47 hle48 hin49 => winnowerlaw1_same_w R47 A29 y21.2.length c30 y21.2 (SlR.of_row (inRow hin49 (List.Mem.tail _ (List.Mem.tail _ (List.Mem.tail _ (List.Mem.head _))))) hr32 (IM.le_nil _)) rfl hcap45 A40 y37.length c41 y37 (SlR.of_row (inRow hin49 (List.Mem.head _)) hr43 (IM.le_nil _)) rfl hcap46  _ hy51) ?_)
    rintro _ _ _ ⟨rfl, rfl⟩
    refine OpsJ.put rfl (OpJ.pure (OpP.not rfl) ?_)
    refine OpsJ.nil ?_
    by_cases hc53 : y50 = true
    · rw [if_pos hc53] at h52
      refine CodeJ.cond_f rfl (congrArg Bool.not hc53) ?_
      refine CodeJ.skip ?_
      refine CodeJ.seq' ?_
      refine CodeJ.region ?_
      refine OpsJ.put rfl (OpJ.pure (OpP.move rfl) ?_)
      refine OpsJ.rowle (permm3 _ _ _ _ _) (fun hcap54 _ => ?_)
      obtain ⟨y58, hy59, h60⟩ := bind_ok h52
      clear h52
      refine OpsJ.put rfl (OpJ.callD Split.nil rfl (fun R55 hle56 hin57 => octet_NewReader_w R55 R (IM.le_trans (IM.le_refl _) hle56) A29 y21.2.length c30 y21.2 (SlR.of_row (inRow hin57 (List.Mem.tail _ (List.Mem.tail _ (List.Mem.tail _ (List.Mem.head _))))) hr32 (IM.le_nil _)) rfl hcap54  _ hy59) ?_)
      rintro _ D61 _ ⟨g63, A64, c65, rfl, hc66, hA67, rfl⟩ hd62
      refine OpsJ.put rfl (OpJ.pure (OpP.assign rfl) ?_)
      refine OpsJ.nil ?_
      refine CodeJ.seq' ?_
      refine CodeJ.seq' ?_
      refine CodeJ.region ?_
      refine OpsJ.put rfl (OpJ.pure (OpP.move rfl) ?_)
      refine OpsJ.put rfl (OpJ.pure (OpP.eql_nil rfl rfl) ?_)
      refine OpsJ.nil ?_
      refine CodeJ.cond_f rfl rfl ?_
      refine CodeJ.skip ?_
      refine CodeJ.seq' ?_
      refine CodeJ.region ?_
      refine OpsJ.put rfl (OpJ.pure (OpP.move rfl) ?_)
      refine OpsJ.rowle (permm4 _ _ _ _ _ _) (fun hcap69 _ => ?_)
      obtain ⟨y73, hy74, h75⟩ := bind_ok h60
      clear h60
      refine OpsJ.put rfl (OpJ.callP (Split.p4 Split.nil) rfl (fun R70 hle71 hin72 => winnowerlaw1_spoil_w R70 A29 y21.2.length c30 cs31 y21.2 hr32 rfl  _ hy74) ?_)
      rintro _ _ _ ⟨rfl, rfl⟩
      refine OpsJ.nil ?_
      refine CodeJ.seq' ?_
      refine CodeJ.region ?_
      obtain ⟨y79, hy80, h81⟩ := bind_ok h75
      clear h75
      refine OpsJ.put rfl (OpJ.callP (Split.p2 (Split.p2 Split.nil)) rfl (fun R76 hle77 hin78 => octet_Writer_Out_w R76 g4 y21.1 A24 c25 cs26 hr27  _ hy80) ?_)
      rintro _ _ _ ⟨A82, c83, cs84, A87, c88, cs89, rfl, hr85, hr90, rfl⟩
      refine OpsJ.rowle (permm2 _ _ _ _) (fun hcap92 _ => ?_)
      obtain ⟨y96, hy97, h98⟩ := bind_ok h81
      clear h81
      refine OpsJ.put rfl (OpJ.callD Split.nil rfl (fun R93 hle94 hin95 => octet_NewReader_w R93 (R.or D61) (IM.le_trans (IM.le_refl _) hle94) A87 y79.2.length c88 y79.2 (SlR.of_row (inRow hin95 (List.Mem.tail _ (List.Mem.tail _ (List.Mem.head _)))) hr90 (IM.le_nil _)) rfl hcap92  _ hy97) ?_)
      rintro _ D99 _ ⟨g101, A102, c103, rfl, hc104, hA105, rfl⟩ hd100
      refine OpsJ.put rfl (OpJ.pure (OpP.assign rfl) ?_)
      refine OpsJ.nil ?_
      refine CodeJ.seq' ?_
      refine CodeJ.seq' ?_
      refine CodeJ.region ?_
      refine OpsJ.put rfl (OpJ.pure (OpP.assign rfl) ?_)
      refine OpsJ.nil ?_
      obtain ⟨t261, hl262, h263⟩ := bind_ok h98
      clear h98
      refine CodeJ.mid (fun e s => ∃ (A254 : Option Addr) (c255 : Nat) (f253 : List UInt8) (f258 : Bool), .inr (f253, f258) = t261 ∧ f253.length ≤ c255 ∧ SlR ((R.or D61).or D99) A254 f253 ∧ e = [(5, .pointer (some ⟨g101, 0, none⟩))] ∧ s = ⟨((R.or D61).or D99), [.blk g101 [.slice A254 f253.length c255, .bool f258] 75]⟩) ?_ ?_
      · refine CodeJ.block ?_
        refine CodeJ.loopM hl262 (fun (i_202, f203, f208) e s => ∃ (A204 : Option Addr) (c205 : Nat), f203.length ≤ c205 ∧ SlR ((R.or D61).or D99) A204 f203 ∧ e = [(0, .slice A0_ p0_v.length c0_), (5, .pointer (some ⟨g101, 0, none⟩)), (6, .int .i64 i_202)] ∧ s = ⟨((R.or D61).or D99), [.blk g101 [.slice A204 f203.length c205, .bool f208] 75]⟩) ⟨A102, c103, hc104, (SlR.mono hA105 (IM.le_refl _)), rfl, rfl⟩ (SubE.cons rfl (SubE.cons rfl (SubE.cons rfl (SubE.nil _)))) (SubL.p0 (SubL.nil _)) ?_
        rintro ⟨i_202, f203, f208⟩ _ _ _ ⟨A204, c205, hc207, hA206, rfl, rfl⟩ h259 hne260
        (try dsimp only at h259); unfold winnowerlaw1_OctetNums_l0 at h259
        refine CodeJ.seq' ?_
        refine CodeJ.seq' ?_
        refine CodeJ.region ?_
        refine OpsJ.put rfl (OpJ.pure (OpP.move rfl) ?_)
        refine OpsJ.put rfl (OpJ.pure (OpP.move rfl) ?_)
        refine OpsJ.put rfl (OpJ.pure (OpP.len rfl) ?_)
        refine OpsJ.put rfl (OpJ.pure (OpP.lss rfl rfl) ?_)
        refine OpsJ.nil ?_
        by_cases hc264 : i_202 < ((p0_v.length : Nat) : Int)
        · rw [if_pos hc264] at h259
          refine CodeJ.cond_t rfl (decide_eq_true hc264) ?_
          refine CodeJ.skip ?_
          refine CodeJ.seq' ?_
          refine CodeJ.block ?_
          refine CodeJ.seq' ?_
          refine HoldJ.start [] (by kernel_rfl) ?_
          refine HoldJ.take 0 rfl (by kernel_rfl) rfl (OpP.move rfl) ⟨(IM.le_refl _), (SubL.nil _)⟩ ?_
          refine HoldJ.take 2 rfl (by kernel_rfl) rfl (OpP.move rfl) ⟨(IM.le_refl _), (SubL.nil _)⟩ ?_
          refine HoldJ.take 3 rfl (by kernel_rfl) rfl (OpP.move rfl) ⟨(IM.le_refl _), (SubL.nil _)⟩ ?_
          obtain ⟨x293, hx294, h295⟩ := bind_ok h259
          clear h259
          have hE296 : RC _ (some ((adr A0_).add (Int.toNat i_202 * Dat.size Int))) [.int .i64 x293] := SlR.getF (α := Int) hA0_ hx294
          refine HoldJ.take 4 rfl (by kernel_rfl) rfl (OpP.ixR hA0_ rfl hx294 (by exact rfl) (by exact rfl) rfl rfl) ⟨(IM.le_refl _), (SubL.nil _)⟩ ?_
          refine HoldJ.take 5 rfl (by kernel_rfl) rfl (OpP.ldR0 (by exact rfl) hE296 (IM.le_trans (IM.le_trans (IM.le_refl _) (IM.le_or _ _)) (IM.le_or _ _)) rfl rfl) ⟨(IM.le_refl _), (SubL.nil _)⟩ ?_
          refine HoldJ.take 6 rfl (by kernel_rfl) rfl (OpP.min rfl rfl) ⟨(IM.le_refl _), (SubL.nil _)⟩ ?_
          refine HoldJ.take 7 rfl (by kernel_rfl) rfl (OpP.max rfl rfl) ⟨(IM.le_refl _), (SubL.nil _)⟩ ?_
          obtain ⟨y300, hy301, h302⟩ := bind_ok h295
          clear h295
          refine HoldJ.step 1 rfl (by kernel_rfl) rfl (OpJ.callP (Split.p0 Split.nil) rfl (fun R297 hle298 hin299 => octet_Reader_Num_w R297 ((R.or D61).or D99) (IM.le_trans (IM.le_refl _) hle298) g101 (f203, f208) A204 c205 hc207 (SlR.mono hA206 (IM.le_refl _))  _ hy301) ?_)
          rintro _ _ _ ⟨A303, c304, rfl, hc305, hA306, rfl⟩
          refine ⟨⟨(IM.le_refl _), (SubL.nil _)⟩, ?_⟩
          refine HoldJ.take 8 rfl (by kernel_rfl) rfl (OpP.neq rfl rfl) ⟨(IM.le_refl _), (SubL.nil _)⟩ ?_
          refine HoldJ.fin (by kernel_rfl) ?_
          by_cases hc307 : y300.2 ≠ (if (if 4611686018427387904 < x293 then 4611686018427387904 else x293) > 0 then (if 4611686018427387904 < x293 then 4611686018427387904 else x293) else 0)
          · rw [if_pos hc307] at h302
            refine CodeJ.cond_t rfl (decide_eq_true hc307) ?_
            refine CodeJ.seq' ?_
            refine CodeJ.region ?_
            refine OpsJ.put rfl (OpJ.pure (OpP.assign rfl) ?_)
            refine OpsJ.nil ?_
            obtain rfl := Option.some.inj h302
            have ht308 := hne260 _ rfl
            subst ht308
            simp only [Sum.elim_inl] at h263
            refine CodeJ.ret' ?_
            obtain rfl := Option.some.inj h263
            exact Ret.mk0 ⟨rfl, rfl⟩ (ResJ.one Try.results4 rfl) (IM.le_trans (IM.le_trans (IM.le_refl _) (IM.le_or _ _)) (IM.le_or _ _)) (SubL.nil _)
          · rw [if_neg hc307] at h302
            refine CodeJ.cond_f rfl (decide_eq_false hc307) ?_
            refine CodeJ.skip ?_
            refine CodeJ.region ?_
            refine OpsJ.put rfl (OpJ.pure (OpP.move rfl) ?_)
            refine OpsJ.put rfl (OpJ.pure (OpP.add64 rfl rfl) ?_)
            refine OpsJ.put rfl (OpJ.pure (OpP.assign rfl) ?_)
            refine OpsJ.nil ?_
            obtain rfl := Option.some.inj h302
            exact ⟨_, _, _, _, rfl, ⟨A303, c304, hc305, (SlR.mono hA306 (IM.le_refl _)), rfl, rfl⟩, IM.le_refl _, (SubE.cons rfl (SubE.cons rfl (SubE.cons rfl (SubE.nil _)))), (SubL.p0 (SubL.nil _))⟩
        · rw [if_neg hc264] at h259
          refine CodeJ.cond_f rfl (decide_eq_false hc264) ?_
          refine CodeJ.exit rfl ?_
          obtain rfl := Option.some.inj h259
          have ht311 := hne260 _ rfl
          exact ⟨_, _, _, ⟨A204, c205, f203, f208, ht311, hc207, (SlR.mono hA206 (IM.le_refl _)), rfl, rfl⟩, IM.le_refl _, (SubE.cons rfl (SubE.nil _)), (SubL.p0 (SubL.nil _))⟩
      · rintro _ _ ⟨A254, c255, f253, f258, rfl, hc257, hA256, rfl, rfl⟩
        simp only [Sum.elim_inr] at h263
        refine CodeJ.seq' ?_
        refine CodeJ.region ?_
        refine OpsJ.put rfl (OpJ.pure (OpP.move rfl) ?_)
        obtain ⟨y315, hy316, h317⟩ := bind_ok h263
        clear h263
        refine OpsJ.put rfl (OpJ.callP (Split.p0 Split.nil) rfl (fun R312 hle313 hin314 => octet_Reader_Good_w R312 ((R.or D61).or D99) (IM.le_trans (IM.le_refl _) hle313) g101 (f253, f258) A254 c255 hc257 (SlR.mono hA256 (IM.le_refl _))  _ hy316) ?_)
        rintro _ _ _ ⟨A318, c319, rfl, hc320, hA321, rfl⟩
        refine OpsJ.put rfl (OpJ.pure (OpP.move rfl) ?_)
        by_cases hc322 : y315.2 = true
        · rw [if_pos hc322] at h317
          refine OpsJ.guard_y rfl rfl rfl rfl hc322 ?_
          refine OpsJ.put rfl (OpJ.pure (OpP.move rfl) ?_)
          refine OpsJ.guard_y rfl rfl rfl rfl hc322 ?_
          obtain ⟨y326, hy327, h328⟩ := bind_ok h317
          clear h317
          refine OpsJ.put rfl (OpJ.callP (Split.p0 Split.nil) rfl (fun R323 hle324 hin325 => octet_Reader_Whole_w R323 ((R.or D61).or D99) (IM.le_trans (IM.le_refl _) hle324) g101 (y315.1.1, y315.1.2) A318 c319 hc320 (SlR.mono hA321 (IM.le_refl _))  _ hy327) ?_)
          rintro _ _ _ ⟨A329, c330, rfl, hc331, hA332, rfl⟩
          refine OpsJ.put rfl (OpJ.pure (OpP.pick_t rfl hc322 rfl) ?_)
          refine OpsJ.put rfl (OpJ.pure (OpP.move rfl) ?_)
          by_cases hc333 : y326.2 = true
          · rw [if_pos hc333] at h328
            refine OpsJ.guard_y rfl rfl rfl rfl hc333 ?_
            obtain ⟨y337, hy338, h339⟩ := bind_ok h328
            clear h328
            refine OpsJ.put rfl (OpJ.call0 rfl (fun R334 hle335 hin336 => winnowerlaw1_known_w R334   _ hy338) ?_)
            rintro _ _ _ ⟨rfl, rfl⟩
            refine OpsJ.put rfl (OpJ.pure (OpP.pick_t rfl hc333 rfl) ?_)
            refine OpsJ.put rfl (OpJ.pure (OpP.assign rfl) ?_)
            refine OpsJ.nil ?_
            refine CodeJ.ret' ?_
            obtain rfl := Option.some.inj h339
            exact Ret.mk0 ⟨rfl, rfl⟩ (ResJ.one Try.results4 rfl) (IM.le_trans (IM.le_trans (IM.le_refl _) (IM.le_or _ _)) (IM.le_or _ _)) (SubL.nil _)
          · rw [if_neg hc333] at h328
            refine OpsJ.guard_n rfl rfl rfl rfl (Bool.eq_false_iff.2 hc333) ?_
            refine OpsJ.put rfl (OpJ.pure (OpP.pick_f rfl (Bool.eq_false_iff.2 hc333) rfl) ?_)
            refine OpsJ.put rfl (OpJ.pure (OpP.assign rfl) ?_)
            refine OpsJ.nil ?_
            refine CodeJ.ret' ?_
            obtain rfl := Option.some.inj h328
            exact Ret.mk0 ⟨rfl, rfl⟩ (ResJ.one Try.results4 rfl) (IM.le_trans (IM.le_trans (IM.le_refl _) (IM.le_or _ _)) (IM.le_or _ _)) (SubL.nil _)
        · rw [if_neg hc322] at h317
          refine OpsJ.guard_n rfl rfl rfl rfl (Bool.eq_false_iff.2 hc322) ?_
          refine OpsJ.guard_n rfl rfl rfl rfl (Bool.eq_false_iff.2 hc322) ?_
          refine OpsJ.put rfl (OpJ.pure (OpP.pick_f rfl (Bool.eq_false_iff.2 hc322) rfl) ?_)
          refine OpsJ.put rfl (OpJ.pure (OpP.move rfl) ?_)
          refine OpsJ.guard_n rfl rfl rfl rfl rfl ?_
          refine OpsJ.put rfl (OpJ.pure (OpP.pick_f rfl rfl rfl) ?_)
          refine OpsJ.put rfl (OpJ.pure (OpP.assign rfl) ?_)
          refine OpsJ.nil ?_
          refine CodeJ.ret' ?_
          obtain rfl := Option.some.inj h317
          exact Ret.mk0 ⟨rfl, rfl⟩ (ResJ.one Try.results4 rfl) (IM.le_trans (IM.le_trans (IM.le_refl _) (IM.le_or _ _)) (IM.le_or _ _)) (SubL.nil _)
    · rw [if_neg hc53] at h52
      refine CodeJ.cond_t rfl (congrArg Bool.not (Bool.eq_false_iff.2 hc53)) ?_
      refine CodeJ.seq' ?_
      refine CodeJ.region ?_
      refine OpsJ.put rfl (OpJ.pure (OpP.assign rfl) ?_)
      refine OpsJ.nil ?_
      refine CodeJ.ret' ?_
      obtain rfl := Option.some.inj h52
      exact Ret.mk0 ⟨rfl, rfl⟩ (ResJ.one Try.results4 rfl) (IM.le_refl _) (SubL.nil _)
end Go.Proofs.Ytdicpnnmhjgnbaa.FW
