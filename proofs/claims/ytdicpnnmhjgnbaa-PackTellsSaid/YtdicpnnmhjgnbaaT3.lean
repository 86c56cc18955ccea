/- how this translation's types read: written by a program -/
import Derived.Test.YtdicpnnmhjgnbaaX4
import Derived.Test.YtdicpnnmhjgnbaaT
import Derived.SizedLaws
namespace Go.Proofs.Ytdicpnnmhjgnbaa.FW
open Go Go.Proofs Go.RowKit Go.ChangeShapes Go.WideShapes Go.ChangeAt Go.ChangeMaps
set_option linter.unusedSimpArgs false
set_option linter.unusedVariables false
instance ops7 : Opens Try.prog 7 (Int × Int × Bool × UInt8) := by
  refine ⟨fun {H} enc w base spare held fuel cs x h hz => ?_⟩
  obtain ⟨xs, n, _, rfl, hl, hx, hf⟩ := DataW.trod_struct Try.underlying7 h
  have hl' : cs.length = 4 := by rw [hl]; exact cells_of ty7
  have h0 := hf 0 _ rfl
  rw [List.getElem?_eq_getElem (show 0 < xs.length by rw [hx]; decide)] at h0
  obtain ⟨a0, r0, k0⟩ := Opens.opens (P := Try.prog) (t := 2) (α := Int) enc w base spare held n _ _ h0 (fun m hm => hz m (by simp only [DataW.weights, Try.underlying7]; exact DataW.weights_mem_each (j := 0) (t := 2) rfl (by rw [List.getElem?_map, List.getElem?_eq_getElem (show 0 < xs.length by rw [hx]; decide)]; rfl) m hm))
  replace r0 : Dat.rep (heapOf w) ((cs.drop 0).take (Try.prog.cellsOf 2)) a0 := r0
  rw [show Try.prog.cellsOf 2 = 1 from cells_of ty2] at r0
  have h1 := hf 1 _ rfl
  rw [List.getElem?_eq_getElem (show 1 < xs.length by rw [hx]; decide)] at h1
  obtain ⟨a1, r1, k1⟩ := Opens.opens (P := Try.prog) (t := 3) (α := Int) enc w base spare held n _ _ h1 (fun m hm => hz m (by simp only [DataW.weights, Try.underlying7]; exact DataW.weights_mem_each (j := 1) (t := 3) rfl (by rw [List.getElem?_map, List.getElem?_eq_getElem (show 1 < xs.length by rw [hx]; decide)]; rfl) m hm))
  replace r1 : Dat.rep (heapOf w) ((cs.drop 1).take (Try.prog.cellsOf 3)) a1 := r1
  rw [show Try.prog.cellsOf 3 = 1 from cells_of ty3] at r1
  have h2 := hf 2 _ rfl
  rw [List.getElem?_eq_getElem (show 2 < xs.length by rw [hx]; decide)] at h2
  obtain ⟨a2, r2, k2⟩ := Opens.opens (P := Try.prog) (t := 4) (α := Bool) enc w base spare held n _ _ h2 (fun m hm => hz m (by simp only [DataW.weights, Try.underlying7]; exact DataW.weights_mem_each (j := 2) (t := 4) rfl (by rw [List.getElem?_map, List.getElem?_eq_getElem (show 2 < xs.length by rw [hx]; decide)]; rfl) m hm))
  replace r2 : Dat.rep (heapOf w) ((cs.drop 2).take (Try.prog.cellsOf 4)) a2 := r2
  rw [show Try.prog.cellsOf 4 = 1 from cells_of ty4] at r2
  have h3 := hf 3 _ rfl
  rw [List.getElem?_eq_getElem (show 3 < xs.length by rw [hx]; decide)] at h3
  obtain ⟨a3, r3, k3⟩ := Opens.opens (P := Try.prog) (t := 6) (α := UInt8) enc w base spare held n _ _ h3 (fun m hm => hz m (by simp only [DataW.weights, Try.underlying7]; exact DataW.weights_mem_each (j := 3) (t := 6) rfl (by rw [List.getElem?_map, List.getElem?_eq_getElem (show 3 < xs.length by rw [hx]; decide)]; rfl) m hm))
  replace r3 : Dat.rep (heapOf w) ((cs.drop 3).take (Try.prog.cellsOf 6)) a3 := r3
  rw [show Try.prog.cellsOf 6 = 1 from cells_of ty6] at r3
  rw [List.take_of_length_le (show (cs.drop 3).length ≤ 1 by rw [List.length_drop, hl']; decide)] at r3
  exact ⟨(a0, a1, a2, a3), ⟨(cs).take 1, (cs).drop 1, (List.take_append_drop _ _).symm, (by simpa only [List.drop_drop, List.drop_zero, Nat.reduceAdd] using r0), ⟨((cs).drop 1).take 1, ((cs).drop 1).drop 1, (List.take_append_drop _ _).symm, (by simpa only [List.drop_drop, List.drop_zero, Nat.reduceAdd] using r1), ⟨(((cs).drop 1).drop 1).take 1, (((cs).drop 1).drop 1).drop 1, (List.take_append_drop _ _).symm, (by simpa only [List.drop_drop, List.drop_zero, Nat.reduceAdd] using r2), (by simpa only [List.drop_drop, List.drop_zero, Nat.reduceAdd] using r3)⟩⟩⟩, ⟨k0, k1, k2, k3⟩⟩
instance ops8 : Opens Try.prog 8 (Int × Int × Bool × UInt8) := by
  refine ⟨fun {H} enc w base spare held fuel cs x h hz => ?_⟩
  obtain ⟨xs, n, _, rfl, hl, hx, hf⟩ := DataW.trod_struct Try.underlying8 h
  have hl' : cs.length = 4 := by rw [hl]; exact cells_of ty8
  have h0 := hf 0 _ rfl
  rw [List.getElem?_eq_getElem (show 0 < xs.length by rw [hx]; decide)] at h0
  obtain ⟨a0, r0, k0⟩ := Opens.opens (P := Try.prog) (t := 2) (α := Int) enc w base spare held n _ _ h0 (fun m hm => hz m (by simp only [DataW.weights, Try.underlying8]; exact DataW.weights_mem_each (j := 0) (t := 2) rfl (by rw [List.getElem?_map, List.getElem?_eq_getElem (show 0 < xs.length by rw [hx]; decide)]; rfl) m hm))
  replace r0 : Dat.rep (heapOf w) ((cs.drop 0).take (Try.prog.cellsOf 2)) a0 := r0
  rw [show Try.prog.cellsOf 2 = 1 from cells_of ty2] at r0
  have h1 := hf 1 _ rfl
  rw [List.getElem?_eq_getElem (show 1 < xs.length by rw [hx]; decide)] at h1
  obtain ⟨a1, r1, k1⟩ := Opens.opens (P := Try.prog) (t := 3) (α := Int) enc w base spare held n _ _ h1 (fun m hm => hz m (by simp only [DataW.weights, Try.underlying8]; exact DataW.weights_mem_each (j := 1) (t := 3) rfl (by rw [List.getElem?_map, List.getElem?_eq_getElem (show 1 < xs.length by rw [hx]; decide)]; rfl) m hm))
  replace r1 : Dat.rep (heapOf w) ((cs.drop 1).take (Try.prog.cellsOf 3)) a1 := r1
  rw [show Try.prog.cellsOf 3 = 1 from cells_of ty3] at r1
  have h2 := hf 2 _ rfl
  rw [List.getElem?_eq_getElem (show 2 < xs.length by rw [hx]; decide)] at h2
  obtain ⟨a2, r2, k2⟩ := Opens.opens (P := Try.prog) (t := 4) (α := Bool) enc w base spare held n _ _ h2 (fun m hm => hz m (by simp only [DataW.weights, Try.underlying8]; exact DataW.weights_mem_each (j := 2) (t := 4) rfl (by rw [List.getElem?_map, List.getElem?_eq_getElem (show 2 < xs.length by rw [hx]; decide)]; rfl) m hm))
  replace r2 : Dat.rep (heapOf w) ((cs.drop 2).take (Try.prog.cellsOf 4)) a2 := r2
  rw [show Try.prog.cellsOf 4 = 1 from cells_of ty4] at r2
  have h3 := hf 3 _ rfl
  rw [List.getElem?_eq_getElem (show 3 < xs.length by rw [hx]; decide)] at h3
  obtain ⟨a3, r3, k3⟩ := Opens.opens (P := Try.prog) (t := 6) (α := UInt8) enc w base spare held n _ _ h3 (fun m hm => hz m (by simp only [DataW.weights, Try.underlying8]; exact DataW.weights_mem_each (j := 3) (t := 6) rfl (by rw [List.getElem?_map, List.getElem?_eq_getElem (show 3 < xs.length by rw [hx]; decide)]; rfl) m hm))
  replace r3 : Dat.rep (heapOf w) ((cs.drop 3).take (Try.prog.cellsOf 6)) a3 := r3
  rw [show Try.prog.cellsOf 6 = 1 from cells_of ty6] at r3
  rw [List.take_of_length_le (show (cs.drop 3).length ≤ 1 by rw [List.length_drop, hl']; decide)] at r3
  exact ⟨(a0, a1, a2, a3), ⟨(cs).take 1, (cs).drop 1, (List.take_append_drop _ _).symm, (by simpa only [List.drop_drop, List.drop_zero, Nat.reduceAdd] using r0), ⟨((cs).drop 1).take 1, ((cs).drop 1).drop 1, (List.take_append_drop _ _).symm, (by simpa only [List.drop_drop, List.drop_zero, Nat.reduceAdd] using r1), ⟨(((cs).drop 1).drop 1).take 1, (((cs).drop 1).drop 1).drop 1, (List.take_append_drop _ _).symm, (by simpa only [List.drop_drop, List.drop_zero, Nat.reduceAdd] using r2), (by simpa only [List.drop_drop, List.drop_zero, Nat.reduceAdd] using r3)⟩⟩⟩, ⟨k0, k1, k2, k3⟩⟩
instance ops13 : Opens Try.prog 13 (ByteArray × UInt64) := by
  refine ⟨fun {H} enc w base spare held fuel cs x h hz => ?_⟩
  obtain ⟨xs, n, _, rfl, hl, hx, hf⟩ := DataW.trod_struct Try.underlying13 h
  have hl' : cs.length = 2 := by rw [hl]; exact cells_of ty13
  have h0 := hf 0 _ rfl
  rw [List.getElem?_eq_getElem (show 0 < xs.length by rw [hx]; decide)] at h0
  obtain ⟨a0, r0, k0⟩ := Opens.opens (P := Try.prog) (t := 9) (α := ByteArray) enc w base spare held n _ _ h0 (fun m hm => hz m (by simp only [DataW.weights, Try.underlying13]; exact DataW.weights_mem_each (j := 0) (t := 9) rfl (by rw [List.getElem?_map, List.getElem?_eq_getElem (show 0 < xs.length by rw [hx]; decide)]; rfl) m hm))
  replace r0 : Dat.rep (heapOf w) ((cs.drop 0).take (Try.prog.cellsOf 9)) a0 := r0
  rw [show Try.prog.cellsOf 9 = 1 from cells_of ty9] at r0
  have h1 := hf 1 _ rfl
  rw [List.getElem?_eq_getElem (show 1 < xs.length by rw [hx]; decide)] at h1
  obtain ⟨a1, r1, k1⟩ := Opens.opens (P := Try.prog) (t := 12) (α := UInt64) enc w base spare held n _ _ h1 (fun m hm => hz m (by simp only [DataW.weights, Try.underlying13]; exact DataW.weights_mem_each (j := 1) (t := 12) rfl (by rw [List.getElem?_map, List.getElem?_eq_getElem (show 1 < xs.length by rw [hx]; decide)]; rfl) m hm))
  replace r1 : Dat.rep (heapOf w) ((cs.drop 1).take (Try.prog.cellsOf 12)) a1 := r1
  rw [show Try.prog.cellsOf 12 = 1 from cells_of ty12] at r1
  rw [List.take_of_length_le (show (cs.drop 1).length ≤ 1 by rw [List.length_drop, hl']; decide)] at r1
  exact ⟨(a0, a1), ⟨(cs).take 1, (cs).drop 1, (List.take_append_drop _ _).symm, (by simpa only [List.drop_drop, List.drop_zero, Nat.reduceAdd] using r0), (by simpa only [List.drop_drop, List.drop_zero, Nat.reduceAdd] using r1)⟩, ⟨k0, k1⟩⟩
instance ops14 : Opens Try.prog 14 (ByteArray × UInt64) := by
  refine ⟨fun {H} enc w base spare held fuel cs x h hz => ?_⟩
  obtain ⟨xs, n, _, rfl, hl, hx, hf⟩ := DataW.trod_struct Try.underlying14 h
  have hl' : cs.length = 2 := by rw [hl]; exact cells_of ty14
  have h0 := hf 0 _ rfl
  rw [List.getElem?_eq_getElem (show 0 < xs.length by rw [hx]; decide)] at h0
  obtain ⟨a0, r0, k0⟩ := Opens.opens (P := Try.prog) (t := 9) (α := ByteArray) enc w base spare held n _ _ h0 (fun m hm => hz m (by simp only [DataW.weights, Try.underlying14]; exact DataW.weights_mem_each (j := 0) (t := 9) rfl (by rw [List.getElem?_map, List.getElem?_eq_getElem (show 0 < xs.length by rw [hx]; decide)]; rfl) m hm))
  replace r0 : Dat.rep (heapOf w) ((cs.drop 0).take (Try.prog.cellsOf 9)) a0 := r0
  rw [show Try.prog.cellsOf 9 = 1 from cells_of ty9] at r0
  have h1 := hf 1 _ rfl
  rw [List.getElem?_eq_getElem (show 1 < xs.length by rw [hx]; decide)] at h1
  obtain ⟨a1, r1, k1⟩ := Opens.opens (P := Try.prog) (t := 12) (α := UInt64) enc w base spare held n _ _ h1 (fun m hm => hz m (by simp only [DataW.weights, Try.underlying14]; exact DataW.weights_mem_each (j := 1) (t := 12) rfl (by rw [List.getElem?_map, List.getElem?_eq_getElem (show 1 < xs.length by rw [hx]; decide)]; rfl) m hm))
  replace r1 : Dat.rep (heapOf w) ((cs.drop 1).take (Try.prog.cellsOf 12)) a1 := r1
  rw [show Try.prog.cellsOf 12 = 1 from cells_of ty12] at r1
  rw [List.take_of_length_le (show (cs.drop 1).length ≤ 1 by rw [List.length_drop, hl']; decide)] at r1
  exact ⟨(a0, a1), ⟨(cs).take 1, (cs).drop 1, (List.take_append_drop _ _).symm, (by simpa only [List.drop_drop, List.drop_zero, Nat.reduceAdd] using r0), (by simpa only [List.drop_drop, List.drop_zero, Nat.reduceAdd] using r1)⟩, ⟨k0, k1⟩⟩
instance opl23 : Opens Try.prog 23 (List UInt8) := opSl (u := 5) rfl
instance opl30 : Opens Try.prog 30 (List Int) := opSl (u := 3) rfl
instance opl38 : Opens Try.prog 38 (List (List UInt8)) := opSl (u := 23) rfl
instance ops61 : Opens Try.prog 61 ((List UInt8) × Bool) := by
  refine ⟨fun {H} enc w base spare held fuel cs x h hz => ?_⟩
  obtain ⟨xs, n, _, rfl, hl, hx, hf⟩ := DataW.trod_struct Try.underlying61 h
  have hl' : cs.length = 2 := by rw [hl]; exact cells_of ty61
  have h0 := hf 0 _ rfl
  rw [List.getElem?_eq_getElem (show 0 < xs.length by rw [hx]; decide)] at h0
  obtain ⟨a0, r0, k0⟩ := Opens.opens (P := Try.prog) (t := 23) (α := List UInt8) enc w base spare held n _ _ h0 (fun m hm => hz m (by simp only [DataW.weights, Try.underlying61]; exact DataW.weights_mem_each (j := 0) (t := 23) rfl (by rw [List.getElem?_map, List.getElem?_eq_getElem (show 0 < xs.length by rw [hx]; decide)]; rfl) m hm))
  replace r0 : Dat.rep (heapOf w) ((cs.drop 0).take (Try.prog.cellsOf 23)) a0 := r0
  rw [show Try.prog.cellsOf 23 = 1 from cells_of ty23] at r0
  have h1 := hf 1 _ rfl
  rw [List.getElem?_eq_getElem (show 1 < xs.length by rw [hx]; decide)] at h1
  obtain ⟨a1, r1, k1⟩ := Opens.opens (P := Try.prog) (t := 4) (α := Bool) enc w base spare held n _ _ h1 (fun m hm => hz m (by simp only [DataW.weights, Try.underlying61]; exact DataW.weights_mem_each (j := 1) (t := 4) rfl (by rw [List.getElem?_map, List.getElem?_eq_getElem (show 1 < xs.length by rw [hx]; decide)]; rfl) m hm))
  replace r1 : Dat.rep (heapOf w) ((cs.drop 1).take (Try.prog.cellsOf 4)) a1 := r1
  rw [show Try.prog.cellsOf 4 = 1 from cells_of ty4] at r1
  rw [List.take_of_length_le (show (cs.drop 1).length ≤ 1 by rw [List.length_drop, hl']; decide)] at r1
  exact ⟨(a0, a1), ⟨(cs).take 1, (cs).drop 1, (List.take_append_drop _ _).symm, (by simpa only [List.drop_drop, List.drop_zero, Nat.reduceAdd] using r0), (by simpa only [List.drop_drop, List.drop_zero, Nat.reduceAdd] using r1)⟩, ⟨k0, k1⟩⟩
instance ops62 : Opens Try.prog 62 ((List UInt8) × Bool) := by
  refine ⟨fun {H} enc w base spare held fuel cs x h hz => ?_⟩
  obtain ⟨xs, n, _, rfl, hl, hx, hf⟩ := DataW.trod_struct Try.underlying62 h
  have hl' : cs.length = 2 := by rw [hl]; exact cells_of ty62
  have h0 := hf 0 _ rfl
  rw [List.getElem?_eq_getElem (show 0 < xs.length by rw [hx]; decide)] at h0
  obtain ⟨a0, r0, k0⟩ := Opens.opens (P := Try.prog) (t := 23) (α := List UInt8) enc w base spare held n _ _ h0 (fun m hm => hz m (by simp only [DataW.weights, Try.underlying62]; exact DataW.weights_mem_each (j := 0) (t := 23) rfl (by rw [List.getElem?_map, List.getElem?_eq_getElem (show 0 < xs.length by rw [hx]; decide)]; rfl) m hm))
  replace r0 : Dat.rep (heapOf w) ((cs.drop 0).take (Try.prog.cellsOf 23)) a0 := r0
  rw [show Try.prog.cellsOf 23 = 1 from cells_of ty23] at r0
  have h1 := hf 1 _ rfl
  rw [List.getElem?_eq_getElem (show 1 < xs.length by rw [hx]; decide)] at h1
  obtain ⟨a1, r1, k1⟩ := Opens.opens (P := Try.prog) (t := 4) (α := Bool) enc w base spare held n _ _ h1 (fun m hm => hz m (by simp only [DataW.weights, Try.underlying62]; exact DataW.weights_mem_each (j := 1) (t := 4) rfl (by rw [List.getElem?_map, List.getElem?_eq_getElem (show 1 < xs.length by rw [hx]; decide)]; rfl) m hm))
  replace r1 : Dat.rep (heapOf w) ((cs.drop 1).take (Try.prog.cellsOf 4)) a1 := r1
  rw [show Try.prog.cellsOf 4 = 1 from cells_of ty4] at r1
  rw [List.take_of_length_le (show (cs.drop 1).length ≤ 1 by rw [List.length_drop, hl']; decide)] at r1
  exact ⟨(a0, a1), ⟨(cs).take 1, (cs).drop 1, (List.take_append_drop _ _).symm, (by simpa only [List.drop_drop, List.drop_zero, Nat.reduceAdd] using r0), (by simpa only [List.drop_drop, List.drop_zero, Nat.reduceAdd] using r1)⟩, ⟨k0, k1⟩⟩
instance ops74 : Opens Try.prog 74 ((List UInt8) × Bool) := by
  refine ⟨fun {H} enc w base spare held fuel cs x h hz => ?_⟩
  obtain ⟨xs, n, _, rfl, hl, hx, hf⟩ := DataW.trod_struct Try.underlying74 h
  have hl' : cs.length = 2 := by rw [hl]; exact cells_of ty74
  have h0 := hf 0 _ rfl
  rw [List.getElem?_eq_getElem (show 0 < xs.length by rw [hx]; decide)] at h0
  obtain ⟨a0, r0, k0⟩ := Opens.opens (P := Try.prog) (t := 23) (α := List UInt8) enc w base spare held n _ _ h0 (fun m hm => hz m (by simp only [DataW.weights, Try.underlying74]; exact DataW.weights_mem_each (j := 0) (t := 23) rfl (by rw [List.getElem?_map, List.getElem?_eq_getElem (show 0 < xs.length by rw [hx]; decide)]; rfl) m hm))
  replace r0 : Dat.rep (heapOf w) ((cs.drop 0).take (Try.prog.cellsOf 23)) a0 := r0
  rw [show Try.prog.cellsOf 23 = 1 from cells_of ty23] at r0
  have h1 := hf 1 _ rfl
  rw [List.getElem?_eq_getElem (show 1 < xs.length by rw [hx]; decide)] at h1
  obtain ⟨a1, r1, k1⟩ := Opens.opens (P := Try.prog) (t := 4) (α := Bool) enc w base spare held n _ _ h1 (fun m hm => hz m (by simp only [DataW.weights, Try.underlying74]; exact DataW.weights_mem_each (j := 1) (t := 4) rfl (by rw [List.getElem?_map, List.getElem?_eq_getElem (show 1 < xs.length by rw [hx]; decide)]; rfl) m hm))
  replace r1 : Dat.rep (heapOf w) ((cs.drop 1).take (Try.prog.cellsOf 4)) a1 := r1
  rw [show Try.prog.cellsOf 4 = 1 from cells_of ty4] at r1
  rw [List.take_of_length_le (show (cs.drop 1).length ≤ 1 by rw [List.length_drop, hl']; decide)] at r1
  exact ⟨(a0, a1), ⟨(cs).take 1, (cs).drop 1, (List.take_append_drop _ _).symm, (by simpa only [List.drop_drop, List.drop_zero, Nat.reduceAdd] using r0), (by simpa only [List.drop_drop, List.drop_zero, Nat.reduceAdd] using r1)⟩, ⟨k0, k1⟩⟩
instance ops75 : Opens Try.prog 75 ((List UInt8) × Bool) := by
  refine ⟨fun {H} enc w base spare held fuel cs x h hz => ?_⟩
  obtain ⟨xs, n, _, rfl, hl, hx, hf⟩ := DataW.trod_struct Try.underlying75 h
  have hl' : cs.length = 2 := by rw [hl]; exact cells_of ty75
  have h0 := hf 0 _ rfl
  rw [List.getElem?_eq_getElem (show 0 < xs.length by rw [hx]; decide)] at h0
  obtain ⟨a0, r0, k0⟩ := Opens.opens (P := Try.prog) (t := 23) (α := List UInt8) enc w base spare held n _ _ h0 (fun m hm => hz m (by simp only [DataW.weights, Try.underlying75]; exact DataW.weights_mem_each (j := 0) (t := 23) rfl (by rw [List.getElem?_map, List.getElem?_eq_getElem (show 0 < xs.length by rw [hx]; decide)]; rfl) m hm))
  replace r0 : Dat.rep (heapOf w) ((cs.drop 0).take (Try.prog.cellsOf 23)) a0 := r0
  rw [show Try.prog.cellsOf 23 = 1 from cells_of ty23] at r0
  have h1 := hf 1 _ rfl
  rw [List.getElem?_eq_getElem (show 1 < xs.length by rw [hx]; decide)] at h1
  obtain ⟨a1, r1, k1⟩ := Opens.opens (P := Try.prog) (t := 4) (α := Bool) enc w base spare held n _ _ h1 (fun m hm => hz m (by simp only [DataW.weights, Try.underlying75]; exact DataW.weights_mem_each (j := 1) (t := 4) rfl (by rw [List.getElem?_map, List.getElem?_eq_getElem (show 1 < xs.length by rw [hx]; decide)]; rfl) m hm))
  replace r1 : Dat.rep (heapOf w) ((cs.drop 1).take (Try.prog.cellsOf 4)) a1 := r1
  rw [show Try.prog.cellsOf 4 = 1 from cells_of ty4] at r1
  rw [List.take_of_length_le (show (cs.drop 1).length ≤ 1 by rw [List.length_drop, hl']; decide)] at r1
  exact ⟨(a0, a1), ⟨(cs).take 1, (cs).drop 1, (List.take_append_drop _ _).symm, (by simpa only [List.drop_drop, List.drop_zero, Nat.reduceAdd] using r0), (by simpa only [List.drop_drop, List.drop_zero, Nat.reduceAdd] using r1)⟩, ⟨k0, k1⟩⟩
end Go.Proofs.Ytdicpnnmhjgnbaa.FW
