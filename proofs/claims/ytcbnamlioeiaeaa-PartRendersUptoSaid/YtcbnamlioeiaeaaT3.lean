/- how this translation's types read: written by a program -/
import Derived.Test.YtcbnamlioeiaeaaX4
import Derived.Test.YtcbnamlioeiaeaaT
import Derived.SizedLaws
namespace Go.Proofs.Ytcbnamlioeiaeaa.FW
open Go Go.Proofs Go.RowKit Go.ChangeShapes Go.WideShapes Go.ChangeAt Go.ChangeMaps
set_option linter.unusedSimpArgs false
set_option linter.unusedVariables false
instance ops7 : Opens Try.prog 7 (Int × Int × Bool × UInt8) := by
  refine ⟨fun {H} enc w base spare held fuel cs x h hz => ?_⟩
  obtain ⟨xs, n, _, rfl, hl, hx, hf⟩ := DataW.trod_struct Try.underlying7 h
  have hl' : cs.length = 4 := by rw [hl]; exact cells_of ty7
  have h0 := hf 0 _ rfl
  rw [List.getElem?_eq_getElem (show 0 < xs.length by rw [hx]; decide)] at h0
  obtain ⟨a0, r0, k0⟩ := Opens.opens (P := Try.prog) (t := 2) (α := Int) enc w base spare held n _ _ h0 (fun m hm => hz m (by simp only [DataW.weights, Try.underlying7]; exact DataW.weights_mem_each (j := 0) (t := 2) rfl (by rw [List.getElem?_map, List.getElem?_eq_getElem (show 0 < xs.length by rw [hx]; decide)]; rfl) m hm))
  replace r0 : Dat.rep (heapOf w) ((cs.drop 0).take (Try.prog.cellsOf 2)) a0 := r0
  rw [show Try.prog.cellsOf 2 = 1 from cells_of ty2] at r0
  have h1 := hf 1 _ rfl
  rw [List.getElem?_eq_getElem (show 1 < xs.length by rw [hx]; decide)] at h1
  obtain ⟨a1, r1, k1⟩ := Opens.opens (P := Try.prog) (t := 3) (α := Int) enc w base spare held n _ _ h1 (fun m hm => hz m (by simp only [DataW.weights, Try.underlying7]; exact DataW.weights_mem_each (j := 1) (t := 3) rfl (by rw [List.getElem?_map, List.getElem?_eq_getElem (show 1 < xs.length by rw [hx]; decide)]; rfl) m hm))
  replace r1 : Dat.rep (heapOf w) ((cs.drop 1).take (Try.prog.cellsOf 3)) a1 := r1
  rw [show Try.prog.cellsOf 3 = 1 from cells_of ty3] at r1
  have h2 := hf 2 _ rfl
  rw [List.getElem?_eq_getElem (show 2 < xs.length by rw [hx]; decide)] at h2
  obtain ⟨a2, r2, k2⟩ := Opens.opens (P := Try.prog) (t := 4) (α := Bool) enc w base spare held n _ _ h2 (fun m hm => hz m (by simp only [DataW.weights, Try.underlying7]; exact DataW.weights_mem_each (j := 2) (t := 4) rfl (by rw [List.getElem?_map, List.getElem?_eq_getElem (show 2 < xs.length by rw [hx]; decide)]; rfl) m hm))
  replace r2 : Dat.rep (heapOf w) ((cs.drop 2).take (Try.prog.cellsOf 4)) a2 := r2
  rw [show Try.prog.cellsOf 4 = 1 from cells_of ty4] at r2
  have h3 := hf 3 _ rfl
  rw [List.getElem?_eq_getElem (show 3 < xs.length by rw [hx]; decide)] at h3
  obtain ⟨a3, r3, k3⟩ := Opens.opens (P := Try.prog) (t := 6) (α := UInt8) enc w base spare held n _ _ h3 (fun m hm => hz m (by simp only [DataW.weights, Try.underlying7]; exact DataW.weights_mem_each (j := 3) (t := 6) rfl (by rw [List.getElem?_map, List.getElem?_eq_getElem (show 3 < xs.length by rw [hx]; decide)]; rfl) m hm))
  replace r3 : Dat.rep (heapOf w) ((cs.drop 3).take (Try.prog.cellsOf 6)) a3 := r3
  rw [show Try.prog.cellsOf 6 = 1 from cells_of ty6] at r3
  rw [List.take_of_length_le (show (cs.drop 3).length ≤ 1 by rw [List.length_drop, hl']; decide)] at r3
  exact ⟨(a0, a1, a2, a3), ⟨(cs).take 1, (cs).drop 1, (List.take_append_drop _ _).symm, (by simpa only [List.drop_drop, List.drop_zero, Nat.reduceAdd] using r0), ⟨((cs).drop 1).take 1, ((cs).drop 1).drop 1, (List.take_append_drop _ _).symm, (by simpa only [List.drop_drop, List.drop_zero, Nat.reduceAdd] using r1), ⟨(((cs).drop 1).drop 1).take 1, (((cs).drop 1).drop 1).drop 1, (List.take_append_drop _ _).symm, (by simpa only [List.drop_drop, List.drop_zero, Nat.reduceAdd] using r2), (by simpa only [List.drop_drop, List.drop_zero, Nat.reduceAdd] using r3)⟩⟩⟩, ⟨k0, k1, k2, k3⟩⟩
instance ops8 : Opens Try.prog 8 (Int × Int × Bool × UInt8) := by
  refine ⟨fun {H} enc w base spare held fuel cs x h hz => ?_⟩
  obtain ⟨xs, n, _, rfl, hl, hx, hf⟩ := DataW.trod_struct Try.underlying8 h
  have hl' : cs.length = 4 := by rw [hl]; exact cells_of ty8
  have h0 := hf 0 _ rfl
  rw [List.getElem?_eq_getElem (show 0 < xs.length by rw [hx]; decide)] at h0
  obtain ⟨a0, r0, k0⟩ := Opens.opens (P := Try.prog) (t := 2) (α := Int) enc w base spare held n _ _ h0 (fun m hm => hz m (by simp only [DataW.weights, Try.underlying8]; exact DataW.weights_mem_each (j := 0) (t := 2) rfl (by rw [List.getElem?_map, List.getElem?_eq_getElem (show 0 < xs.length by rw [hx]; decide)]; rfl) m hm))
  replace r0 : Dat.rep (heapOf w) ((cs.drop 0).take (Try.prog.cellsOf 2)) a0 := r0
  rw [show Try.prog.cellsOf 2 = 1 from cells_of ty2] at r0
  have h1 := hf 1 _ rfl
  rw [List.getElem?_eq_getElem (show 1 < xs.length by rw [hx]; decide)] at h1
  obtain ⟨a1, r1, k1⟩ := Opens.opens (P := Try.prog) (t := 3) (α := Int) enc w base spare held n _ _ h1 (fun m hm => hz m (by simp only [DataW.weights, Try.underlying8]; exact DataW.weights_mem_each (j := 1) (t := 3) rfl (by rw [List.getElem?_map, List.getElem?_eq_getElem (show 1 < xs.length by rw [hx]; decide)]; rfl) m hm))
  replace r1 : Dat.rep (heapOf w) ((cs.drop 1).take (Try.prog.cellsOf 3)) a1 := r1
  rw [show Try.prog.cellsOf 3 = 1 from cells_of ty3] at r1
  have h2 := hf 2 _ rfl
  rw [List.getElem?_eq_getElem (show 2 < xs.length by rw [hx]; decide)] at h2
  obtain ⟨a2, r2, k2⟩ := Opens.opens (P := Try.prog) (t := 4) (α := Bool) enc w base spare held n _ _ h2 (fun m hm => hz m (by simp only [DataW.weights, Try.underlying8]; exact DataW.weights_mem_each (j := 2) (t := 4) rfl (by rw [List.getElem?_map, List.getElem?_eq_getElem (show 2 < xs.length by rw [hx]; decide)]; rfl) m hm))
  replace r2 : Dat.rep (heapOf w) ((cs.drop 2).take (Try.prog.cellsOf 4)) a2 := r2
  rw [show Try.prog.cellsOf 4 = 1 from cells_of ty4] at r2
  have h3 := hf 3 _ rfl
  rw [List.getElem?_eq_getElem (show 3 < xs.length by rw [hx]; decide)] at h3
  obtain ⟨a3, r3, k3⟩ := Opens.opens (P := Try.prog) (t := 6) (α := UInt8) enc w base spare held n _ _ h3 (fun m hm => hz m (by simp only [DataW.weights, Try.underlying8]; exact DataW.weights_mem_each (j := 3) (t := 6) rfl (by rw [List.getElem?_map, List.getElem?_eq_getElem (show 3 < xs.length by rw [hx]; decide)]; rfl) m hm))
  replace r3 : Dat.rep (heapOf w) ((cs.drop 3).take (Try.prog.cellsOf 6)) a3 := r3
  rw [show Try.prog.cellsOf 6 = 1 from cells_of ty6] at r3
  rw [List.take_of_length_le (show (cs.drop 3).length ≤ 1 by rw [List.length_drop, hl']; decide)] at r3
  exact ⟨(a0, a1, a2, a3), ⟨(cs).take 1, (cs).drop 1, (List.take_append_drop _ _).symm, (by simpa only [List.drop_drop, List.drop_zero, Nat.reduceAdd] using r0), ⟨((cs).drop 1).take 1, ((cs).drop 1).drop 1, (List.take_append_drop _ _).symm, (by simpa only [List.drop_drop, List.drop_zero, Nat.reduceAdd] using r1), ⟨(((cs).drop 1).drop 1).take 1, (((cs).drop 1).drop 1).drop 1, (List.take_append_drop _ _).symm, (by simpa only [List.drop_drop, List.drop_zero, Nat.reduceAdd] using r2), (by simpa only [List.drop_drop, List.drop_zero, Nat.reduceAdd] using r3)⟩⟩⟩, ⟨k0, k1, k2, k3⟩⟩
instance ops13 : Opens Try.prog 13 (ByteArray × UInt64) := by
  refine ⟨fun {H} enc w base spare held fuel cs x h hz => ?_⟩
  obtain ⟨xs, n, _, rfl, hl, hx, hf⟩ := DataW.trod_struct Try.underlying13 h
  have hl' : cs.length = 2 := by rw [hl]; exact cells_of ty13
  have h0 := hf 0 _ rfl
  rw [List.getElem?_eq_getElem (show 0 < xs.length by rw [hx]; decide)] at h0
  obtain ⟨a0, r0, k0⟩ := Opens.opens (P := Try.prog) (t := 9) (α := ByteArray) enc w base spare held n _ _ h0 (fun m hm => hz m (by simp only [DataW.weights, Try.underlying13]; exact DataW.weights_mem_each (j := 0) (t := 9) rfl (by rw [List.getElem?_map, List.getElem?_eq_getElem (show 0 < xs.length by rw [hx]; decide)]; rfl) m hm))
  replace r0 : Dat.rep (heapOf w) ((cs.drop 0).take (Try.prog.cellsOf 9)) a0 := r0
  rw [show Try.prog.cellsOf 9 = 1 from cells_of ty9] at r0
  have h1 := hf 1 _ rfl
  rw [List.getElem?_eq_getElem (show 1 < xs.length by rw [hx]; decide)] at h1
  obtain ⟨a1, r1, k1⟩ := Opens.opens (P := Try.prog) (t := 12) (α := UInt64) enc w base spare held n _ _ h1 (fun m hm => hz m (by simp only [DataW.weights, Try.underlying13]; exact DataW.weights_mem_each (j := 1) (t := 12) rfl (by rw [List.getElem?_map, List.getElem?_eq_getElem (show 1 < xs.length by rw [hx]; decide)]; rfl) m hm))
  replace r1 : Dat.rep (heapOf w) ((cs.drop 1).take (Try.prog.cellsOf 12)) a1 := r1
  rw [show Try.prog.cellsOf 12 = 1 from cells_of ty12] at r1
  rw [List.take_of_length_le (show (cs.drop 1).length ≤ 1 by rw [List.length_drop, hl']; decide)] at r1
  exact ⟨(a0, a1), ⟨(cs).take 1, (cs).drop 1, (List.take_append_drop _ _).symm, (by simpa only [List.drop_drop, List.drop_zero, Nat.reduceAdd] using r0), (by simpa only [List.drop_drop, List.drop_zero, Nat.reduceAdd] using r1)⟩, ⟨k0, k1⟩⟩
instance ops14 : Opens Try.prog 14 (ByteArray × UInt64) := by
  refine ⟨fun {H} enc w base spare held fuel cs x h hz => ?_⟩
  obtain ⟨xs, n, _, rfl, hl, hx, hf⟩ := DataW.trod_struct Try.underlying14 h
  have hl' : cs.length = 2 := by rw [hl]; exact cells_of ty14
  have h0 := hf 0 _ rfl
  rw [List.getElem?_eq_getElem (show 0 < xs.length by rw [hx]; decide)] at h0
  obtain ⟨a0, r0, k0⟩ := Opens.opens (P := Try.prog) (t := 9) (α := ByteArray) enc w base spare held n _ _ h0 (fun m hm => hz m (by simp only [DataW.weights, Try.underlying14]; exact DataW.weights_mem_each (j := 0) (t := 9) rfl (by rw [List.getElem?_map, List.getElem?_eq_getElem (show 0 < xs.length by rw [hx]; decide)]; rfl) m hm))
  replace r0 : Dat.rep (heapOf w) ((cs.drop 0).take (Try.prog.cellsOf 9)) a0 := r0
  rw [show Try.prog.cellsOf 9 = 1 from cells_of ty9] at r0
  have h1 := hf 1 _ rfl
  rw [List.getElem?_eq_getElem (show 1 < xs.length by rw [hx]; decide)] at h1
  obtain ⟨a1, r1, k1⟩ := Opens.opens (P := Try.prog) (t := 12) (α := UInt64) enc w base spare held n _ _ h1 (fun m hm => hz m (by simp only [DataW.weights, Try.underlying14]; exact DataW.weights_mem_each (j := 1) (t := 12) rfl (by rw [List.getElem?_map, List.getElem?_eq_getElem (show 1 < xs.length by rw [hx]; decide)]; rfl) m hm))
  replace r1 : Dat.rep (heapOf w) ((cs.drop 1).take (Try.prog.cellsOf 12)) a1 := r1
  rw [show Try.prog.cellsOf 12 = 1 from cells_of ty12] at r1
  rw [List.take_of_length_le (show (cs.drop 1).length ≤ 1 by rw [List.length_drop, hl']; decide)] at r1
  exact ⟨(a0, a1), ⟨(cs).take 1, (cs).drop 1, (List.take_append_drop _ _).symm, (by simpa only [List.drop_drop, List.drop_zero, Nat.reduceAdd] using r0), (by simpa only [List.drop_drop, List.drop_zero, Nat.reduceAdd] using r1)⟩, ⟨k0, k1⟩⟩
instance ops27 : Opens Try.prog 27 (Int × Int × Int) := by
  refine ⟨fun {H} enc w base spare held fuel cs x h hz => ?_⟩
  obtain ⟨xs, n, _, rfl, hl, hx, hf⟩ := DataW.trod_struct Try.underlying27 h
  have hl' : cs.length = 3 := by rw [hl]; exact cells_of ty27
  have h0 := hf 0 _ rfl
  rw [List.getElem?_eq_getElem (show 0 < xs.length by rw [hx]; decide)] at h0
  obtain ⟨a0, r0, k0⟩ := Opens.opens (P := Try.prog) (t := 3) (α := Int) enc w base spare held n _ _ h0 (fun m hm => hz m (by simp only [DataW.weights, Try.underlying27]; exact DataW.weights_mem_each (j := 0) (t := 3) rfl (by rw [List.getElem?_map, List.getElem?_eq_getElem (show 0 < xs.length by rw [hx]; decide)]; rfl) m hm))
  replace r0 : Dat.rep (heapOf w) ((cs.drop 0).take (Try.prog.cellsOf 3)) a0 := r0
  rw [show Try.prog.cellsOf 3 = 1 from cells_of ty3] at r0
  have h1 := hf 1 _ rfl
  rw [List.getElem?_eq_getElem (show 1 < xs.length by rw [hx]; decide)] at h1
  obtain ⟨a1, r1, k1⟩ := Opens.opens (P := Try.prog) (t := 3) (α := Int) enc w base spare held n _ _ h1 (fun m hm => hz m (by simp only [DataW.weights, Try.underlying27]; exact DataW.weights_mem_each (j := 1) (t := 3) rfl (by rw [List.getElem?_map, List.getElem?_eq_getElem (show 1 < xs.length by rw [hx]; decide)]; rfl) m hm))
  replace r1 : Dat.rep (heapOf w) ((cs.drop 1).take (Try.prog.cellsOf 3)) a1 := r1
  rw [show Try.prog.cellsOf 3 = 1 from cells_of ty3] at r1
  have h2 := hf 2 _ rfl
  rw [List.getElem?_eq_getElem (show 2 < xs.length by rw [hx]; decide)] at h2
  obtain ⟨a2, r2, k2⟩ := Opens.opens (P := Try.prog) (t := 3) (α := Int) enc w base spare held n _ _ h2 (fun m hm => hz m (by simp only [DataW.weights, Try.underlying27]; exact DataW.weights_mem_each (j := 2) (t := 3) rfl (by rw [List.getElem?_map, List.getElem?_eq_getElem (show 2 < xs.length by rw [hx]; decide)]; rfl) m hm))
  replace r2 : Dat.rep (heapOf w) ((cs.drop 2).take (Try.prog.cellsOf 3)) a2 := r2
  rw [show Try.prog.cellsOf 3 = 1 from cells_of ty3] at r2
  rw [List.take_of_length_le (show (cs.drop 2).length ≤ 1 by rw [List.length_drop, hl']; decide)] at r2
  exact ⟨(a0, a1, a2), ⟨(cs).take 1, (cs).drop 1, (List.take_append_drop _ _).symm, (by simpa only [List.drop_drop, List.drop_zero, Nat.reduceAdd] using r0), ⟨((cs).drop 1).take 1, ((cs).drop 1).drop 1, (List.take_append_drop _ _).symm, (by simpa only [List.drop_drop, List.drop_zero, Nat.reduceAdd] using r1), (by simpa only [List.drop_drop, List.drop_zero, Nat.reduceAdd] using r2)⟩⟩, ⟨k0, k1, k2⟩⟩
instance opl22 : Opens Try.prog 22 (List (Int × Int × Int)) := opSl (u := 27) rfl
instance ops26 : Opens Try.prog 26 (Int × Int × Int) := by
  refine ⟨fun {H} enc w base spare held fuel cs x h hz => ?_⟩
  obtain ⟨xs, n, _, rfl, hl, hx, hf⟩ := DataW.trod_struct Try.underlying26 h
  have hl' : cs.length = 3 := by rw [hl]; exact cells_of ty26
  have h0 := hf 0 _ rfl
  rw [List.getElem?_eq_getElem (show 0 < xs.length by rw [hx]; decide)] at h0
  obtain ⟨a0, r0, k0⟩ := Opens.opens (P := Try.prog) (t := 3) (α := Int) enc w base spare held n _ _ h0 (fun m hm => hz m (by simp only [DataW.weights, Try.underlying26]; exact DataW.weights_mem_each (j := 0) (t := 3) rfl (by rw [List.getElem?_map, List.getElem?_eq_getElem (show 0 < xs.length by rw [hx]; decide)]; rfl) m hm))
  replace r0 : Dat.rep (heapOf w) ((cs.drop 0).take (Try.prog.cellsOf 3)) a0 := r0
  rw [show Try.prog.cellsOf 3 = 1 from cells_of ty3] at r0
  have h1 := hf 1 _ rfl
  rw [List.getElem?_eq_getElem (show 1 < xs.length by rw [hx]; decide)] at h1
  obtain ⟨a1, r1, k1⟩ := Opens.opens (P := Try.prog) (t := 3) (α := Int) enc w base spare held n _ _ h1 (fun m hm => hz m (by simp only [DataW.weights, Try.underlying26]; exact DataW.weights_mem_each (j := 1) (t := 3) rfl (by rw [List.getElem?_map, List.getElem?_eq_getElem (show 1 < xs.length by rw [hx]; decide)]; rfl) m hm))
  replace r1 : Dat.rep (heapOf w) ((cs.drop 1).take (Try.prog.cellsOf 3)) a1 := r1
  rw [show Try.prog.cellsOf 3 = 1 from cells_of ty3] at r1
  have h2 := hf 2 _ rfl
  rw [List.getElem?_eq_getElem (show 2 < xs.length by rw [hx]; decide)] at h2
  obtain ⟨a2, r2, k2⟩ := Opens.opens (P := Try.prog) (t := 3) (α := Int) enc w base spare held n _ _ h2 (fun m hm => hz m (by simp only [DataW.weights, Try.underlying26]; exact DataW.weights_mem_each (j := 2) (t := 3) rfl (by rw [List.getElem?_map, List.getElem?_eq_getElem (show 2 < xs.length by rw [hx]; decide)]; rfl) m hm))
  replace r2 : Dat.rep (heapOf w) ((cs.drop 2).take (Try.prog.cellsOf 3)) a2 := r2
  rw [show Try.prog.cellsOf 3 = 1 from cells_of ty3] at r2
  rw [List.take_of_length_le (show (cs.drop 2).length ≤ 1 by rw [List.length_drop, hl']; decide)] at r2
  exact ⟨(a0, a1, a2), ⟨(cs).take 1, (cs).drop 1, (List.take_append_drop _ _).symm, (by simpa only [List.drop_drop, List.drop_zero, Nat.reduceAdd] using r0), ⟨((cs).drop 1).take 1, ((cs).drop 1).drop 1, (List.take_append_drop _ _).symm, (by simpa only [List.drop_drop, List.drop_zero, Nat.reduceAdd] using r1), (by simpa only [List.drop_drop, List.drop_zero, Nat.reduceAdd] using r2)⟩⟩, ⟨k0, k1, k2⟩⟩
instance ops41 : Opens Try.prog 41 (Bool × ByteArray) := by
  refine ⟨fun {H} enc w base spare held fuel cs x h hz => ?_⟩
  obtain ⟨xs, n, _, rfl, hl, hx, hf⟩ := DataW.trod_struct Try.underlying41 h
  have hl' : cs.length = 2 := by rw [hl]; exact cells_of ty41
  have h0 := hf 0 _ rfl
  rw [List.getElem?_eq_getElem (show 0 < xs.length by rw [hx]; decide)] at h0
  obtain ⟨a0, r0, k0⟩ := Opens.opens (P := Try.prog) (t := 4) (α := Bool) enc w base spare held n _ _ h0 (fun m hm => hz m (by simp only [DataW.weights, Try.underlying41]; exact DataW.weights_mem_each (j := 0) (t := 4) rfl (by rw [List.getElem?_map, List.getElem?_eq_getElem (show 0 < xs.length by rw [hx]; decide)]; rfl) m hm))
  replace r0 : Dat.rep (heapOf w) ((cs.drop 0).take (Try.prog.cellsOf 4)) a0 := r0
  rw [show Try.prog.cellsOf 4 = 1 from cells_of ty4] at r0
  have h1 := hf 1 _ rfl
  rw [List.getElem?_eq_getElem (show 1 < xs.length by rw [hx]; decide)] at h1
  obtain ⟨a1, r1, k1⟩ := Opens.opens (P := Try.prog) (t := 9) (α := ByteArray) enc w base spare held n _ _ h1 (fun m hm => hz m (by simp only [DataW.weights, Try.underlying41]; exact DataW.weights_mem_each (j := 1) (t := 9) rfl (by rw [List.getElem?_map, List.getElem?_eq_getElem (show 1 < xs.length by rw [hx]; decide)]; rfl) m hm))
  replace r1 : Dat.rep (heapOf w) ((cs.drop 1).take (Try.prog.cellsOf 9)) a1 := r1
  rw [show Try.prog.cellsOf 9 = 1 from cells_of ty9] at r1
  rw [List.take_of_length_le (show (cs.drop 1).length ≤ 1 by rw [List.length_drop, hl']; decide)] at r1
  exact ⟨(a0, a1), ⟨(cs).take 1, (cs).drop 1, (List.take_append_drop _ _).symm, (by simpa only [List.drop_drop, List.drop_zero, Nat.reduceAdd] using r0), (by simpa only [List.drop_drop, List.drop_zero, Nat.reduceAdd] using r1)⟩, ⟨k0, k1⟩⟩
instance opl33 : Opens Try.prog 33 (List (Bool × ByteArray)) := opSl (u := 41) rfl
instance opl34 : Opens Try.prog 34 (List (Bool × ByteArray)) := opSl (u := 41) rfl
instance ops43 : Opens Try.prog 43 (Int × ByteArray) := by
  refine ⟨fun {H} enc w base spare held fuel cs x h hz => ?_⟩
  obtain ⟨xs, n, _, rfl, hl, hx, hf⟩ := DataW.trod_struct Try.underlying43 h
  have hl' : cs.length = 2 := by rw [hl]; exact cells_of ty43
  have h0 := hf 0 _ rfl
  rw [List.getElem?_eq_getElem (show 0 < xs.length by rw [hx]; decide)] at h0
  obtain ⟨a0, r0, k0⟩ := Opens.opens (P := Try.prog) (t := 3) (α := Int) enc w base spare held n _ _ h0 (fun m hm => hz m (by simp only [DataW.weights, Try.underlying43]; exact DataW.weights_mem_each (j := 0) (t := 3) rfl (by rw [List.getElem?_map, List.getElem?_eq_getElem (show 0 < xs.length by rw [hx]; decide)]; rfl) m hm))
  replace r0 : Dat.rep (heapOf w) ((cs.drop 0).take (Try.prog.cellsOf 3)) a0 := r0
  rw [show Try.prog.cellsOf 3 = 1 from cells_of ty3] at r0
  have h1 := hf 1 _ rfl
  rw [List.getElem?_eq_getElem (show 1 < xs.length by rw [hx]; decide)] at h1
  obtain ⟨a1, r1, k1⟩ := Opens.opens (P := Try.prog) (t := 9) (α := ByteArray) enc w base spare held n _ _ h1 (fun m hm => hz m (by simp only [DataW.weights, Try.underlying43]; exact DataW.weights_mem_each (j := 1) (t := 9) rfl (by rw [List.getElem?_map, List.getElem?_eq_getElem (show 1 < xs.length by rw [hx]; decide)]; rfl) m hm))
  replace r1 : Dat.rep (heapOf w) ((cs.drop 1).take (Try.prog.cellsOf 9)) a1 := r1
  rw [show Try.prog.cellsOf 9 = 1 from cells_of ty9] at r1
  rw [List.take_of_length_le (show (cs.drop 1).length ≤ 1 by rw [List.length_drop, hl']; decide)] at r1
  exact ⟨(a0, a1), ⟨(cs).take 1, (cs).drop 1, (List.take_append_drop _ _).symm, (by simpa only [List.drop_drop, List.drop_zero, Nat.reduceAdd] using r0), (by simpa only [List.drop_drop, List.drop_zero, Nat.reduceAdd] using r1)⟩, ⟨k0, k1⟩⟩
instance opl35 : Opens Try.prog 35 (List (Int × ByteArray)) := opSl (u := 43) rfl
instance ops40 : Opens Try.prog 40 (Bool × ByteArray) := by
  refine ⟨fun {H} enc w base spare held fuel cs x h hz => ?_⟩
  obtain ⟨xs, n, _, rfl, hl, hx, hf⟩ := DataW.trod_struct Try.underlying40 h
  have hl' : cs.length = 2 := by rw [hl]; exact cells_of ty40
  have h0 := hf 0 _ rfl
  rw [List.getElem?_eq_getElem (show 0 < xs.length by rw [hx]; decide)] at h0
  obtain ⟨a0, r0, k0⟩ := Opens.opens (P := Try.prog) (t := 4) (α := Bool) enc w base spare held n _ _ h0 (fun m hm => hz m (by simp only [DataW.weights, Try.underlying40]; exact DataW.weights_mem_each (j := 0) (t := 4) rfl (by rw [List.getElem?_map, List.getElem?_eq_getElem (show 0 < xs.length by rw [hx]; decide)]; rfl) m hm))
  replace r0 : Dat.rep (heapOf w) ((cs.drop 0).take (Try.prog.cellsOf 4)) a0 := r0
  rw [show Try.prog.cellsOf 4 = 1 from cells_of ty4] at r0
  have h1 := hf 1 _ rfl
  rw [List.getElem?_eq_getElem (show 1 < xs.length by rw [hx]; decide)] at h1
  obtain ⟨a1, r1, k1⟩ := Opens.opens (P := Try.prog) (t := 9) (α := ByteArray) enc w base spare held n _ _ h1 (fun m hm => hz m (by simp only [DataW.weights, Try.underlying40]; exact DataW.weights_mem_each (j := 1) (t := 9) rfl (by rw [List.getElem?_map, List.getElem?_eq_getElem (show 1 < xs.length by rw [hx]; decide)]; rfl) m hm))
  replace r1 : Dat.rep (heapOf w) ((cs.drop 1).take (Try.prog.cellsOf 9)) a1 := r1
  rw [show Try.prog.cellsOf 9 = 1 from cells_of ty9] at r1
  rw [List.take_of_length_le (show (cs.drop 1).length ≤ 1 by rw [List.length_drop, hl']; decide)] at r1
  exact ⟨(a0, a1), ⟨(cs).take 1, (cs).drop 1, (List.take_append_drop _ _).symm, (by simpa only [List.drop_drop, List.drop_zero, Nat.reduceAdd] using r0), (by simpa only [List.drop_drop, List.drop_zero, Nat.reduceAdd] using r1)⟩, ⟨k0, k1⟩⟩
instance ops42 : Opens Try.prog 42 (Int × ByteArray) := by
  refine ⟨fun {H} enc w base spare held fuel cs x h hz => ?_⟩
  obtain ⟨xs, n, _, rfl, hl, hx, hf⟩ := DataW.trod_struct Try.underlying42 h
  have hl' : cs.length = 2 := by rw [hl]; exact cells_of ty42
  have h0 := hf 0 _ rfl
  rw [List.getElem?_eq_getElem (show 0 < xs.length by rw [hx]; decide)] at h0
  obtain ⟨a0, r0, k0⟩ := Opens.opens (P := Try.prog) (t := 3) (α := Int) enc w base spare held n _ _ h0 (fun m hm => hz m (by simp only [DataW.weights, Try.underlying42]; exact DataW.weights_mem_each (j := 0) (t := 3) rfl (by rw [List.getElem?_map, List.getElem?_eq_getElem (show 0 < xs.length by rw [hx]; decide)]; rfl) m hm))
  replace r0 : Dat.rep (heapOf w) ((cs.drop 0).take (Try.prog.cellsOf 3)) a0 := r0
  rw [show Try.prog.cellsOf 3 = 1 from cells_of ty3] at r0
  have h1 := hf 1 _ rfl
  rw [List.getElem?_eq_getElem (show 1 < xs.length by rw [hx]; decide)] at h1
  obtain ⟨a1, r1, k1⟩ := Opens.opens (P := Try.prog) (t := 9) (α := ByteArray) enc w base spare held n _ _ h1 (fun m hm => hz m (by simp only [DataW.weights, Try.underlying42]; exact DataW.weights_mem_each (j := 1) (t := 9) rfl (by rw [List.getElem?_map, List.getElem?_eq_getElem (show 1 < xs.length by rw [hx]; decide)]; rfl) m hm))
  replace r1 : Dat.rep (heapOf w) ((cs.drop 1).take (Try.prog.cellsOf 9)) a1 := r1
  rw [show Try.prog.cellsOf 9 = 1 from cells_of ty9] at r1
  rw [List.take_of_length_le (show (cs.drop 1).length ≤ 1 by rw [List.length_drop, hl']; decide)] at r1
  exact ⟨(a0, a1), ⟨(cs).take 1, (cs).drop 1, (List.take_append_drop _ _).symm, (by simpa only [List.drop_drop, List.drop_zero, Nat.reduceAdd] using r0), (by simpa only [List.drop_drop, List.drop_zero, Nat.reduceAdd] using r1)⟩, ⟨k0, k1⟩⟩
instance opl50 : Opens Try.prog 50 (List ByteArray) := opSl (u := 9) rfl
instance opl76 : Opens Try.prog 76 (List UInt8) := opSl (u := 5) rfl
instance opl85 : Opens Try.prog 85 (List (List (Int × Int × Int))) := opSl (u := 22) rfl
end Go.Proofs.Ytcbnamlioeiaeaa.FW
