/- printed by ex.py: plain functions -/
import Derived.Test.YtcbnamlioeiaeaaP2
namespace Go.Proofs.Ytcbnamlioeiaeaa.FW
set_option linter.unusedVariables false
noncomputable section
def winnowerlaw14_wide_l0 (t : List (Bool × ByteArray)) (n : Int) (i : Int) : Option ((Int × Int) ⊕ ((Bool) ⊕ (Unit))) :=
  if i < ((t.length : Nat) : Int) then (at? t i).bind fun x => if w64 (w64 (n + 1) + ((x.2.size : Nat) : Int)) > 1500 then some (.inr (.inl true)) else some (.inl (w64 (w64 (n + 1) + ((x.2.size : Nat) : Int)), w64 (i + 1))) else some (.inr (.inr ()))
def winnowerlaw14_wide (t : List (Bool × ByteArray)) : Option (Bool) :=
  (loopM (fun (n, i) => winnowerlaw14_wide_l0 t n i) (0, 0)).bind (Sum.elim (fun r => some r) (fun (_ : Unit) => some false))
def winnowerlaw14_long_l0 (l : List (Int × ByteArray)) (n : Int) (i : Int) : Option ((Int × Int) ⊕ ((Bool) ⊕ (Unit))) :=
  if i < ((l.length : Nat) : Int) then (at? l i).bind fun x => if w64 (w64 (n + 1) + ((x.2.size : Nat) : Int)) > 1500 then some (.inr (.inl true)) else some (.inl (w64 (w64 (n + 1) + ((x.2.size : Nat) : Int)), w64 (i + 1))) else some (.inr (.inr ()))
def winnowerlaw14_long (l : List (Int × ByteArray)) : Option (Bool) :=
  (loopM (fun (n, i) => winnowerlaw14_long_l0 l n i) (0, 0)).bind (Sum.elim (fun r => some r) (fun (_ : Unit) => some false))
def winnowerref14_Same_l0 (a : List (Bool × ByteArray)) (b : List (Bool × ByteArray)) (i : Int) : Option ((Int) ⊕ ((Bool) ⊕ (Unit))) :=
  if i < ((a.length : Nat) : Int) then (at? a i).bind fun x => (at? b i).bind fun x1 => if (!(x.1 == x1.1)) = true then some (.inr (.inl false)) else if x.2 ≠ x1.2 then some (.inr (.inl false)) else some (.inl (w64 (i + 1))) else some (.inr (.inr ()))
def winnowerref14_Same (a : List (Bool × ByteArray)) (b : List (Bool × ByteArray)) : Option (Bool) :=
  if ((a.length : Nat) : Int) ≠ ((b.length : Nat) : Int) then some false else (loopM (fun i => winnowerref14_Same_l0 a b i) 0).bind (Sum.elim (fun r => some r) (fun (_ : Unit) => some true))
def part_Wild_l0 (t : List (Bool × ByteArray)) (n : Int) (v : Int) : Option ((Int × Int) ⊕ (Int)) :=
  if v < ((t.length : Nat) : Int) then (at? t v).bind fun x => if x.1 = true then some (.inl (w64 (n + 1), w64 (v + 1))) else some (.inl (n, w64 (v + 1))) else some (.inr n)
def part_Wild (t : List (Bool × ByteArray)) : Option (Int) :=
  (loopM (fun (n, v) => part_Wild_l0 t n v) (0, 0)).bind (fun n1 => some n1)
def winnowerref14_Alike_l0 (t : List (Bool × ByteArray)) (l : List (Int × ByteArray)) (n : Int) (i : Int) : Option ((Int × Int) ⊕ (Int)) :=
  if i < ((t.length : Nat) : Int) then (at? t i).bind fun x => if x.1 = true then some (.inl (w64 (n + 1), w64 (i + 1))) else (at? l i).bind fun x1 => if x.2 = x1.2 then some (.inl (w64 (n + 1), w64 (i + 1))) else some (.inl (n, w64 (i + 1))) else some (.inr n)
def winnowerref14_Alike (t : List (Bool × ByteArray)) (l : List (Int × ByteArray)) : Option (Int) :=
  if ((t.length : Nat) : Int) ≠ ((l.length : Nat) : Int) then some (-1) else (loopM (fun (n, i) => winnowerref14_Alike_l0 t l n i) (0, 0)).bind (fun n1 => some n1)
def winnowerref14_Merge_l0 (t : List (Bool × ByteArray)) (l : List (Int × ByteArray)) (m : List (Bool × ByteArray)) (i : Int) : Option (((List (Bool × ByteArray)) × Int) ⊕ ((List (Bool × ByteArray)))) :=
  if i < ((t.length : Nat) : Int) then (at? t i).bind fun x => if x.1 = true then (app? 24 m ([(true, ByteArray.empty)] : List (Bool × ByteArray))).bind fun q => some (.inl (q, w64 (i + 1))) else if i < ((l.length : Nat) : Int) then (at? l i).bind fun x1 => if x.2 ≠ x1.2 then (app? 24 m ([(true, ByteArray.empty)] : List (Bool × ByteArray))).bind fun q1 => some (.inl (q1, w64 (i + 1))) else (app? 24 m ([(x.1, x.2)] : List (Bool × ByteArray))).bind fun q2 => some (.inl (q2, w64 (i + 1))) else (app? 24 m ([(x.1, x.2)] : List (Bool × ByteArray))).bind fun q3 => some (.inl (q3, w64 (i + 1))) else some (.inr m)
def winnowerref14_Merge (t : List (Bool × ByteArray)) (l : List (Int × ByteArray)) : Option ((List (Bool × ByteArray))) :=
  (loopM (fun (m, i) => winnowerref14_Merge_l0 t l m i) (([] : List (Bool × ByteArray)), 0)).bind (fun m1 => some m1)
def winnowerlaw14_texts_l0 (a : List ByteArray) (b : List ByteArray) (i : Int) : Option ((Int) ⊕ ((Bool) ⊕ (Unit))) :=
  if i < ((a.length : Nat) : Int) then (at? a i).bind fun x => (at? b i).bind fun x1 => if x ≠ x1 then some (.inr (.inl false)) else some (.inl (w64 (i + 1))) else some (.inr (.inr ()))
def winnowerlaw14_texts (a : List ByteArray) (b : List ByteArray) : Option (Bool) :=
  if ((a.length : Nat) : Int) ≠ ((b.length : Nat) : Int) then some false else (loopM (fun i => winnowerlaw14_texts_l0 a b i) 0).bind (Sum.elim (fun r => some r) (fun (_ : Unit) => some true))
def part_Vars_l0 (t : List (Bool × ByteArray)) (tokens : List (Int × ByteArray)) (l : List ByteArray) (v : Int) : Option (((List ByteArray) × Int) ⊕ ((List ByteArray))) :=
  if v < ((t.length : Nat) : Int) then (at? t v).bind fun x => if x.1 = true then if v < ((tokens.length : Nat) : Int) then (at? tokens v).bind fun x1 => (app? 16 l ([x1.2] : List ByteArray)).bind fun q => some (.inl (q, w64 (v + 1))) else some (.inl (l, w64 (v + 1))) else some (.inl (l, w64 (v + 1))) else some (.inr l)
def part_Vars (t : List (Bool × ByteArray)) (tokens : List (Int × ByteArray)) : Option ((List ByteArray)) :=
  (loopM (fun (l, v) => part_Vars_l0 t tokens l v) (([] : List ByteArray), 0)).bind (fun l1 => some l1)
def winnowerref14_Vars_l0 (t : List (Bool × ByteArray)) (l : List (Int × ByteArray)) (v : List ByteArray) (i : Int) : Option (((List ByteArray) × Int) ⊕ ((List ByteArray))) :=
  if i < ((t.length : Nat) : Int) then if i < ((l.length : Nat) : Int) then (at? t i).bind fun x => if x.1 = true then (at? l i).bind fun x1 => (app? 16 v ([x1.2] : List ByteArray)).bind fun q => some (.inl (q, w64 (i + 1))) else some (.inl (v, w64 (i + 1))) else some (.inr v) else some (.inr v)
def winnowerref14_Vars (t : List (Bool × ByteArray)) (l : List (Int × ByteArray)) : Option ((List ByteArray)) :=
  (loopM (fun (v, i) => winnowerref14_Vars_l0 t l v i) (([] : List ByteArray), 0)).bind (fun v1 => some v1)
def winnowerref14_Wild_l0 (t : List (Bool × ByteArray)) (n : Int) (i : Int) : Option ((Int × Int) ⊕ (Int)) :=
  if i < ((t.length : Nat) : Int) then (at? t i).bind fun x => if x.1 = true then some (.inl (w64 (n + 1), w64 (i + 1))) else some (.inl (n, w64 (i + 1))) else some (.inr n)
def winnowerref14_Wild (t : List (Bool × ByteArray)) : Option (Int) :=
  (loopM (fun (n, i) => winnowerref14_Wild_l0 t n i) (0, 0)).bind (fun n1 => some n1)
def winnowerref13_Join_l0 (l : List (Int × ByteArray)) (s : ByteArray) (i : Int) : Option ((ByteArray × Int) ⊕ (ByteArray)) :=
  if i < ((l.length : Nat) : Int) then (at? l i).bind fun x => (cat? s x.2).bind fun q => some (.inl (q, w64 (i + 1))) else some (.inr s)
def winnowerref13_Join (l : List (Int × ByteArray)) : Option (ByteArray) :=
  (loopM (fun (s, i) => winnowerref13_Join_l0 l s i) ((⟨#[]⟩ : ByteArray), 0)).bind (fun s1 => some s1)
def slices_Clone_Part (p0 : List (Bool × ByteArray)) : Option (List (Bool × ByteArray)) := app? 24 [] p0
def part_is (p : Bool × ByteArray) (x : Int × ByteArray) : Option (Bool) :=
  if p.1 = true then some true else some (decide (p.2 = x.2))
def strings_Builder_String (b : List UInt8) : Option (ByteArray) :=
  some (strOf b)
def part_isAny (kind : Int) : Option (Bool) :=
  if kind = 0 then some true else if kind = 1 then some true else if kind = 2 then some true else if kind = 3 then some true else if kind = 4 then some true else if kind = 5 then some true else some false
def winnowerref14_Varies (kind : Int) : Option (Bool) :=
  if kind ≥ 0 then some (decide (kind ≤ 5)) else some false
def slices_Equal_Part_l0 (s : List (Bool × ByteArray)) (s1 : List (Bool × ByteArray)) (v : Int) : Option ((Int) ⊕ ((Bool) ⊕ (Unit))) :=
  if v < ((s.length : Nat) : Int) then (at? s v).bind fun x => (at? s1 v).bind fun x1 => if (x.1, x.2) ≠ (x1.1, x1.2) then some (.inr (.inl false)) else some (.inl (w64 (v + 1))) else some (.inr (.inr ()))
def slices_Equal_Part (s : List (Bool × ByteArray)) (s1 : List (Bool × ByteArray)) : Option (Bool) :=
  if ((s.length : Nat) : Int) ≠ ((s1.length : Nat) : Int) then some false else (loopM (fun v => slices_Equal_Part_l0 s s1 v) 0).bind (Sum.elim (fun r => some r) (fun (_ : Unit) => some true))
def strings_Builder_copyCheck (b : List UInt8) : Option ((List UInt8)) :=
  some b
def part_Merge_l0 (tokens : List (Int × ByteArray)) (y : List (Bool × ByteArray)) (v : Int) (l : List (Bool × ByteArray)) : Option ((Int × (List (Bool × ByteArray))) ⊕ ((List (Bool × ByteArray)))) :=
  if v < ((y.length : Nat) : Int) then (at? l v).bind fun x => if x.1 = true then (set? l v (true, ByteArray.empty)).bind fun q => some (.inl (w64 (v + 1), q)) else if v < ((tokens.length : Nat) : Int) then (at? tokens v).bind fun x1 => (part_is (x.1, x.2) (x1.1, x1.2)).bind fun y1 => if y1 = true then some (.inl (w64 (v + 1), l)) else (set? l v (true, ByteArray.empty)).bind fun q1 => some (.inl (w64 (v + 1), q1)) else some (.inl (w64 (v + 1), l)) else some (.inr l)
def part_Merge (t : List (Bool × ByteArray)) (tokens : List (Int × ByteArray)) : Option ((List (Bool × ByteArray))) :=
  (slices_Clone_Part t).bind fun y => (loopM (fun (v, l) => part_Merge_l0 tokens y v l) (0, y)).bind (fun l1 => some l1)
def winnowerref14_Render_l0 (t : List (Bool × ByteArray)) (vars : List ByteArray) (s : ByteArray) (k : Int) (i : Int) : Option ((ByteArray × Int × Int) ⊕ (ByteArray)) :=
  if i < ((t.length : Nat) : Int) then (at? t i).bind fun x => if x.1 = true then (at? vars k).bind fun x1 => (cat? s x1).bind fun q => some (.inl (q, w64 (k + 1), w64 (i + 1))) else (cat? s x.2).bind fun q1 => some (.inl (q1, k, w64 (i + 1))) else some (.inr s)
def winnowerref14_Render (t : List (Bool × ByteArray)) (vars : List ByteArray) : Option (ByteArray × Int) :=
  (winnowerref14_Wild t).bind fun y => if ((vars.length : Nat) : Int) ≠ y then some ((⟨#[]⟩ : ByteArray), 1) else (loopM (fun (s, k, i) => winnowerref14_Render_l0 t vars s k i) ((⟨#[]⟩ : ByteArray), 0, 0)).bind (fun s1 => some (s1, 0))
def part_Of_l0 (tokens : List (Int × ByteArray)) (t : List (Bool × ByteArray)) (v : Int) : Option (((List (Bool × ByteArray)) × Int) ⊕ ((List (Bool × ByteArray)))) :=
  if v < ((tokens.length : Nat) : Int) then (at? tokens v).bind fun x => (part_isAny x.1).bind fun y => if y = true then (app? 24 t ([(true, ByteArray.empty)] : List (Bool × ByteArray))).bind fun q => some (.inl (q, w64 (v + 1))) else (app? 24 t ([(false, x.2)] : List (Bool × ByteArray))).bind fun q1 => some (.inl (q1, w64 (v + 1))) else some (.inr t)
def part_Of (tokens : List (Int × ByteArray)) : Option ((List (Bool × ByteArray))) :=
  (loopM (fun (t, v) => part_Of_l0 tokens t v) (([] : List (Bool × ByteArray)), 0)).bind (fun t1 => some t1)
def winnowerref14_Of_l0 (l : List (Int × ByteArray)) (t : List (Bool × ByteArray)) (i : Int) : Option (((List (Bool × ByteArray)) × Int) ⊕ ((List (Bool × ByteArray)))) :=
  if i < ((l.length : Nat) : Int) then (at? l i).bind fun x => (winnowerref14_Varies x.1).bind fun y => if y = true then (app? 24 t ([(true, ByteArray.empty)] : List (Bool × ByteArray))).bind fun q => some (.inl (q, w64 (i + 1))) else (app? 24 t ([(false, x.2)] : List (Bool × ByteArray))).bind fun q1 => some (.inl (q1, w64 (i + 1))) else some (.inr t)
def winnowerref14_Of (l : List (Int × ByteArray)) : Option ((List (Bool × ByteArray))) :=
  (loopM (fun (t, i) => winnowerref14_Of_l0 l t i) (([] : List (Bool × ByteArray)), 0)).bind (fun t1 => some t1)
def part_Alike_l0 (t : List (Bool × ByteArray)) (tokens : List (Int × ByteArray)) (n : Int) (v : Int) : Option ((Int × Int) ⊕ (Int)) :=
  if v < ((t.length : Nat) : Int) then (at? t v).bind fun x => (at? tokens v).bind fun x1 => (part_is (x.1, x.2) (x1.1, x1.2)).bind fun y => if y = true then some (.inl (w64 (n + 1), w64 (v + 1))) else some (.inl (n, w64 (v + 1))) else some (.inr n)
def part_Alike (t : List (Bool × ByteArray)) (tokens : List (Int × ByteArray)) : Option (Int) :=
  if ((t.length : Nat) : Int) ≠ ((tokens.length : Nat) : Int) then some (-1) else (loopM (fun (n, v) => part_Alike_l0 t tokens n v) (0, 0)).bind (fun n1 => some n1)
def part_Same (a : List (Bool × ByteArray)) (b : List (Bool × ByteArray)) : Option (Bool) :=
  (slices_Equal_Part a b).bind fun y => some y
def strings_Builder_WriteString (b : List UInt8) (s : ByteArray) : Option ((List UInt8) × Int) :=
  (strings_Builder_copyCheck b).bind fun y => (app? 1 y s.data.toList).bind fun q => some (q, ((s.size : Nat) : Int))
def part_Fits (t : List (Bool × ByteArray)) (tokens : List (Int × ByteArray)) : Option (Bool) :=
  (part_Alike t tokens).bind fun y => some (decide (y = ((t.length : Nat) : Int)))
def winnowerlaw14_known  : Option (Bool) :=
  (part_Of ([(6, (⟨#[117, 112]⟩ : ByteArray)), (4, (⟨#[51]⟩ : ByteArray))] : List (Int × ByteArray))).bind fun y => if ((y.length : Nat) : Int) = 2 then (at? y 0).bind fun x => if x.2 = (⟨#[117, 112]⟩ : ByteArray) then (at? y 1).bind fun x1 => if x1.1 = true then (part_Wild y).bind fun y1 => if y1 = 1 then (part_Fits y ([(6, (⟨#[117, 112]⟩ : ByteArray)), (4, (⟨#[51]⟩ : ByteArray))] : List (Int × ByteArray))).bind fun y2 => some y2 else some false else some false else some false else some false
def part_Render_l0 (t : List (Bool × ByteArray)) (vars : List ByteArray) (v : Int) (f : List UInt8) : Option (((List ByteArray) × Int × (List UInt8)) ⊕ ((List UInt8))) :=
  if v < ((t.length : Nat) : Int) then (at? t v).bind fun x => if x.1 = true then (at? vars 0).bind fun x1 => (strings_Builder_WriteString f x1).bind fun y => (sub? vars 1 ((vars.length : Nat) : Int)).bind fun q => some (.inl (q, w64 (v + 1), y.1)) else (strings_Builder_WriteString f x.2).bind fun y1 => some (.inl (vars, w64 (v + 1), y1.1)) else some (.inr f)
def part_Render (t : List (Bool × ByteArray)) (vars : List ByteArray) : Option (ByteArray × Int) :=
  (part_Wild t).bind fun y => if ((vars.length : Nat) : Int) ≠ y then some ((⟨#[]⟩ : ByteArray), 1) else (loopM (fun (vars1, v, f) => part_Render_l0 t vars1 v f) (vars, 0, ([] : List UInt8))).bind (fun f1 => (strings_Builder_String f1).bind fun y1 => some (y1, 0))
def winnowerlaw14_PartMerges_l0 (t : List (Bool × ByteArray)) (l : List (Int × ByteArray)) (y : (List (Bool × ByteArray))) (i : Int) : Option ((Int) ⊕ ((Bool) ⊕ (Unit))) :=
  if i < ((t.length : Nat) : Int) then (at? y i).bind fun x => (at? t i).bind fun x1 => if x1.1 = true then if (!(x.1 == true)) = true then some (.inr (.inl false)) else if x.1 = true then if x.2 ≠ (⟨#[]⟩ : ByteArray) then some (.inr (.inl false)) else some (.inl (w64 (i + 1))) else some (.inl (w64 (i + 1))) else (at? l i).bind fun x2 => if (!(x.1 == decide (x1.2 ≠ x2.2))) = true then some (.inr (.inl false)) else if x.1 = true then if x.2 ≠ (⟨#[]⟩ : ByteArray) then some (.inr (.inl false)) else some (.inl (w64 (i + 1))) else some (.inl (w64 (i + 1))) else some (.inr (.inr ()))
def winnowerlaw14_PartMerges (t : List (Bool × ByteArray)) (l : List (Int × ByteArray)) (m : List (Int × ByteArray)) : Option (Bool) :=
  (winnowerlaw14_wide t).bind fun y => if y = true then some true else (winnowerlaw14_long l).bind fun y1 => if y1 = true then some true else (winnowerlaw14_long m).bind fun y2 => if y2 = true then some true else if ((t.length : Nat) : Int) ≠ ((l.length : Nat) : Int) then some true else (part_Merge t l).bind fun y3 => (part_Fits y3 l).bind fun y4 => if y4 = true then (part_Fits t m).bind fun y5 => if y5 = true then (part_Fits y3 m).bind fun y6 => if y6 = true then if ((y3.length : Nat) : Int) ≠ ((t.length : Nat) : Int) then some false else (loopM (fun i => winnowerlaw14_PartMerges_l0 t l y3 i) 0).bind (Sum.elim (fun r => some r) (fun (_ : Unit) => (part_Merge y3 l).bind fun y7 => (winnowerref14_Same y7 y3).bind fun y8 => if y8 = true then (winnowerlaw14_known).bind fun y9 => some y9 else some false)) else some false else if ((y3.length : Nat) : Int) ≠ ((t.length : Nat) : Int) then some false else (loopM (fun i1 => winnowerlaw14_PartMerges_l0 t l y3 i1) 0).bind (Sum.elim (fun r => some r) (fun (_ : Unit) => (part_Merge y3 l).bind fun y10 => (winnowerref14_Same y10 y3).bind fun y11 => if y11 = true then (winnowerlaw14_known).bind fun y12 => some y12 else some false)) else some false
def winnowerlaw14_PartWilder (t : List (Bool × ByteArray)) (a : List (Int × ByteArray)) (b : List (Int × ByteArray)) : Option (Bool) :=
  (winnowerlaw14_wide t).bind fun y => if y = true then some true else (winnowerlaw14_long a).bind fun y1 => if y1 = true then some true else (winnowerlaw14_long b).bind fun y2 => if y2 = true then some true else if ((a.length : Nat) : Int) ≠ ((t.length : Nat) : Int) then some true else if ((b.length : Nat) : Int) ≠ ((t.length : Nat) : Int) then some true else (part_Merge t a).bind fun y3 => (part_Merge y3 b).bind fun y4 => (part_Merge t b).bind fun y5 => (part_Merge y5 a).bind fun y6 => (part_Wild y4).bind fun y7 => (part_Merge t a).bind fun y8 => (part_Wild y8).bind fun y9 => if y7 ≥ y9 then (part_Merge t a).bind fun y10 => (part_Wild y10).bind fun y11 => (part_Wild t).bind fun y12 => if y11 ≥ y12 then (winnowerref14_Same y4 y6).bind fun y13 => if y13 = true then (winnowerlaw14_known).bind fun y14 => some y14 else some false else some false else some false
def winnowerlaw14_PartRenders (t : List (Bool × ByteArray)) (vars : List ByteArray) : Option (Bool) :=
  (winnowerlaw14_wide t).bind fun y => if y = true then some true else if ((vars.length : Nat) : Int) > 100 then some true else (part_Render t vars).bind fun y1 => (winnowerref14_Render t vars).bind fun y2 => if y1.1 = y2.1 then if y1.2 = y2.2 then (winnowerlaw14_known).bind fun y3 => some y3 else some false else some false
def winnowerlaw14_PartTells (t : List (Bool × ByteArray)) (l : List (Int × ByteArray)) (b : List (Bool × ByteArray)) : Option (Bool) :=
  (winnowerlaw14_wide t).bind fun y => if y = true then some true else (winnowerlaw14_wide b).bind fun y1 => if y1 = true then some true else (winnowerlaw14_long l).bind fun y2 => if y2 = true then some true else (winnowerref14_Alike t l).bind fun y3 => (part_Of l).bind fun y4 => (winnowerref14_Of l).bind fun y5 => (winnowerref14_Same y4 y5).bind fun y6 => if y6 = true then (part_Alike t l).bind fun y7 => if y7 = y3 then (part_Fits t l).bind fun y8 => if y3 = ((t.length : Nat) : Int) then if (y8 == decide (y3 ≥ 0)) = true then (part_Merge t l).bind fun y9 => (winnowerref14_Merge t l).bind fun y10 => (winnowerref14_Same y9 y10).bind fun y11 => if y11 = true then (part_Vars t l).bind fun y12 => (winnowerref14_Vars t l).bind fun y13 => (winnowerlaw14_texts y12 y13).bind fun y14 => if y14 = true then (part_Wild t).bind fun y15 => (winnowerref14_Wild t).bind fun y16 => if y15 = y16 then (part_Same t b).bind fun y17 => (winnowerref14_Same t b).bind fun y18 => if (y17 == y18) = true then (part_Same t t).bind fun y19 => if y19 = true then (winnowerlaw14_known).bind fun y20 => some y20 else some false else some false else some false else some false else some false else some false else if (y8 == false) = true then (part_Merge t l).bind fun y21 => (winnowerref14_Merge t l).bind fun y22 => (winnowerref14_Same y21 y22).bind fun y23 => if y23 = true then (part_Vars t l).bind fun y24 => (winnowerref14_Vars t l).bind fun y25 => (winnowerlaw14_texts y24 y25).bind fun y26 => if y26 = true then (part_Wild t).bind fun y27 => (winnowerref14_Wild t).bind fun y28 => if y27 = y28 then (part_Same t b).bind fun y29 => (winnowerref14_Same t b).bind fun y30 => if (y29 == y30) = true then (part_Same t t).bind fun y31 => if y31 = true then (winnowerlaw14_known).bind fun y32 => some y32 else some false else some false else some false else some false else some false else some false else some false else some false
def winnowerlaw14_PartBack (t : List (Bool × ByteArray)) (l : List (Int × ByteArray)) : Option (Bool) :=
  (winnowerlaw14_wide t).bind fun y => if y = true then some true else (winnowerlaw14_long l).bind fun y1 => if y1 = true then some true else (part_Of l).bind fun y2 => (part_Vars y2 l).bind fun y3 => (part_Render y2 y3).bind fun y4 => (part_Fits y2 l).bind fun y5 => if y5 = true then (winnowerref13_Join l).bind fun y6 => if y4.1 ≠ y6 then some false else if y4.2 ≠ 0 then some false else (winnowerref14_Alike t l).bind fun y7 => if y7 ≠ ((t.length : Nat) : Int) then (winnowerlaw14_known).bind fun y8 => some y8 else if ((t.length : Nat) : Int) ≠ ((l.length : Nat) : Int) then (winnowerlaw14_known).bind fun y9 => some y9 else (part_Vars t l).bind fun y10 => (part_Render t y10).bind fun y11 => (winnowerref13_Join l).bind fun y12 => if y11.1 = y12 then if y11.2 = 0 then (winnowerlaw14_known).bind fun y13 => some y13 else some false else some false else some false
end
end Go.Proofs.Ytcbnamlioeiaeaa.FW
