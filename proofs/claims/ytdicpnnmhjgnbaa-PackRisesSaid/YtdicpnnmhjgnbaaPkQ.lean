/- printed by ex.py: plain functions -/
import Derived.Test.YtdicpnnmhjgnbaaOcQ
import Derived.Test.YtdicpnnmhjgnbaaP2
namespace Go.Proofs.Ytdicpnnmhjgnbaa.FW
set_option linter.unusedVariables false
noncomputable section
def winnowerlaw16_numbers_l0 (a : List Int) (b : List Int) (i : Int) : Option ((Int) ⊕ ((Bool) ⊕ (Unit))) :=
  if i < ((a.length : Nat) : Int) then (at? a i).bind fun x => (at? b i).bind fun x1 => if x ≠ x1 then some (.inr (.inl false)) else some (.inl (w64 (i + 1))) else some (.inr (.inr ()))
def winnowerlaw16_numbers (a : List Int) (b : List Int) : Option (Bool) :=
  if ((a.length : Nat) : Int) ≠ ((b.length : Nat) : Int) then some false else (loopM (fun i => winnowerlaw16_numbers_l0 a b i) 0).bind (Sum.elim (fun r => some r) (fun (_ : Unit) => some true))
def winnowerref16_may_l0 (l : List Int) (i : Int) : Option ((Int) ⊕ ((Bool) ⊕ (Unit))) :=
  if i < ((l.length : Nat) : Int) then (at? l i).bind fun x => if x < 0 then some (.inr (.inl false)) else if x > 1099511627776 then some (.inr (.inl false)) else some (.inl (w64 (i + 1))) else some (.inr (.inr ()))
def winnowerref16_may (l : List Int) : Option (Bool) :=
  (loopM (fun i => winnowerref16_may_l0 l i) 0).bind (Sum.elim (fun r => some r) (fun (_ : Unit) => some (decide (((l.length : Nat) : Int) ≤ 32768))))
def bytes_Equal (a : List UInt8) (b : List UInt8) : Option (Bool) :=
  some (decide ((strOf a) = (strOf b)))
def winnowerref16_deltas_l0 (l : List Int) (out : List Int) (last : Int) (i : Int) : Option (((List Int) × Int × Int) ⊕ (((List Int)) ⊕ ((List Int)))) :=
  if i < ((l.length : Nat) : Int) then (at? l i).bind fun x => if (iand x 1) = 0 then (quo? x 2).bind fun q => if w64 (last + q) < 0 then some (.inr (.inl [])) else if w64 (last + q) > 1099511627776 then some (.inr (.inl [])) else (app? 8 out ([w64 (last + q)] : List Int)).bind fun q1 => some (.inl (q1, w64 (last + q), w64 (i + 1))) else (quo? x 2).bind fun q2 => if w64 (w64 (last - q2) - 1) < 0 then some (.inr (.inl [])) else if w64 (w64 (last - q2) - 1) > 1099511627776 then some (.inr (.inl [])) else (app? 8 out ([w64 (w64 (last - q2) - 1)] : List Int)).bind fun q3 => some (.inl (q3, w64 (w64 (last - q2) - 1), w64 (i + 1))) else some (.inr (.inr out))
def winnowerref16_deltas (l : List Int) : Option ((List Int)) :=
  (loopM (fun (out, last, i) => winnowerref16_deltas_l0 l out last i) (([] : List Int), 0, 0)).bind (Sum.elim (fun r => some r) (fun out1 => some out1))
def winnowerref16_runs_l0 (l : List Int) (i : Int) (x : Int) (out : List Int) (k : Int) : Option (((List Int) × Int) ⊕ ((List Int))) :=
  if k < x then (at? l (w64 (i + 1))).bind fun x1 => (app? 8 out ([x1] : List Int)).bind fun q => some (.inl (q, w64 (k + 1))) else some (.inr out)
def winnowerref16_runs_l1 (l : List Int) (out : List Int) (i : Int) : Option (((List Int) × Int) ⊕ (((List Int) × Bool) ⊕ ((List Int)))) :=
  if w64 (i + 1) < ((l.length : Nat) : Int) then (at? l i).bind fun x => if x > 32768 then some (.inr (.inl ([], false))) else if w64 (((out.length : Nat) : Int) + x) > 32768 then some (.inr (.inl ([], false))) else (loopM (fun (out1, k) => winnowerref16_runs_l0 l i x out1 k) (out, 0)).bind (fun out2 => some (.inl (out2, w64 (i + 2)))) else some (.inr (.inr out))
def winnowerref16_runs (l : List Int) : Option ((List Int) × Bool) :=
  (loopM (fun (out, i) => winnowerref16_runs_l1 l out i) (([] : List Int), 0)).bind (Sum.elim (fun r => some r) (fun out1 => some (out1, true)))
def pack_may_l0 (l : List Int) (v : Int) : Option ((Int) ⊕ ((Bool) ⊕ (Unit))) :=
  if v < ((l.length : Nat) : Int) then (at? l v).bind fun x => if x < 0 then some (.inr (.inl false)) else if x > 1099511627776 then some (.inr (.inl false)) else some (.inl (w64 (v + 1))) else some (.inr (.inr ()))
def pack_may (l : List Int) : Option (Bool) :=
  if ((l.length : Nat) : Int) > 32768 then some false else (loopM (fun v => pack_may_l0 l v) 0).bind (Sum.elim (fun r => some r) (fun (_ : Unit) => some true))
def pack_turned (n : Int) : Option (Int) :=
  if n < 0 then some (w64 (w64 ((-2) * n) - 1)) else some (w64 (2 * n))
def pack_takeRuns_l0 (y : ((List UInt8) × Bool) × Int) (y1 : ((List UInt8) × Bool) × Int) (l : List Int) (v : Int) : Option (((List Int) × Int) ⊕ ((List Int))) :=
  if v < y.2 then (app? 8 l ([y1.2] : List Int)).bind fun q => some (.inl (q, w64 (v + 1))) else some (.inr l)
def pack_takeRuns_l1 (n : Int) (l : List Int) (v : Int) (f : List UInt8) (f1 : Bool) : Option (((List Int) × Int × (List UInt8) × Bool) ⊕ ((((List UInt8) × Bool) × (List Int)) ⊕ ((List Int) × (List UInt8) × Bool))) :=
  if v < n then (octet_Reader_Num (f, f1)).bind fun y => (octet_Reader_Num (y.1.1, y.1.2)).bind fun y1 => (octet_Reader_Good (y1.1.1, y1.1.2)).bind fun y2 => if y2.2 = true then if y.2 < 1 then (octet_Reader_Bad (y2.1.1, y2.1.2)).bind fun y3 => some (.inr (.inl ((y3.1, y3.2), []))) else if y.2 > w64 (32768 - ((l.length : Nat) : Int)) then (octet_Reader_Bad (y2.1.1, y2.1.2)).bind fun y4 => some (.inr (.inl ((y4.1, y4.2), []))) else (loopM (fun (l1, v1) => pack_takeRuns_l0 y y1 l1 v1) (l, 0)).bind (fun l2 => some (.inl (l2, w64 (v + 1), y2.1.1, y2.1.2))) else (octet_Reader_Bad (y2.1.1, y2.1.2)).bind fun y5 => some (.inr (.inl ((y5.1, y5.2), []))) else some (.inr (.inr (l, f, f1)))
def pack_takeRuns (r : (List UInt8) × Bool) (n : Int) : Option (((List UInt8) × Bool) × (List Int)) :=
  (loopM (fun (l, v, f, f1) => pack_takeRuns_l1 n l v f f1) (([] : List Int), 0, r.1, r.2)).bind (Sum.elim (fun r => some r) (fun (l1, f2, f3) => some ((f2, f3), l1)))
def pack_back (n : Int) : Option (Int) :=
  if (iand n 1) = 1 then (quo? (w64 (0 - (w64 (n + 1)))) 2).bind fun q => some q else (quo? n 2).bind fun q1 => some q1
def winnowerref16_Plain (l : List Int) : Option ((List UInt8) × Int) :=
  (winnowerref16_may l).bind fun y => if y = true then (winnowerref1_Nums ([0, ((l.length : Nat) : Int)] : List Int)).bind fun y1 => (winnowerref1_Nums l).bind fun y2 => (app? 1 y1 y2).bind fun q => some (q, 0) else some (([] : List UInt8), 1)
def winnowerref16_Delta_l0 (l : List Int) (b : List UInt8) (last : Int) (i : Int) : Option (((List UInt8) × Int × Int) ⊕ ((List UInt8))) :=
  if i < ((l.length : Nat) : Int) then (at? l i).bind fun x => if w64 (x - last) ≥ 0 then (winnowerref1_Num (w64 (2 * (w64 (x - last))))).bind fun y => (app? 1 b y).bind fun q => some (.inl (q, x, w64 (i + 1))) else (winnowerref1_Num (w64 (w64 ((-2) * (w64 (x - last))) - 1))).bind fun y1 => (app? 1 b y1).bind fun q1 => some (.inl (q1, x, w64 (i + 1))) else some (.inr b)
def winnowerref16_Delta (l : List Int) : Option ((List UInt8) × Int) :=
  (winnowerref16_may l).bind fun y => if y = true then (winnowerref1_Nums ([1, ((l.length : Nat) : Int)] : List Int)).bind fun y1 => (loopM (fun (b, last, i) => winnowerref16_Delta_l0 l b last i) (y1, 0, 0)).bind (fun b1 => some (b1, 0)) else some (([] : List UInt8), 1)
def pack_told_l0 (l : List Int) (rest : List Int) (last : Int) (v : Int) : Option (((List Int) × Int × Int) ⊕ ((List Int))) :=
  if v < ((l.length : Nat) : Int) then (at? l v).bind fun x => (pack_turned (w64 (x - last))).bind fun y => (app? 8 rest ([y] : List Int)).bind fun q => some (.inl (q, x, w64 (v + 1))) else some (.inr rest)
def pack_told_l1 (l : List Int) (rest : List Int) (v : Int) : Option (((List Int) × Int) ⊕ ((List Int))) :=
  if v < ((l.length : Nat) : Int) then (at? l v).bind fun x => if v = 0 then (app? 8 rest ([0, x] : List Int)).bind fun q => (at? q (w64 (((q.length : Nat) : Int) - 2))).bind fun x1 => (set? q (w64 (((q.length : Nat) : Int) - 2)) (w64 (x1 + 1))).bind fun q1 => some (.inl (q1, w64 (v + 1))) else (at? l (w64 (v - 1))).bind fun x2 => if x ≠ x2 then (app? 8 rest ([0, x] : List Int)).bind fun q2 => (at? q2 (w64 (((q2.length : Nat) : Int) - 2))).bind fun x3 => (set? q2 (w64 (((q2.length : Nat) : Int) - 2)) (w64 (x3 + 1))).bind fun q3 => some (.inl (q3, w64 (v + 1))) else (at? rest (w64 (((rest.length : Nat) : Int) - 2))).bind fun x4 => (set? rest (w64 (((rest.length : Nat) : Int) - 2)) (w64 (x4 + 1))).bind fun q4 => some (.inl (q4, w64 (v + 1))) else some (.inr rest)
def pack_told (way : Int) (l : List Int) : Option ((List UInt8) × Int) :=
  (pack_may l).bind fun y => if y = true then (octet_Writer_Nums ([] : List UInt8) ([way] : List Int)).bind fun y1 => if way = 0 then (octet_Writer_Nums y1 ([((l.length : Nat) : Int)] : List Int)).bind fun y2 => (octet_Writer_Nums y2 l).bind fun y3 => (octet_Writer_Out y3).bind fun y4 => some (y4.2, 0) else if way = 1 then (octet_Writer_Nums y1 ([((l.length : Nat) : Int)] : List Int)).bind fun y5 => (loopM (fun (rest, last, v) => pack_told_l0 l rest last v) (([] : List Int), 0, 0)).bind (fun rest1 => (octet_Writer_Nums y5 rest1).bind fun y6 => (octet_Writer_Out y6).bind fun y7 => some (y7.2, 0)) else if way = 2 then (loopM (fun (rest2, v1) => pack_told_l1 l rest2 v1) (([] : List Int), 0)).bind (fun rest3 => (quo? ((rest3.length : Nat) : Int) 2).bind fun q => (octet_Writer_Nums y1 ([q] : List Int)).bind fun y8 => (octet_Writer_Nums y8 rest3).bind fun y9 => (octet_Writer_Out y9).bind fun y10 => some (y10.2, 0)) else (octet_Writer_Nums y1 []).bind fun y11 => (octet_Writer_Out y11).bind fun y12 => some (y12.2, 0) else some (([] : List UInt8), 1)
def pack_take_l0 (way : Int) (n : Int) (l : List Int) (last : Int) (f : List UInt8) (f1 : Bool) : Option (((List Int) × Int × (List UInt8) × Bool) ⊕ ((List Int) × (List UInt8) × Bool)) :=
  if ((l.length : Nat) : Int) < n then (octet_Reader_Good (f, f1)).bind fun y => if y.2 = true then if way = 1 then (octet_Reader_Num (y.1.1, y.1.2)).bind fun y1 => (pack_back y1.2).bind fun y2 => if w64 (last + y2) < 0 then (octet_Reader_Bad (y1.1.1, y1.1.2)).bind fun y3 => (app? 8 l ([w64 (last + y2)] : List Int)).bind fun q => some (.inl (q, w64 (last + y2), y3.1, y3.2)) else if w64 (last + y2) > 1099511627776 then (octet_Reader_Bad (y1.1.1, y1.1.2)).bind fun y4 => (app? 8 l ([w64 (last + y2)] : List Int)).bind fun q1 => some (.inl (q1, w64 (last + y2), y4.1, y4.2)) else (app? 8 l ([w64 (last + y2)] : List Int)).bind fun q2 => some (.inl (q2, w64 (last + y2), y1.1.1, y1.1.2)) else (octet_Reader_Num (y.1.1, y.1.2)).bind fun y5 => if y5.2 < 0 then (octet_Reader_Bad (y5.1.1, y5.1.2)).bind fun y6 => (app? 8 l ([y5.2] : List Int)).bind fun q3 => some (.inl (q3, y5.2, y6.1, y6.2)) else if y5.2 > 1099511627776 then (octet_Reader_Bad (y5.1.1, y5.1.2)).bind fun y7 => (app? 8 l ([y5.2] : List Int)).bind fun q4 => some (.inl (q4, y5.2, y7.1, y7.2)) else (app? 8 l ([y5.2] : List Int)).bind fun q5 => some (.inl (q5, y5.2, y5.1.1, y5.1.2)) else some (.inr (l, y.1.1, y.1.2)) else some (.inr (l, f, f1))
def pack_take (r : (List UInt8) × Bool) (way : Int) (n : Int) : Option (((List UInt8) × Bool) × (List Int)) :=
  if n > 32768 then (octet_Reader_Bad (r.1, r.2)).bind fun y => some ((y.1, y.2), ([] : List Int)) else if way = 2 then (pack_takeRuns (r.1, r.2) n).bind fun y1 => some ((y1.1.1, y1.1.2), y1.2) else (loopM (fun (l, last, f, f1) => pack_take_l0 way n l last f f1) (([] : List Int), 0, r.1, r.2)).bind (fun (l1, f2, f3) => some ((f2, f3), l1))
def pack_Plain (l : List Int) : Option ((List UInt8) × Int) :=
  (pack_told 0 l).bind fun y => some (y.1, y.2)
def pack_Delta (l : List Int) : Option ((List UInt8) × Int) :=
  (pack_told 1 l).bind fun y => some (y.1, y.2)
def pack_Runs (l : List Int) : Option ((List UInt8) × Int) :=
  (pack_told 2 l).bind fun y => some (y.1, y.2)
def pack_Best_l0 (l : List Int) (y : (List UInt8) × Int) (best : List UInt8) (way : Int) : Option (((List UInt8) × Int) ⊕ ((List UInt8))) :=
  if way ≤ 2 then if y.2 = 0 then (pack_told way l).bind fun y1 => if ((y1.1.length : Nat) : Int) < ((best.length : Nat) : Int) then some (.inl (y1.1, w64 (way + 1))) else some (.inl (best, w64 (way + 1))) else some (.inr best) else some (.inr best)
def pack_Best (l : List Int) : Option ((List UInt8) × Int) :=
  (pack_Plain l).bind fun y => (loopM (fun (best, way) => pack_Best_l0 l y best way) (y.1, 1)).bind (fun best1 => some (best1, y.2))
def winnowerlaw16_known  : Option (Bool) :=
  (pack_Best ([7, 7, 7, 7, 7] : List Int)).bind fun y => if y.2 = 0 then some (decide ((strOf y.1) = (⟨#[2, 1, 5, 7]⟩ : ByteArray))) else some false
def pack_Decode (b : List UInt8) : Option ((List Int) × Int) :=
  (octet_NewReader b).bind fun y => (octet_Reader_Num (y.1, y.2)).bind fun y1 => (octet_Reader_Num (y1.1.1, y1.1.2)).bind fun y2 => (pack_take (y2.1.1, y2.1.2) y1.2 y2.2).bind fun y3 => (octet_Reader_Whole (y3.1.1, y3.1.2)).bind fun y4 => if y4.2 = true then if y1.2 > 2 then some (([] : List Int), 2) else (pack_told y1.2 y3.2).bind fun y5 => if y5.2 ≠ 0 then some (([] : List Int), 2) else (bytes_Equal y5.1 b).bind fun y6 => if y6 = true then some (y3.2, 0) else some (([] : List Int), 2) else some (([] : List Int), 2)
def winnowerlaw16_PackRuns_l0 (n : Int) (v : Int) (i : Int) (l : List Int) : Option ((Int × (List Int)) ⊕ ((List Int))) :=
  if i < n then (at? l i).bind fun x => (set? l i v).bind fun q => some (.inl (w64 (i + 1), q)) else some (.inr l)
def winnowerlaw16_PackRuns (n : Int) (v : Int) : Option (Bool) :=
  if n < 0 then some true else if n > 40000 then some true else if v < 0 then some true else if v > 1099511627776 then some true else (mk? 8 n 0).bind fun q => (loopM (fun (i, l) => winnowerlaw16_PackRuns_l0 n v i l) (0, q)).bind (fun l1 => (pack_Best l1).bind fun y => if n > 32768 then if ((y.1.length : Nat) : Int) = 0 then if y.2 = 1 then (winnowerlaw16_known).bind fun y1 => some y1 else some false else some false else (pack_Decode y.1).bind fun y2 => if y.2 = 0 then if y2.2 = 0 then (winnowerlaw16_numbers l1 y2.1).bind fun y3 => if y3 = true then if ((y.1.length : Nat) : Int) ≤ 12 then (winnowerlaw16_known).bind fun y4 => some y4 else some false else some false else some false else some false)
def winnowerlaw16_PackRises_l0 (steps : List Int) (l : List Int) (i : Int) : Option (((List Int) × Int) ⊕ ((List Int))) :=
  if i < ((steps.length : Nat) : Int) then (at? steps i).bind fun x => (at? l i).bind fun x1 => (app? 8 l ([w64 (x1 + (iand x 31))] : List Int)).bind fun q => some (.inl (q, w64 (i + 1))) else some (.inr l)
def winnowerlaw16_PackRises (from_ : Int) (steps : List Int) : Option (Bool) :=
  if from_ < 0 then some true else if from_ > 549755813888 then some true else if ((steps.length : Nat) : Int) > 300 then some true else (loopM (fun (l, i) => winnowerlaw16_PackRises_l0 steps l i) (([from_] : List Int), 0)).bind (fun l1 => (pack_Best l1).bind fun y => (pack_Decode y.1).bind fun y1 => if y.2 = 0 then if y1.2 = 0 then (winnowerlaw16_numbers l1 y1.1).bind fun y2 => if y2 = true then if ((y.1.length : Nat) : Int) ≤ w64 (10 + ((l1.length : Nat) : Int)) then (winnowerlaw16_known).bind fun y3 => some y3 else some false else some false else some false else some false)
def winnowerlaw16_PackBack_l0 (l : List Int) (i : Int) : Option ((Int) ⊕ ((Bool) ⊕ (Unit))) :=
  if i < ((l.length : Nat) : Int) then (at? l i).bind fun x => if x < 0 then (winnowerlaw16_known).bind fun y => some (.inr (.inl y)) else if x > 1099511627776 then (winnowerlaw16_known).bind fun y1 => some (.inr (.inl y1)) else some (.inl (w64 (i + 1))) else some (.inr (.inr ()))
def winnowerlaw16_PackBack_l1 (l : List Int) (y : (List UInt8) × Int) (y1 : (List UInt8) × Int) (y2 : (List UInt8) × Int) (y3 : (List UInt8) × Int) (i : Int) : Option ((Int) ⊕ ((Bool) ⊕ (Unit))) :=
  if i < 4 then (at? ([y.1, y1.1, y2.1, y3.1] : List (List UInt8)) i).bind fun x => (pack_Decode x).bind fun y4 => if y4.2 ≠ 0 then some (.inr (.inl false)) else (winnowerlaw16_numbers l y4.1).bind fun y5 => if y5 = true then if ((y3.1.length : Nat) : Int) > ((x.length : Nat) : Int) then some (.inr (.inl false)) else some (.inl (w64 (i + 1))) else some (.inr (.inl false)) else some (.inr (.inr ()))
def winnowerlaw16_PackBack (l : List Int) : Option (Bool) :=
  if ((l.length : Nat) : Int) > 400 then some true else (loopM (fun i => winnowerlaw16_PackBack_l0 l i) 0).bind (Sum.elim (fun r => some r) (fun (_ : Unit) => (pack_Plain l).bind fun y => (pack_Delta l).bind fun y1 => (pack_Runs l).bind fun y2 => (pack_Best l).bind fun y3 => (loopM (fun i1 => winnowerlaw16_PackBack_l1 l y y1 y2 y3 i1) 0).bind (Sum.elim (fun r => some r) (fun (_ : Unit) => if y3.2 = 0 then (winnowerlaw16_known).bind fun y4 => some y4 else some false))))
end
end Go.Proofs.Ytdicpnnmhjgnbaa.FW
