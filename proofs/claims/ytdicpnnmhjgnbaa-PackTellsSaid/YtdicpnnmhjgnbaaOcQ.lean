/- printed by ex.py: plain functions -/
import Derived.Test.YtdicpnnmhjgnbaaP2
namespace Go.Proofs.Ytdicpnnmhjgnbaa.FW
set_option linter.unusedVariables false
noncomputable section
def octet_Writer_Nums_l0  (u : UInt64) (f : List UInt8) : Option ((UInt64 × (List UInt8)) ⊕ (UInt64 × (List UInt8))) :=
  if ((u.toNat : Nat) : Int) ≥ (((128 : UInt64).toNat : Nat) : Int) then (app? 1 f ([((ofI8 ((u.toNat : Nat) : Int)) ||| (128 : UInt8))] : List UInt8)).bind fun q => some (.inl ((FW.shr64 u 7), q)) else some (.inr (u, f))
def octet_Writer_Nums_l1 (v : List Int) (v1 : Int) (f : List UInt8) : Option ((Int × (List UInt8)) ⊕ ((List UInt8))) :=
  if v1 < ((v.length : Nat) : Int) then (at? v v1).bind fun x => (loopM (fun (u, f1) => octet_Writer_Nums_l0 u f1) ((ofI64 (if (if 4611686018427387904 < x then 4611686018427387904 else x) > 0 then (if 4611686018427387904 < x then 4611686018427387904 else x) else 0)), f)).bind (fun (u1, f2) => (app? 1 f2 ([(ofI8 ((u1.toNat : Nat) : Int))] : List UInt8)).bind fun q => some (.inl (w64 (v1 + 1), q))) else some (.inr f)
def octet_Writer_Nums (w : List UInt8) (v : List Int) : Option ((List UInt8)) :=
  (loopM (fun (v1, f) => octet_Writer_Nums_l1 v v1 f) (0, w)).bind (fun f1 => some f1)
def winnowerlaw1_same_l0 (a : List UInt8) (b : List UInt8) (i : Int) : Option ((Int) ⊕ ((Bool) ⊕ (Unit))) :=
  if i < ((a.length : Nat) : Int) then (at? a i).bind fun x => (at? b i).bind fun x1 => if ((x.toNat : Nat) : Int) ≠ ((x1.toNat : Nat) : Int) then some (.inr (.inl false)) else some (.inl (w64 (i + 1))) else some (.inr (.inr ()))
def winnowerlaw1_same (a : List UInt8) (b : List UInt8) : Option (Bool) :=
  if ((a.length : Nat) : Int) ≠ ((b.length : Nat) : Int) then some false else (loopM (fun i => winnowerlaw1_same_l0 a b i) 0).bind (Sum.elim (fun r => some r) (fun (_ : Unit) => some true))
def winnowerlaw1_spoil_l0 (q : List UInt8) (i : Int) (l : List UInt8) : Option ((Int × (List UInt8)) ⊕ (Unit)) :=
  if i < ((q.length : Nat) : Int) then (at? l i).bind fun x => (set? l i (98 : UInt8)).bind fun q1 => some (.inl (w64 (i + 1), q1)) else some (.inr ())
def winnowerlaw1_spoil (b : List UInt8) : Option (Unit) :=
  (app? 1 b ([(99 : UInt8)] : List UInt8)).bind fun q => (loopM (fun (i, l) => winnowerlaw1_spoil_l0 q i l) (0, q)).bind (fun (_ : Unit) => some ())
def octet_Reader_Good (r : (List UInt8) × Bool) : Option (((List UInt8) × Bool) × Bool) :=
  some ((r.1, r.2), !r.2)
def octet_Reader_Whole (r : (List UInt8) × Bool) : Option (((List UInt8) × Bool) × Bool) :=
  (octet_Reader_Good (r.1, r.2)).bind fun y => if y.2 = true then some ((y.1.1, y.1.2), decide (((y.1.1.length : Nat) : Int) = 0)) else some ((y.1.1, y.1.2), false)
def winnowerlaw1_heavyRows_l0 (l : List (List UInt8)) (n : Int) (i : Int) : Option ((Int × Int) ⊕ ((Bool) ⊕ (Unit))) :=
  if i < ((l.length : Nat) : Int) then (at? l i).bind fun x => if ((x.length : Nat) : Int) > 4000 then some (.inr (.inl true)) else if w64 (w64 (n + 3) + ((x.length : Nat) : Int)) > 4000 then some (.inr (.inl true)) else some (.inl (w64 (w64 (n + 3) + ((x.length : Nat) : Int)), w64 (i + 1))) else some (.inr (.inr ()))
def winnowerlaw1_heavyRows (l : List (List UInt8)) : Option (Bool) :=
  (loopM (fun (n, i) => winnowerlaw1_heavyRows_l0 l n i) (0, 0)).bind (Sum.elim (fun r => some r) (fun (_ : Unit) => some false))
def octet_Sum_l0  (v : UInt32) (v1 : Int) : Option ((UInt32 × Int) ⊕ (UInt32)) :=
  if v1 < 8 then some (.inl (((FW.shr32 v 1) ^^^ ((3988292384 : UInt32) &&& (0 - (v &&& (1 : UInt32))))), w64 (v1 + 1))) else some (.inr v)
def octet_Sum_l1 (x : List UInt8) (v : UInt32) (v1 : Int) : Option ((UInt32 × Int) ⊕ (UInt32)) :=
  if v1 < ((x.length : Nat) : Int) then (at? x v1).bind fun x1 => (loopM (fun (v2, v3) => octet_Sum_l0 v2 v3) ((v ^^^ (ofI32 ((x1.toNat : Nat) : Int))), 0)).bind (fun v4 => some (.inl (v4, w64 (v1 + 1)))) else some (.inr v)
def octet_Sum_l2 (p : List (List UInt8)) (v : UInt32) (v1 : Int) : Option ((UInt32 × Int) ⊕ (UInt32)) :=
  if v1 < ((p.length : Nat) : Int) then (at? p v1).bind fun x => (loopM (fun (v2, v3) => octet_Sum_l1 x v2 v3) (v, 0)).bind (fun v4 => some (.inl (v4, w64 (v1 + 1)))) else some (.inr v)
def octet_Sum (p : List (List UInt8)) : Option (UInt32) :=
  (loopM (fun (v, v1) => octet_Sum_l2 p v v1) ((4294967295 : UInt32), 0)).bind (fun v2 => some (~~~ v2))
def winnowerref1_Sum_l0  (c : UInt32) (k : Int) : Option ((UInt32 × Int) ⊕ (UInt32)) :=
  if k < 8 then if (((c &&& (1 : UInt32)).toNat : Nat) : Int) = (((1 : UInt32).toNat : Nat) : Int) then some (.inl (((FW.shr32 c 1) ^^^ (3988292384 : UInt32)), w64 (k + 1))) else some (.inl ((FW.shr32 c 1), w64 (k + 1))) else some (.inr c)
def winnowerref1_Sum_l1 (p : List UInt8) (c : UInt32) (i : Int) : Option ((UInt32 × Int) ⊕ (UInt32)) :=
  if i < ((p.length : Nat) : Int) then (at? p i).bind fun x => (loopM (fun (c1, k) => winnowerref1_Sum_l0 c1 k) ((c ^^^ (ofI32 ((x.toNat : Nat) : Int))), 0)).bind (fun c2 => some (.inl (c2, w64 (i + 1)))) else some (.inr c)
def winnowerref1_Sum (p : List UInt8) : Option (UInt32) :=
  (loopM (fun (c, i) => winnowerref1_Sum_l1 p c i) ((4294967295 : UInt32), 0)).bind (fun c1 => some (~~~ c1))
def winnowerlaw1_roomy (b : List UInt8) : Option ((List UInt8)) :=
  (app? 1 ([] : List UInt8) b).bind fun q => (app? 1 q ([(171 : UInt8)] : List UInt8)).bind fun q1 => (app? 1 q1 ([(171 : UInt8)] : List UInt8)).bind fun q2 => (sub? q2 0 (w64 (((b.length : Nat) : Int) + 1))).bind fun q3 => some q3
def winnowerlaw1_stands (w : List UInt8) (b : List UInt8) : Option (Bool) :=
  if ((w.length : Nat) : Int) = w64 (((b.length : Nat) : Int) + 1) then (sub? w 0 ((b.length : Nat) : Int)).bind fun q => (winnowerlaw1_same q b).bind fun y => if y = true then (at? w ((b.length : Nat) : Int)).bind fun x => some (decide (((x.toNat : Nat) : Int) = (((171 : UInt8).toNat : Nat) : Int))) else some false else some false
def octet_Writer_Raw (w : List UInt8) (p : List UInt8) : Option ((List UInt8)) :=
  (app? 1 w p).bind fun q => some q
def octet_Reader_Left (r : (List UInt8) × Bool) : Option (((List UInt8) × Bool) × Int) :=
  some ((r.1, r.2), ((r.1.length : Nat) : Int))
def octet_Reader_Bad (r : (List UInt8) × Bool) : Option (((List UInt8) × Bool)) :=
  some (([] : List UInt8), true)
def winnowerref1_Reader_Bad (r : (List UInt8) × Bool) : Option (((List UInt8) × Bool)) :=
  some (([] : List UInt8), true)
def winnowerref1_Reader_Whole (r : (List UInt8) × Bool) : Option (((List UInt8) × Bool) × Bool) :=
  if r.2 = true then some ((r.1, r.2), false) else some ((r.1, r.2), decide (((r.1.length : Nat) : Int) = 0))
def bytes_Clone (p0 : List UInt8) : Option (List UInt8) := app? 1 [] p0
def winnowerref1_Num_l0  (u : UInt64) (b : List UInt8) : Option ((UInt64 × (List UInt8)) ⊕ (UInt64 × (List UInt8))) :=
  if ((u.toNat : Nat) : Int) ≥ (((128 : UInt64).toNat : Nat) : Int) then (app? 1 b ([((ofI8 (((u &&& (127 : UInt64)).toNat : Nat) : Int)) ||| (128 : UInt8))] : List UInt8)).bind fun q => some (.inl ((FW.shr64 u 7), q)) else some (.inr (u, b))
def winnowerref1_Num (v : Int) : Option ((List UInt8)) :=
  if v > 4611686018427387904 then (loopM (fun (u, b) => winnowerref1_Num_l0 u b) ((4611686018427387904 : UInt64), ([] : List UInt8))).bind (fun (u1, b1) => (app? 1 b1 ([(ofI8 ((u1.toNat : Nat) : Int))] : List UInt8)).bind fun q => some q) else if v > 0 then (loopM (fun (u2, b2) => winnowerref1_Num_l0 u2 b2) ((ofI64 v), ([] : List UInt8))).bind (fun (u3, b3) => (app? 1 b3 ([(ofI8 ((u3.toNat : Nat) : Int))] : List UInt8)).bind fun q1 => some q1) else (loopM (fun (u4, b4) => winnowerref1_Num_l0 u4 b4) ((0 : UInt64), ([] : List UInt8))).bind (fun (u5, b5) => (app? 1 b5 ([(ofI8 ((u5.toNat : Nat) : Int))] : List UInt8)).bind fun q2 => some q2)
def octet_Writer_Out (w : List UInt8) : Option ((List UInt8) × (List UInt8)) :=
  (bytes_Clone w).bind fun y => some (w, y)
def winnowerref1_Nums_l0 (v : List Int) (b : List UInt8) (i : Int) : Option (((List UInt8) × Int) ⊕ ((List UInt8))) :=
  if i < ((v.length : Nat) : Int) then (at? v i).bind fun x => (winnowerref1_Num x).bind fun y => (app? 1 b y).bind fun q => some (.inl (q, w64 (i + 1))) else some (.inr b)
def winnowerref1_Nums (v : List Int) : Option ((List UInt8)) :=
  (loopM (fun (b, i) => winnowerref1_Nums_l0 v b i) (([] : List UInt8), 0)).bind (fun b1 => some b1)
def octet_NewReader (p : List UInt8) : Option (((List UInt8) × Bool)) :=
  (bytes_Clone p).bind fun y => some (y, false)
def octet_Reader_Num_l0 (r : (List UInt8) × Bool) (u : UInt64) (v : Int) : Option ((UInt64 × Int) ⊕ ((((List UInt8) × Bool) × Int) ⊕ (Unit))) :=
  if v < ((r.1.length : Nat) : Int) then (at? r.1 v).bind fun x => if v ≥ 9 then some (.inr (.inr ())) else if v > 0 then if ((x.toNat : Nat) : Int) = (((0 : UInt8).toNat : Nat) : Int) then some (.inr (.inr ())) else (amt? (w64 (7 * v))).bind fun m => if ((x.toNat : Nat) : Int) < (((128 : UInt8).toNat : Nat) : Int) then if (((u ||| (FW.shl64 (ofI64 (((x &&& (127 : UInt8)).toNat : Nat) : Int)) m)).toNat : Nat) : Int) > (((4611686018427387904 : UInt64).toNat : Nat) : Int) then some (.inr (.inr ())) else (sub? r.1 (w64 (v + 1)) ((r.1.length : Nat) : Int)).bind fun q => some (.inr (.inl ((q, r.2), w64 (((u ||| (FW.shl64 (ofI64 (((x &&& (127 : UInt8)).toNat : Nat) : Int)) m)).toNat : Nat) : Int)))) else some (.inl ((u ||| (FW.shl64 (ofI64 (((x &&& (127 : UInt8)).toNat : Nat) : Int)) m)), w64 (v + 1))) else (amt? (w64 (7 * v))).bind fun m1 => if ((x.toNat : Nat) : Int) < (((128 : UInt8).toNat : Nat) : Int) then if (((u ||| (FW.shl64 (ofI64 (((x &&& (127 : UInt8)).toNat : Nat) : Int)) m1)).toNat : Nat) : Int) > (((4611686018427387904 : UInt64).toNat : Nat) : Int) then some (.inr (.inr ())) else (sub? r.1 (w64 (v + 1)) ((r.1.length : Nat) : Int)).bind fun q1 => some (.inr (.inl ((q1, r.2), w64 (((u ||| (FW.shl64 (ofI64 (((x &&& (127 : UInt8)).toNat : Nat) : Int)) m1)).toNat : Nat) : Int)))) else some (.inl ((u ||| (FW.shl64 (ofI64 (((x &&& (127 : UInt8)).toNat : Nat) : Int)) m1)), w64 (v + 1))) else some (.inr (.inr ()))
def octet_Reader_Num (r : (List UInt8) × Bool) : Option (((List UInt8) × Bool) × Int) :=
  (loopM (fun (u, v) => octet_Reader_Num_l0 r u v) ((0 : UInt64), 0)).bind (Sum.elim (fun r => some r) (fun (_ : Unit) => (octet_Reader_Bad (r.1, r.2)).bind fun y => some ((y.1, y.2), 0)))
def octet_Writer_Bytes_l0 (p : List (List UInt8)) (v : Int) (f : List UInt8) : Option ((Int × (List UInt8)) ⊕ ((List UInt8))) :=
  if v < ((p.length : Nat) : Int) then (at? p v).bind fun x => (octet_Writer_Nums f ([((x.length : Nat) : Int)] : List Int)).bind fun y => (octet_Writer_Raw y x).bind fun y1 => some (.inl (w64 (v + 1), y1)) else some (.inr f)
def octet_Writer_Bytes (w : List UInt8) (p : List (List UInt8)) : Option ((List UInt8)) :=
  (loopM (fun (v, f) => octet_Writer_Bytes_l0 p v f) (0, w)).bind (fun f1 => some f1)
def winnowerref1_Bytes (p : List UInt8) : Option ((List UInt8)) :=
  (winnowerref1_Num ((p.length : Nat) : Int)).bind fun y => (app? 1 y p).bind fun q => some q
def octet_Reader_Raw (r : (List UInt8) × Bool) (n : Int) : Option (((List UInt8) × Bool) × (List UInt8)) :=
  if n < 0 then (octet_Reader_Bad (r.1, r.2)).bind fun y => some ((y.1, y.2), ([] : List UInt8)) else if n > ((r.1.length : Nat) : Int) then (octet_Reader_Bad (r.1, r.2)).bind fun y1 => some ((y1.1, y1.2), ([] : List UInt8)) else (sub? r.1 0 n).bind fun q => (bytes_Clone q).bind fun y2 => (sub? r.1 n ((r.1.length : Nat) : Int)).bind fun q1 => some ((q1, r.2), y2)
def winnowerref1_Reader_Raw (r : (List UInt8) × Bool) (n : Int) : Option (((List UInt8) × Bool) × (List UInt8)) :=
  if n < 0 then (winnowerref1_Reader_Bad (r.1, r.2)).bind fun y => if y.2 = true then some ((y.1, y.2), ([] : List UInt8)) else (sub? y.1 0 n).bind fun q => (app? 1 ([] : List UInt8) q).bind fun q1 => (sub? y.1 n ((y.1.length : Nat) : Int)).bind fun q2 => some ((q2, y.2), q1) else if n > ((r.1.length : Nat) : Int) then (winnowerref1_Reader_Bad (r.1, r.2)).bind fun y1 => if y1.2 = true then some ((y1.1, y1.2), ([] : List UInt8)) else (sub? y1.1 0 n).bind fun q3 => (app? 1 ([] : List UInt8) q3).bind fun q4 => (sub? y1.1 n ((y1.1.length : Nat) : Int)).bind fun q5 => some ((q5, y1.2), q4) else if r.2 = true then some ((r.1, r.2), ([] : List UInt8)) else (sub? r.1 0 n).bind fun q6 => (app? 1 ([] : List UInt8) q6).bind fun q7 => (sub? r.1 n ((r.1.length : Nat) : Int)).bind fun q8 => some ((q8, r.2), q7)
def winnowerlaw1_known  : Option (Bool) :=
  (octet_Writer_Nums ([] : List UInt8) ([1, 300] : List Int)).bind fun y => (octet_Writer_Bytes y ([([(97 : UInt8)] : List UInt8)] : List (List UInt8))).bind fun y1 => (octet_Writer_Out y1).bind fun y2 => (winnowerlaw1_same y2.2 ([(1 : UInt8), (172 : UInt8), (2 : UInt8), (1 : UInt8), (97 : UInt8)] : List UInt8)).bind fun y3 => if y3 = true then (octet_Sum ([([(49 : UInt8), (50 : UInt8), (51 : UInt8), (52 : UInt8)] : List UInt8), ([(53 : UInt8), (54 : UInt8), (55 : UInt8), (56 : UInt8), (57 : UInt8)] : List UInt8)] : List (List UInt8))).bind fun y4 => some (decide (((y4.toNat : Nat) : Int) = (((3421780262 : UInt32).toNat : Nat) : Int))) else some false
def octet_Reader_Bytes (r : (List UInt8) × Bool) : Option (((List UInt8) × Bool) × (List UInt8)) :=
  (octet_Reader_Num (r.1, r.2)).bind fun y => (octet_Reader_Raw (y.1.1, y.1.2) y.2).bind fun y1 => some ((y1.1.1, y1.1.2), y1.2)
def winnowerref1_Reader_Num_l0  (u : UInt64) (i : Int) (f : List UInt8) (f1 : Bool) : Option ((UInt64 × Int × (List UInt8) × Bool) ⊕ ((((List UInt8) × Bool) × Int) ⊕ ((List UInt8) × Bool))) :=
  if i < 10 then (winnowerref1_Reader_Raw (f, f1) 1).bind fun y => if y.1.2 = true then some (.inr (.inl ((y.1.1, y.1.2), 0))) else (at? y.2 0).bind fun x => if i = 9 then if ((x.toNat : Nat) : Int) > (((127 : UInt8).toNat : Nat) : Int) then some (.inr (.inr (y.1.1, y.1.2))) else if ((x.toNat : Nat) : Int) > (((1 : UInt8).toNat : Nat) : Int) then some (.inr (.inr (y.1.1, y.1.2))) else (amt? (((ofI64 (w64 (7 * i))).toNat : Nat) : Int)).bind fun m => if i > 0 then if ((x.toNat : Nat) : Int) = (((0 : UInt8).toNat : Nat) : Int) then some (.inr (.inr (y.1.1, y.1.2))) else if (((u ||| (FW.shl64 (ofI64 (((x &&& (127 : UInt8)).toNat : Nat) : Int)) m)).toNat : Nat) : Int) > (((4611686018427387904 : UInt64).toNat : Nat) : Int) then some (.inr (.inr (y.1.1, y.1.2))) else some (.inr (.inl ((y.1.1, y.1.2), w64 (((u ||| (FW.shl64 (ofI64 (((x &&& (127 : UInt8)).toNat : Nat) : Int)) m)).toNat : Nat) : Int)))) else if (((u ||| (FW.shl64 (ofI64 (((x &&& (127 : UInt8)).toNat : Nat) : Int)) m)).toNat : Nat) : Int) > (((4611686018427387904 : UInt64).toNat : Nat) : Int) then some (.inr (.inr (y.1.1, y.1.2))) else some (.inr (.inl ((y.1.1, y.1.2), w64 (((u ||| (FW.shl64 (ofI64 (((x &&& (127 : UInt8)).toNat : Nat) : Int)) m)).toNat : Nat) : Int)))) else (amt? (((ofI64 (w64 (7 * i))).toNat : Nat) : Int)).bind fun m1 => if ((x.toNat : Nat) : Int) > (((127 : UInt8).toNat : Nat) : Int) then some (.inl ((u ||| (FW.shl64 (ofI64 (((x &&& (127 : UInt8)).toNat : Nat) : Int)) m1)), w64 (i + 1), y.1.1, y.1.2)) else if i > 0 then if ((x.toNat : Nat) : Int) = (((0 : UInt8).toNat : Nat) : Int) then some (.inr (.inr (y.1.1, y.1.2))) else if (((u ||| (FW.shl64 (ofI64 (((x &&& (127 : UInt8)).toNat : Nat) : Int)) m1)).toNat : Nat) : Int) > (((4611686018427387904 : UInt64).toNat : Nat) : Int) then some (.inr (.inr (y.1.1, y.1.2))) else some (.inr (.inl ((y.1.1, y.1.2), w64 (((u ||| (FW.shl64 (ofI64 (((x &&& (127 : UInt8)).toNat : Nat) : Int)) m1)).toNat : Nat) : Int)))) else if (((u ||| (FW.shl64 (ofI64 (((x &&& (127 : UInt8)).toNat : Nat) : Int)) m1)).toNat : Nat) : Int) > (((4611686018427387904 : UInt64).toNat : Nat) : Int) then some (.inr (.inr (y.1.1, y.1.2))) else some (.inr (.inl ((y.1.1, y.1.2), w64 (((u ||| (FW.shl64 (ofI64 (((x &&& (127 : UInt8)).toNat : Nat) : Int)) m1)).toNat : Nat) : Int)))) else some (.inr (.inr (f, f1)))
def winnowerref1_Reader_Num (r : (List UInt8) × Bool) : Option (((List UInt8) × Bool) × Int) :=
  (loopM (fun (u, i, f, f1) => winnowerref1_Reader_Num_l0 u i f f1) ((0 : UInt64), 0, r.1, r.2)).bind (Sum.elim (fun r => some r) (fun (f2, f3) => (winnowerref1_Reader_Bad (f2, f3)).bind fun y => some ((y.1, y.2), 0)))
def winnowerref1_Reader_Bytes (r : (List UInt8) × Bool) : Option (((List UInt8) × Bool) × (List UInt8)) :=
  (winnowerref1_Reader_Num (r.1, r.2)).bind fun y => if y.1.2 = true then some ((y.1.1, y.1.2), ([] : List UInt8)) else (winnowerref1_Reader_Raw (y.1.1, y.1.2) y.2).bind fun y1 => some ((y1.1.1, y1.1.2), y1.2)
def winnowerlaw1_OctetSmall_l0  (n : Int) (x : Int) : Option ((Int × Int) ⊕ (Int)) :=
  if x > 0 then some (.inl (w64 (n + 1), (ishr x 7))) else some (.inr n)
def winnowerlaw1_OctetSmall (v : Int) : Option (Bool) :=
  if v < 0 then (winnowerlaw1_known).bind fun y => some y else if v > 4611686018427387904 then (winnowerlaw1_known).bind fun y1 => some y1 else (octet_Writer_Nums ([] : List UInt8) ([v] : List Int)).bind fun y2 => (octet_Writer_Out y2).bind fun y3 => (loopM (fun (n, x) => winnowerlaw1_OctetSmall_l0 n x) (1, (ishr v 7))).bind (fun n1 => if ((y3.2.length : Nat) : Int) = n1 then (at? y3.2 0).bind fun x1 => if (decide (((x1.toNat : Nat) : Int) < (((128 : UInt8).toNat : Nat) : Int)) == decide (v < 128)) = true then if n1 = 1 then (winnowerlaw1_known).bind fun y4 => some y4 else (at? y3.2 (w64 (n1 - 1))).bind fun x2 => if ((x2.toNat : Nat) : Int) ≠ (((0 : UInt8).toNat : Nat) : Int) then (winnowerlaw1_known).bind fun y5 => some y5 else some false else some false else some false)
def winnowerlaw1_OctetNums_l0 (v : List Int) (i : Int) (f : List UInt8) (f1 : Bool) : Option ((Int × (List UInt8) × Bool) ⊕ ((Bool) ⊕ ((List UInt8) × Bool))) :=
  if i < ((v.length : Nat) : Int) then (at? v i).bind fun x => (octet_Reader_Num (f, f1)).bind fun y => if y.2 ≠ (if (if 4611686018427387904 < x then 4611686018427387904 else x) > 0 then (if 4611686018427387904 < x then 4611686018427387904 else x) else 0) then some (.inr (.inl false)) else some (.inl (w64 (i + 1), y.1.1, y.1.2)) else some (.inr (.inr (f, f1)))
def winnowerlaw1_OctetNums (v : List Int) : Option (Bool) :=
  if ((v.length : Nat) : Int) > 500 then some true else (octet_Writer_Nums ([] : List UInt8) v).bind fun y => (octet_Writer_Out y).bind fun y1 => (winnowerref1_Nums v).bind fun y2 => (winnowerlaw1_same y1.2 y2).bind fun y3 => if y3 = true then (octet_NewReader y1.2).bind fun y4 => (winnowerlaw1_spoil y1.2).bind fun y5 => (octet_Writer_Out y1.1).bind fun y6 => (octet_NewReader y6.2).bind fun y7 => (loopM (fun (i, f, f1) => winnowerlaw1_OctetNums_l0 v i f f1) (0, y7.1, y7.2)).bind (Sum.elim (fun r => some r) (fun (f2, f3) => (octet_Reader_Good (f2, f3)).bind fun y8 => if y8.2 = true then (octet_Reader_Whole (y8.1.1, y8.1.2)).bind fun y9 => if y9.2 = true then (winnowerlaw1_known).bind fun y10 => some y10 else some false else some false)) else some false
def winnowerlaw1_OctetCuts_l0 (l : List (List UInt8)) (all : List UInt8) (ends : List Int) (i : Int) : Option (((List UInt8) × (List Int) × Int) ⊕ ((List UInt8) × (List Int))) :=
  if i < ((l.length : Nat) : Int) then (at? l i).bind fun x => (winnowerref1_Bytes x).bind fun y => (app? 1 all y).bind fun q => (app? 8 ends ([((q.length : Nat) : Int)] : List Int)).bind fun q1 => some (.inl (q, q1, w64 (i + 1))) else some (.inr (all, ends))
def winnowerlaw1_OctetCuts_l1 (l : List (List UInt8)) (ends : List Int) (q : Int) (i : Int) (f : List UInt8) (f1 : Bool) : Option ((Int × (List UInt8) × Bool) ⊕ ((Bool) ⊕ ((List UInt8) × Bool))) :=
  if i < ((l.length : Nat) : Int) then (octet_Reader_Bytes (f, f1)).bind fun y => (at? ends i).bind fun x => if x ≤ q then (at? l i).bind fun x1 => (winnowerlaw1_same y.2 x1).bind fun y1 => if y1 = true then (octet_Reader_Good (y.1.1, y.1.2)).bind fun y2 => if y2.2 = true then some (.inl (w64 (i + 1), y2.1.1, y2.1.2)) else some (.inr (.inl false)) else some (.inr (.inl false)) else if ((y.2.length : Nat) : Int) ≠ 0 then some (.inr (.inl false)) else (octet_Reader_Good (y.1.1, y.1.2)).bind fun y3 => if y3.2 = true then some (.inr (.inl false)) else (octet_Reader_Left (y3.1.1, y3.1.2)).bind fun y4 => if y4.2 ≠ 0 then some (.inr (.inl false)) else some (.inl (w64 (i + 1), y4.1.1, y4.1.2)) else some (.inr (.inr (f, f1)))
def winnowerlaw1_OctetCuts (l : List (List UInt8)) (at_ : Int) : Option (Bool) :=
  (winnowerlaw1_heavyRows l).bind fun y => if y = true then some true else if ((l.length : Nat) : Int) = 0 then some true else (loopM (fun (all, ends, i) => winnowerlaw1_OctetCuts_l0 l all ends i) (([] : List UInt8), ([] : List Int), 0)).bind (fun (all1, ends1) => (rem? (iand at_ 1073741823) ((all1.length : Nat) : Int)).bind fun q => (sub? all1 0 q).bind fun q1 => (octet_NewReader q1).bind fun y1 => (loopM (fun (i1, f, f1) => winnowerlaw1_OctetCuts_l1 l ends1 q i1 f f1) (0, y1.1, y1.2)).bind (Sum.elim (fun r => some r) (fun (f2, f3) => (octet_Reader_Whole (f2, f3)).bind fun y2 => if y2.2 = true then some false else (octet_Reader_Num (y2.1.1, y2.1.2)).bind fun y3 => if y3.2 = 0 then (winnowerlaw1_known).bind fun y4 => some y4 else some false)))
end
end Go.Proofs.Ytdicpnnmhjgnbaa.FW
