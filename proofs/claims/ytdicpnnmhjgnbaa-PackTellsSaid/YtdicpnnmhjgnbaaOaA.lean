/- octet: numbers, rows and sums of bytes, as plain Lean. -/
import Derived.Test.YtdicpnnmhjgnbaaOcQ
import Derived.Test.YtdicpnnmhjgnbaaP1
import Derived.Test.YtdicpnnmhjgnbaaX4
namespace Go.Proofs.Ytdicpnnmhjgnbaa.FW
set_option linter.unusedVariables false
set_option linter.unusedSimpArgs false
theorem app_sm {α : Type} {k : Nat} {a b : List α} (hk : k ≤ 1000) (h : a.length + b.length ≤ 100000000000) : app? k a b = some (a ++ b) :=
  app?_eq (Nat.le_trans (Nat.mul_le_mul h hk) (by decide))
theorem sub_eq {α : Type} {l : List α} {i j : Int} (h : 0 ≤ i ∧ i ≤ j ∧ j ≤ (l.length : Int)) : sub? l i j = some ((l.take j.toNat).drop i.toNat) := if_pos h
/-- A number as bytes. -/
def enc (u : Nat) : List UInt8 := if h : u < 128 then [UInt8.ofNat u] else UInt8.ofNat (u % 128 + 128) :: enc (u / 128)
termination_by u
decreasing_by omega
theorem enc_small {u : Nat} (h : u < 128) : enc u = [UInt8.ofNat u] := by rw [enc, dif_pos h]
theorem enc_big {u : Nat} (h : ¬ u < 128) : enc u = UInt8.ofNat (u % 128 + 128) :: enc (u / 128) := by rw [enc, dif_neg h]
def clamp (x : Int) : Nat := (max 0 (min x 4611686018427387904)).toNat
def encs (xs : List Int) : List UInt8 := xs.flatMap fun x => enc (clamp x)
theorem enc_length (u : Nat) : ∀ k, u < 128 ^ (k + 1) → (enc u).length ≤ k + 1 := by
  induction u using Nat.strongRecOn with
  | _ u ih =>
    intro k hk
    by_cases h : u < 128
    · rw [enc_small h]; simp
    · rw [enc_big h]
      cases k with
      | zero => simp at hk; omega
      | succ k =>
        have := ih (u / 128) (by omega) k (by rw [Nat.pow_succ] at hk; omega)
        simp only [List.length_cons]; omega
theorem clamp_le (x : Int) : clamp x ≤ 4611686018427387904 := by unfold clamp; omega
theorem enc_clamp_length (x : Int) : (enc (clamp x)).length ≤ 9 :=
  enc_length _ 8 (Nat.lt_of_le_of_lt (clamp_le x) (by decide))
theorem clamp_eq (x : Int) : (if (if 4611686018427387904 < x then 4611686018427387904 else x) > 0 then if 4611686018427387904 < x then 4611686018427387904 else x else 0) = ((clamp x : Nat) : Int) := by
  unfold clamp; split <;> split at * <;> omega
theorem encs_take_succ {xs : List Int} {i : Nat} (h : i < xs.length) : encs (xs.take (i + 1)) = encs (xs.take i) ++ enc (clamp (xs.getD i 0)) := by
  rw [List.take_succ_eq_append_getElem h]
  have h2 : xs.getD i 0 = xs[i] := by simp [List.getD_eq_getElem?_getD, h]
  rw [h2]
  simp only [encs, List.flatMap_append, List.flatMap_cons, List.flatMap_nil, List.append_nil]
theorem encs_length (xs : List Int) : (encs xs).length ≤ 9 * xs.length := by
  induction xs with
  | nil => simp [encs]
  | cons x r ih =>
    have := enc_clamp_length x
    simp only [encs, List.flatMap_cons, List.length_append, List.length_cons] at ih ⊢
    omega
/-- A row with its length. -/
def encRow (r : List UInt8) : List UInt8 := enc r.length ++ r
theorem enc_nat_length (u : Nat) (h : u ≤ 4611686018427387904) : (enc u).length ≤ 9 := enc_length u 8 (Nat.lt_of_le_of_lt h (by decide))
theorem clamp_nat (u : Nat) (h : u ≤ 4611686018427387904) : clamp (u : Int) = u := by unfold clamp; omega
theorem encRow_length (r : List UInt8) (h : r.length ≤ 1000000000) : (encRow r).length ≤ 9 + r.length := by
  have := enc_nat_length r.length (by omega)
  simp only [encRow, List.length_append]; omega
theorem flat_take_succ {α β : Type} [Inhabited α] (f : α → List β) (d : α) (rows : List α) {i : Nat} (h : i < rows.length) : (rows.take (i + 1)).flatMap f = (rows.take i).flatMap f ++ f (rows.getD i d) := by
  rw [List.take_succ_eq_append_getElem h]
  have h2 : rows.getD i d = rows[i] := by simp [List.getD_eq_getElem?_getD, h]
  rw [h2]
  simp only [List.flatMap_append, List.flatMap_cons, List.flatMap_nil, List.append_nil]
theorem flat_take_le {α β : Type} (f : α → List β) (rows : List α) (i : Nat) : ((rows.take i).flatMap f).length ≤ (rows.flatMap f).length := by
  conv => rhs; rw [← List.take_append_drop i rows, List.flatMap_append, List.length_append]
  omega
/-- A number out of bytes. -/
def decGo : Nat → Nat → List UInt8 → Option (Nat × List UInt8)
  | _, _, [] => none
  | i, u, c :: r => if i ≥ 9 ∨ (i > 0 ∧ c = 0) then none else
    if c.toNat < 128 then (if u + c.toNat * 128 ^ i > 4611686018427387904 then none else some (u + c.toNat * 128 ^ i, r)) else decGo (i + 1) (u + (c.toNat - 128) * 128 ^ i) r
def dec (l : List UInt8) : Option (Nat × List UInt8) := decGo 0 0 l
theorem decGo_bound : ∀ (l : List UInt8) (i u : Nat) (v : Nat) (r : List UInt8), decGo i u l = some (v, r) → v ≤ 4611686018427387904 ∧ r.length < l.length
  | [], _, _, _, _, h => by simp [decGo] at h
  | c :: l, i, u, v, r, h => by
    rw [decGo] at h
    split at h
    · cases h
    · split at h
      · split at h
        · cases h
        · simp only [Option.some.injEq, Prod.mk.injEq] at h
          obtain ⟨rfl, rfl⟩ := h
          exact ⟨by omega, by simp⟩
      · have := decGo_bound l _ _ v r h
        exact ⟨this.1, by simp; omega⟩
theorem decGo_enc (u : Nat) : ∀ (i a : Nat) (r : List UInt8), (i > 0 → u > 0) → a + u * 128 ^ i ≤ 4611686018427387904 → (i > 0 ∨ i < 9) → decGo i a (enc u ++ r) = some (a + u * 128 ^ i, r) := by
  induction u using Nat.strongRecOn with
  | _ u ih =>
    intro i a r h0 hb _
    have h9 : ¬ i ≥ 9 := fun h => by
      have h1 : 128 ^ 9 ≤ 128 ^ i := Nat.pow_le_pow_right (by decide) h
      have h2 : 1 * 128 ^ i ≤ u * 128 ^ i := Nat.mul_le_mul_right _ (h0 (by omega))
      have h99 : (128 : Nat) ^ 9 = 9223372036854775808 := by decide
      omega
    by_cases h : u < 128
    · have hc : (UInt8.ofNat u).toNat = u := by simp only [UInt8.toNat_ofNat']; omega
      rw [enc_small h]
      simp only [List.cons_append, List.nil_append, decGo]
      rw [hc, if_neg, if_pos h, if_neg (by omega)]
      rintro (h1 | ⟨h1, h2⟩)
      · exact h9 h1
      · rw [h2] at hc; have := h0 h1; simp at hc; omega
    · have hc : (UInt8.ofNat (u % 128 + 128)).toNat = u % 128 + 128 := by simp only [UInt8.toNat_ofNat']; omega
      have hs : u % 128 * 128 ^ i + u / 128 * 128 ^ (i + 1) = u * 128 ^ i := by
        rw [Nat.pow_succ, Nat.mul_comm (128 ^ i) 128, ← Nat.mul_assoc, ← Nat.add_mul]
        congr 1
        omega
      rw [enc_big h]
      simp only [List.cons_append, decGo]
      rw [hc, if_neg, if_neg (by omega), Nat.add_sub_cancel, ih (u / 128) (by omega) (i + 1) _ r (fun _ => by omega) (by rw [Nat.add_assoc, hs]; exact hb) (Or.inl (by omega)), Nat.add_assoc, hs]
      rintro (h1 | ⟨h1, h2⟩)
      · exact h9 h1
      · rw [h2] at hc; simp at hc
theorem dec_enc (u : Nat) (r : List UInt8) (hu : u ≤ 4611686018427387904) : dec (enc u ++ r) = some (u, r) := by
  have := decGo_enc u 0 0 r (fun h => absurd h (by decide)) (by simpa using hu) (Or.inr (by decide))
  simpa [dec] using this
theorem encs_drop {xs : List Int} {i : Nat} (h : i < xs.length) : encs (xs.drop i) = enc (clamp (xs.getD i 0)) ++ encs (xs.drop (i + 1)) := by
  have : xs.drop i = xs.getD i 0 :: xs.drop (i + 1) := by
    rw [List.drop_eq_getElem_cons h]; simp [List.getD_eq_getElem?_getD, h]
  rw [this]; simp [encs]
def weight (rows : List (List UInt8)) : Nat := (rows.map fun r => 3 + r.length).sum
theorem weight_take_succ (rows : List (List UInt8)) {i : Nat} (h : i < rows.length) : weight (rows.take (i + 1)) = weight (rows.take i) + (3 + (rows.getD i []).length) := by
  unfold weight
  rw [List.take_succ_eq_append_getElem h, List.map_append, List.sum_append]
  simp only [List.map_cons, List.map_nil, List.sum_cons, List.sum_nil, List.getD_eq_getElem?_getD, List.getElem?_eq_getElem h, Option.getD_some, Nat.add_zero]
theorem weight_count : ∀ rows : List (List UInt8), 3 * rows.length ≤ weight rows
  | [] => by simp [weight]
  | r :: rs => by
    have := weight_count rs
    simp only [weight, List.map_cons, List.sum_cons, List.length_cons] at *
    omega
theorem weight_row {rows : List (List UInt8)} {i : Nat} (h : i < rows.length) : (rows.getD i []).length + 3 ≤ weight rows := by
  have h1 := weight_take_succ rows h
  have h2 : ∀ (a b : List (List UInt8)), weight (a ++ b) = weight a + weight b := fun a b => by simp [weight]
  have h3 := h2 (rows.take (i + 1)) (rows.drop (i + 1))
  rw [List.take_append_drop] at h3
  omega
theorem dec_row (r rest : List UInt8) (h : r.length ≤ 4611686018427387904) : dec (encRow r ++ rest) = some (r.length, r ++ rest) := by
  unfold encRow; rw [List.append_assoc]; exact dec_enc _ _ h
theorem flat_weight : ∀ rows : List (List UInt8), weight rows ≤ 4000 → (rows.flatMap encRow).length ≤ 4 * weight rows
  | [], _ => by simp [weight]
  | r :: rs, h => by
    have h1 : weight (r :: rs) = (3 + r.length) + weight rs := by simp [weight]
    have h2 := flat_weight rs (by omega)
    have h3 := encRow_length r (by omega)
    simp only [List.flatMap_cons, List.length_append]
    omega
abbrev Rd := List UInt8 × Bool
/-! ### Bytes of numbers -/
theorem ofI8_nat (u : Nat) : ofI8 (u : Int) = UInt8.ofNat u := by
  unfold ofI8
  rw [show ((u : Int) % 256).toNat = u % 256 by omega]
  apply UInt8.toNat_inj.1
  simp
theorem or128 : ∀ y : Fin 256, (UInt8.ofNat y.val ||| 128) = UInt8.ofNat (y.val % 128 + 128) := by decide +kernel
theorem byte_more (u : Nat) : (ofI8 (u : Int) ||| (128 : UInt8)) = UInt8.ofNat (u % 128 + 128) := by
  rw [ofI8_nat]
  have h1 : UInt8.ofNat u = UInt8.ofNat (u % 256) := by apply UInt8.toNat_inj.1; simp
  rw [h1, or128 ⟨u % 256, Nat.mod_lt _ (by decide)⟩]
  simp only
  congr 1; omega
theorem shr7 (u : UInt64) : (FW.shr64 u 7).toNat = u.toNat / 128 := by
  have := u.toNat_lt
  unfold FW.shr64
  rw [show min 7 64 = 7 from rfl, UInt64.toNat_ofNat']
  have h2 : u.toNat / 2 ^ 7 < 2 ^ 64 := by omega
  rw [Nat.mod_eq_of_lt h2]
theorem and127u (u : UInt64) : (u &&& (127 : UInt64)).toNat = u.toNat % 128 := by
  rw [UInt64.toNat_and]
  exact Nat.and_two_pow_sub_one_eq_mod u.toNat 7
theorem ofI64_nat (u : Nat) (h : u < 18446744073709551616) : (ofI64 (u : Int)).toNat = u := by
  unfold ofI64
  rw [show ((u : Int) % 18446744073709551616).toNat = u by omega, UInt64.toNat_ofNat', Nat.mod_eq_of_lt h]
theorem enc_pos (u : Nat) : 0 < (enc u).length := by
  by_cases h : u < 128
  · rw [enc_small h]; simp
  · rw [enc_big h]; simp
theorem wnums_loop (n : Nat) : ∀ (u : UInt64) (f : List UInt8), u.toNat = n → f.length + (enc n).length ≤ 10000000000 →
    ∃ u' f', loopM (fun (u, f) => octet_Writer_Nums_l0 u f) (u, f) = some (u', f') ∧ f' ++ [ofI8 ((u'.toNat : Nat) : Int)] = f ++ enc n := by
  induction n using Nat.strongRecOn with
  | _ n ih =>
    intro u f hu hl
    by_cases h : n < 128
    · refine ⟨u, f, loopM_inr ?_, ?_⟩
      · simp only
        unfold octet_Writer_Nums_l0
        rw [if_neg (by rw [hu]; show ¬ (n : Int) ≥ 128; omega)]
      · rw [enc_small h, hu, ofI8_nat]
    · rw [enc_big h, List.length_cons] at hl
      have h3 : app? 1 f [((ofI8 ((u.toNat : Nat) : Int)) ||| (128 : UInt8))] = some (f ++ [UInt8.ofNat (n % 128 + 128)]) := by
        rw [byte_more, hu, app_sm (by decide) (by simp; omega)]
      have step : octet_Writer_Nums_l0 u f = some (.inl (FW.shr64 u 7, f ++ [UInt8.ofNat (n % 128 + 128)])) := by
        unfold octet_Writer_Nums_l0
        rw [if_pos (by rw [hu]; show (n : Int) ≥ 128; omega), h3, Option.bind_some]
      obtain ⟨u', f', h1, h2⟩ := ih (n / 128) (by omega) (FW.shr64 u 7) (f ++ [UInt8.ofNat (n % 128 + 128)]) (by rw [shr7, hu]) (by simp; omega)
      refine ⟨u', f', ?_, ?_⟩
      · rw [loopM_inl (step := fun (u, f) => octet_Writer_Nums_l0 u f) (s := (u, f)) (s' := (FW.shr64 u 7, f ++ [UInt8.ofNat (n % 128 + 128)])) step, h1]
      · rw [h2, enc_big h, List.append_assoc]; rfl
theorem rnum_loop (n : Nat) : ∀ (u : UInt64) (f : List UInt8), u.toNat = n → f.length + (enc n).length ≤ 10000000000 →
    ∃ u' f', loopM (fun (u, f) => winnowerref1_Num_l0 u f) (u, f) = some (u', f') ∧ f'.length + 1 ≤ 10000000000 ∧ f' ++ [ofI8 ((u'.toNat : Nat) : Int)] = f ++ enc n := by
  induction n using Nat.strongRecOn with
  | _ n ih =>
    intro u f hu hl
    by_cases h : n < 128
    · refine ⟨u, f, loopM_inr ?_, ?_, ?_⟩
      · simp only
        unfold winnowerref1_Num_l0
        rw [if_neg (by rw [hu]; show ¬ (n : Int) ≥ 128; omega)]
      · have := enc_pos n; omega
      · rw [enc_small h, hu, ofI8_nat]
    · rw [enc_big h, List.length_cons] at hl
      have h3 : app? 1 f [((ofI8 (((u &&& (127 : UInt64)).toNat : Nat) : Int)) ||| (128 : UInt8))] = some (f ++ [UInt8.ofNat (n % 128 + 128)]) := by
        rw [and127u, byte_more, hu, app_sm (by decide) (by simp; omega), Nat.mod_mod]
      have step : winnowerref1_Num_l0 u f = some (.inl (FW.shr64 u 7, f ++ [UInt8.ofNat (n % 128 + 128)])) := by
        unfold winnowerref1_Num_l0
        rw [if_pos (by rw [hu]; show (n : Int) ≥ 128; omega), h3, Option.bind_some]
      obtain ⟨u', f', h1, h2, h4⟩ := ih (n / 128) (by omega) (FW.shr64 u 7) (f ++ [UInt8.ofNat (n % 128 + 128)]) (by rw [shr7, hu]) (by simp; omega)
      refine ⟨u', f', ?_, h2, ?_⟩
      · rw [loopM_inl (step := fun (u, f) => winnowerref1_Num_l0 u f) (s := (u, f)) (s' := (FW.shr64 u 7, f ++ [UInt8.ofNat (n % 128 + 128)])) step, h1]
      · rw [h4, enc_big h, List.append_assoc]; rfl
theorem ofI64_clamp (x : Int) : (ofI64 (if (if 4611686018427387904 < x then 4611686018427387904 else x) > 0 then (if 4611686018427387904 < x then 4611686018427387904 else x) else 0)).toNat = clamp x := by
  rw [clamp_eq, ofI64_nat _ (Nat.lt_of_le_of_lt (clamp_le x) (by decide))]
theorem wNums_loop (v : List Int) (w : List UInt8) (h : w.length + 9 * v.length ≤ 1000000000) : ∀ (d i : Nat), i + d = v.length →
    loopM (fun (k, f) => octet_Writer_Nums_l1 v k f) ((i : Int), w ++ encs (v.take i)) = some (w ++ encs v)
  | 0, i, hi => by
    obtain rfl : i = v.length := by omega
    rw [List.take_length]
    refine loopM_inr ?_
    simp only
    unfold octet_Writer_Nums_l1
    rw [if_neg (by omega)]
  | d + 1, i, hi => by
    have h1 : i < v.length := by omega
    have h2 := encs_length (v.take i)
    rw [List.length_take] at h2
    have h3 := enc_clamp_length v[i]
    obtain ⟨u', f', e1, e2⟩ := wnums_loop (clamp v[i]) _ (w ++ encs (v.take i)) (ofI64_clamp v[i]) (by rw [List.length_append]; omega)
    have e3 := congrArg List.length e2
    simp only [List.length_append, List.length_cons, List.length_nil] at e3
    rw [← wNums_loop v w h d (i + 1) (by omega)]
    refine loopM_inl ?_
    simp only
    unfold octet_Writer_Nums_l1
    rw [if_pos (by omega), at?_lt h1, Option.bind_some, e1, Option.bind_some]
    simp only
    rw [app_sm (by decide) (by simp only [List.length_cons, List.length_nil]; omega), Option.bind_some, e2, cast_succ _ (by omega), encs_take_succ h1, List.append_assoc]
    simp [List.getD_eq_getElem?_getD, h1]
theorem wNums_eq (w : List UInt8) (v : List Int) (h : w.length + 9 * v.length ≤ 1000000000) : octet_Writer_Nums w v = some (w ++ encs v) := by
  unfold octet_Writer_Nums
  have := wNums_loop v w h v.length 0 (by omega)
  rw [List.take_zero, show encs [] = [] from rfl, List.append_nil] at this
  rw [show ((0 : Int), w) = (((0 : Nat) : Int), w) from rfl, this]; rfl
theorem wOut_eq (w : List UInt8) (h : w.length ≤ 1000000000) : octet_Writer_Out w = some (w, w) := by
  unfold octet_Writer_Out bytes_Clone
  rw [app_sm (by decide) (by simp; omega)]; rfl
theorem newReader_eq (w : List UInt8) (h : w.length ≤ 1000000000) : octet_NewReader w = some (w, false) := by
  unfold octet_NewReader bytes_Clone
  rw [app_sm (by decide) (by simp; omega)]; rfl
theorem wRaw_eq (w p : List UInt8) (h : w.length + p.length ≤ 1000000000) : octet_Writer_Raw w p = some (w ++ p) := by
  unfold octet_Writer_Raw
  rw [app_sm (by decide) (by omega)]; rfl
theorem rNum_eq (x : Int) (hx : -9223372036854775808 ≤ x ∧ x ≤ 9223372036854775807) : winnowerref1_Num x = some (enc (clamp x)) := by
  have fin : ∀ (u : UInt64), u.toNat = clamp x → ((loopM (fun (u, b) => winnowerref1_Num_l0 u b) (u, ([] : List UInt8))).bind (fun (u1, b1) => (app? 1 b1 ([(ofI8 ((u1.toNat : Nat) : Int))] : List UInt8)).bind fun q => some q)) = some (enc (clamp x)) := by
    intro u hu
    have h3 := enc_clamp_length x
    obtain ⟨u', f', e1, e2, e3⟩ := rnum_loop (clamp x) u [] hu (by simp; omega)
    rw [e1, Option.bind_some]
    simp only
    rw [app_sm (by decide) (by simp; omega), Option.bind_some, e3]; rfl
  unfold winnowerref1_Num
  by_cases h1 : x > 4611686018427387904
  · rw [if_pos h1]
    exact fin _ (by show 4611686018427387904 = clamp x; unfold clamp; omega)
  · rw [if_neg h1]
    by_cases h2 : x > 0
    · rw [if_pos h2]
      refine fin _ ?_
      obtain ⟨k, rfl⟩ : ∃ k : Nat, x = (k : Int) := ⟨x.toNat, by omega⟩
      rw [ofI64_nat _ (by omega), clamp_nat _ (by omega)]
    · rw [if_neg h2]
      exact fin _ (by show 0 = clamp x; unfold clamp; omega)
theorem rNums_loop (v : List Int) (hr : ∀ x ∈ v, -9223372036854775808 ≤ x ∧ x ≤ 9223372036854775807) (h : 9 * v.length ≤ 1000000000) : ∀ (d i : Nat), i + d = v.length →
    loopM (fun (b, k) => winnowerref1_Nums_l0 v b k) (encs (v.take i), (i : Int)) = some (encs v)
  | 0, i, hi => by
    obtain rfl : i = v.length := by omega
    rw [List.take_length]
    refine loopM_inr ?_
    simp only
    unfold winnowerref1_Nums_l0
    rw [if_neg (by omega)]
  | d + 1, i, hi => by
    have h1 : i < v.length := by omega
    have h2 := encs_length (v.take i)
    rw [List.length_take] at h2
    have h3 := enc_clamp_length v[i]
    rw [← rNums_loop v hr h d (i + 1) (by omega)]
    refine loopM_inl ?_
    simp only
    unfold winnowerref1_Nums_l0
    rw [if_pos (by omega), at?_lt h1, Option.bind_some, rNum_eq _ (hr _ (List.getElem_mem h1)), Option.bind_some, app_sm (by decide) (by omega), Option.bind_some, cast_succ _ (by omega), encs_take_succ h1]
    simp [List.getD_eq_getElem?_getD, h1]
theorem rNums_eq (v : List Int) (hr : ∀ x ∈ v, -9223372036854775808 ≤ x ∧ x ≤ 9223372036854775807) (h : 9 * v.length ≤ 1000000000) : winnowerref1_Nums v = some (encs v) := by
  unfold winnowerref1_Nums
  have := rNums_loop v hr h v.length 0 (by omega)
  rw [List.take_zero, show encs [] = [] from rfl] at this
  rw [show (([] : List UInt8), (0 : Int)) = ([], ((0 : Nat) : Int)) from rfl, this]; rfl
theorem rBytes_eq (p : List UInt8) (h : p.length ≤ 1000000000) : winnowerref1_Bytes p = some (encRow p) := by
  have h3 := enc_clamp_length (p.length : Int)
  unfold winnowerref1_Bytes
  rw [rNum_eq _ (by omega), Option.bind_some, app_sm (by decide) (by omega), clamp_nat _ (by omega)]; rfl
/-! ### Bytes read -/
theorem and127b : ∀ y : Fin 256, (UInt8.ofNat y.val &&& 127).toNat = y.val % 128 := by decide +kernel
theorem low7 (x : UInt8) : (x &&& (127 : UInt8)).toNat = x.toNat % 128 := by
  have h := and127b ⟨x.toNat, x.toNat_lt⟩
  simpa using h
/-- Seven more bits. -/
theorem or_shl (u : UInt64) (x : UInt8) (i : Nat) (hi : i < 9) (hu : u.toNat < 128 ^ i) :
    (u ||| FW.shl64 (ofI64 (((x &&& (127 : UInt8)).toNat : Nat) : Int)) (7 * i)).toNat = u.toNat + x.toNat % 128 * 128 ^ i := by
  have hx := x.toNat_lt
  have hp128 : 128 ^ (i + 1) ≤ 128 ^ 9 := Nat.pow_le_pow_right (by decide) (by omega)
  have hps : 128 ^ (i + 1) = 128 * 128 ^ i := by rw [Nat.pow_succ, Nat.mul_comm]
  have hq1 : x.toNat % 128 * 128 ^ i ≤ 127 * 128 ^ i := Nat.mul_le_mul_right _ (by omega)
  have h99 : (128 : Nat) ^ 9 = 9223372036854775808 := by decide
  have hpow : x.toNat % 128 * 2 ^ (7 * i) = x.toNat % 128 * 128 ^ i := by rw [Nat.pow_mul]
  have hs : (FW.shl64 (ofI64 (((x &&& (127 : UInt8)).toNat : Nat) : Int)) (7 * i)).toNat = x.toNat % 128 * 128 ^ i := by
    unfold FW.shl64
    rw [ofI64_nat _ (by rw [low7]; omega), low7, Nat.min_eq_left (by omega), hpow, UInt64.toNat_ofNat', Nat.mod_mod, Nat.mod_eq_of_lt (by omega)]
  rw [UInt64.toNat_or, hs]
  have h1 : u.toNat < 2 ^ (7 * i) := by rw [Nat.pow_mul]; exact hu
  have h2 := Nat.two_pow_add_eq_or_of_lt h1 (x.toNat % 128)
  rw [← hpow, Nat.or_comm, Nat.mul_comm, ← h2, Nat.add_comm]
/-- What Num comes to. -/
def numB (r : Rd) : Rd × Int := match dec r.1 with
  | some (u, rest) => ((rest, r.2), (u : Int))
  | none => (([], true), 0)
theorem num_loop (r : Rd) (hr : r.1.length < 100000000000) : ∀ (d i : Nat) (u : UInt64), i + d = r.1.length → i ≤ 9 → u.toNat < 128 ^ i → dec r.1 = decGo i u.toNat (r.1.drop i) →
    loopM (fun (u, v) => octet_Reader_Num_l0 r u v) (u, (i : Int)) = some (match dec r.1 with
      | some (w, rest) => .inl ((rest, r.2), (w : Int))
      | none => .inr ())
  | 0, i, u, hi, h9, hu, hd => by
    rw [List.drop_eq_nil_of_le (by omega), decGo] at hd
    rw [hd]
    refine loopM_inr ?_
    simp only
    unfold octet_Reader_Num_l0
    rw [if_neg (by omega)]
  | d + 1, i, u, hi, h9, hu, hd => by
    have h1 : i < r.1.length := by omega
    rw [List.drop_eq_getElem_cons h1, decGo] at hd
    have hx := (r.1[i]).toNat_lt
    generalize hxe : r.1[i] = x at hd hx
    have hat : at? r.1 (i : Int) = some x := by rw [at?_lt h1, hxe]
    by_cases hi9 : i ≥ 9
    · rw [if_pos (.inl hi9)] at hd
      rw [hd]
      refine loopM_inr ?_
      simp only
      unfold octet_Reader_Num_l0
      rw [if_pos (by omega), hat, Option.bind_some, if_pos (by omega)]
    by_cases h0 : i > 0 ∧ x = 0
    · rw [if_pos (.inr h0)] at hd
      rw [hd]
      refine loopM_inr ?_
      simp only
      unfold octet_Reader_Num_l0
      rw [if_pos (by omega), hat, Option.bind_some, if_neg (by omega), if_pos (by omega), if_pos (by rw [h0.2])]
    rw [if_neg (by rintro (h | h); exact hi9 h; exact h0 h)] at hd
    have ho := or_shl u x i (by omega) hu
    have hp128 : 128 ^ (i + 1) ≤ 128 ^ 9 := Nat.pow_le_pow_right (by decide) (by omega)
    have hps : 128 ^ (i + 1) = 128 * 128 ^ i := by rw [Nat.pow_succ, Nat.mul_comm]
    have hq1 : x.toNat % 128 * 128 ^ i ≤ 127 * 128 ^ i := Nat.mul_le_mul_right _ (by omega)
    have h99 : (128 : Nat) ^ 9 = 9223372036854775808 := by decide
    have hm : amt? (w64 (7 * (i : Int))) = some (7 * i) := by
      rw [w64_id (by omega)]; unfold amt?; rw [if_pos (by omega)]; exact congrArg some (by omega)
    have hsub : sub? r.1 ((i + 1 : Nat) : Int) ((r.1.length : Nat) : Int) = some (r.1.drop (i + 1)) := by
      rw [sub_eq (by omega), Int.toNat_natCast, Int.toNat_natCast, List.take_length]
    -- what the round comes to
    have step : octet_Reader_Num_l0 r u (i : Int) = if x.toNat < 128 then (if u.toNat + x.toNat % 128 * 128 ^ i > 4611686018427387904 then some (.inr (.inr ())) else some (.inr (.inl ((r.1.drop (i + 1), r.2), ((u.toNat + x.toNat % 128 * 128 ^ i : Nat) : Int)))))
        else some (.inl ((u ||| FW.shl64 (ofI64 (((x &&& (127 : UInt8)).toNat : Nat) : Int)) (7 * i)), ((i + 1 : Nat) : Int))) := by
      have hw : w64 (((u ||| FW.shl64 (ofI64 (((x &&& (127 : UInt8)).toNat : Nat) : Int)) (7 * i)).toNat : Nat) : Int) = ((u.toNat + x.toNat % 128 * 128 ^ i : Nat) : Int) := by rw [ho, w64_id (by omega)]
      have hc : ((((u ||| FW.shl64 (ofI64 (((x &&& (127 : UInt8)).toNat : Nat) : Int)) (7 * i)).toNat : Nat) : Int) > (((4611686018427387904 : UInt64).toNat : Nat) : Int)) ↔ u.toNat + x.toNat % 128 * 128 ^ i > 4611686018427387904 := by
        rw [ho]; show (_ : Int) > ((4611686018427387904 : Nat) : Int) ↔ _; omega
      have hl : (((x.toNat : Nat) : Int) < (((128 : UInt8).toNat : Nat) : Int)) ↔ x.toNat < 128 := by show (_ : Int) < ((128 : Nat) : Int) ↔ _; omega
      unfold octet_Reader_Num_l0
      rw [if_pos (by omega), hat, Option.bind_some, if_neg (by omega)]
      simp only [hm, Option.bind_some, hw, hc, hl, hsub, cast_succ i (by omega)]
      by_cases hz : (i : Int) > 0
      · rw [if_pos hz, if_neg (by
          intro h
          exact h0 ⟨by omega, UInt8.toNat_inj.1 (by simpa using h)⟩)]
      · rw [if_neg hz]
    by_cases hlt : x.toNat < 128
    · rw [if_pos hlt] at step
      rw [if_pos hlt, show x.toNat * 128 ^ i = x.toNat % 128 * 128 ^ i by rw [Nat.mod_eq_of_lt hlt]] at hd
      by_cases hbig : u.toNat + x.toNat % 128 * 128 ^ i > 4611686018427387904
      · rw [if_pos hbig] at step hd
        rw [hd]
        exact loopM_inr step
      · rw [if_neg hbig] at step hd
        rw [hd]
        exact loopM_inr step
    · rw [if_neg hlt] at step hd
      rw [loopM_inl (step := fun (u, v) => octet_Reader_Num_l0 r u v) (s := (u, (i : Int))) step]
      exact num_loop r hr d (i + 1) _ (by omega) (by omega) (by rw [ho]; omega) (by rw [hd, ho, show (x.toNat - 128) = x.toNat % 128 by omega])
theorem num_eq (r : Rd) (hr : r.1.length < 100000000000) : octet_Reader_Num r = some (numB r) := by
  unfold octet_Reader_Num numB
  have := num_loop r hr r.1.length 0 0 (by omega) (by decide) (by decide) rfl
  rw [show ((0 : UInt64), (0 : Int)) = (0, ((0 : Nat) : Int)) from rfl, this, Option.bind_some]
  cases dec r.1 with
  | none => rfl
  | some p => rfl
/-- What Raw comes to. -/
def rawB (r : Rd) (n : Int) : Rd × List UInt8 := if 0 ≤ n ∧ n ≤ (r.1.length : Int) then ((r.1.drop n.toNat, r.2), r.1.take n.toNat) else (([], true), [])
theorem raw_eq (r : Rd) (n : Int) (hr : r.1.length < 1000000000) : octet_Reader_Raw r n = some (rawB r n) := by
  unfold octet_Reader_Raw rawB octet_Reader_Bad bytes_Clone
  by_cases h1 : n < 0
  · rw [if_pos h1, if_neg (by omega)]; rfl
  rw [if_neg h1]
  by_cases h2 : n > ((r.1.length : Nat) : Int)
  · rw [if_pos h2, if_neg (by omega)]; rfl
  rw [if_neg h2, if_pos (by omega), sub_eq (by omega), Option.bind_some, app_sm (by decide) (by simp; omega), Option.bind_some, sub_eq (by omega), Option.bind_some]
  simp
def bytesB (r : Rd) : Rd × List UInt8 := rawB (numB r).1 (numB r).2
theorem numB_len (r : Rd) : (numB r).1.1.length ≤ r.1.length := by
  unfold numB
  cases h : dec r.1 with
  | none => simp
  | some p => exact Nat.le_of_lt (decGo_bound _ _ _ _ _ h).2
theorem bytes_eq (r : Rd) (hr : r.1.length < 1000000000) : octet_Reader_Bytes r = some (bytesB r) := by
  have := numB_len r
  unfold octet_Reader_Bytes bytesB
  have e1 : octet_Reader_Num (r.1, r.2) = some (numB r) := num_eq r (by omega)
  have e2 : octet_Reader_Raw ((numB r).1.1, (numB r).1.2) (numB r).2 = some (rawB (numB r).1 (numB r).2) := raw_eq (numB r).1 _ (by omega)
  rw [e1, Option.bind_some, e2]; rfl
theorem same_eq (a b : List UInt8) (h : a.length < 100000000000) : winnowerlaw1_same a b = some (decide (a = b)) := by
  unfold winnowerlaw1_same
  by_cases hl : a.length = b.length
  · rw [if_neg (by omega)]
    let p : Nat → Bool := fun i => decide (a[i]? = b[i]?)
    rw [loop_all0 (n := a.length) (step := fun i => winnowerlaw1_same_l0 a b i) p (.inr ()) (.inl false) (fun i hi => by
      have h2 : i < b.length := by omega
      unfold winnowerlaw1_same_l0
      rw [if_pos (by omega), at?_lt hi, Option.bind_some, at?_lt h2, Option.bind_some, cast_succ _ (by omega)]
      simp only [p, List.getElem?_eq_getElem hi, List.getElem?_eq_getElem h2, Option.some.injEq]
      by_cases e : a[i] = b[i]
      · rw [if_neg (by rw [e]; simp)]; simp [e]
      · rw [if_pos (fun h => e (UInt8.toNat_inj.1 (by omega)))]; simp [e]) (by
      unfold winnowerlaw1_same_l0
      rw [if_neg (by omega)])]
    have : allF p 0 a.length = decide (a = b) := by
      rw [Bool.eq_iff_iff, allF_iff, decide_eq_true_eq]
      constructor
      · intro hh
        refine List.ext_getElem? fun i => ?_
        rcases Nat.lt_or_ge i a.length with hi | hi
        · exact of_decide_eq_true (hh i (by omega) (by omega))
        · rw [List.getElem?_eq_none hi, List.getElem?_eq_none (by omega)]
      · rintro rfl i _ _; simp [p]
    rw [this]
    cases decide (a = b) <;> rfl
  · rw [if_pos (by omega)]
    exact congrArg some (decide_eq_false (fun e => hl (by rw [e]))).symm
end Go.Proofs.Ytdicpnnmhjgnbaa.FW
