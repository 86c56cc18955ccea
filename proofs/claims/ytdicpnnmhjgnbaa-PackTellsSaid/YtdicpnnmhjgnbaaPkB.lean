/- pack: Decode reads what is told; Best is one of three. -/
import Derived.Test.YtdicpnnmhjgnbaaPkA
namespace Go.Proofs.Ytdicpnnmhjgnbaa.FW
set_option linter.unusedVariables false
set_option linter.unusedSimpArgs false
theorem numB_encs (xs : List Int) (i : Nat) (b : Bool) (h : i < xs.length) (hx : 0 ≤ xs[i] ∧ xs[i] ≤ 4611686018427387904) : numB (encs (xs.drop i), b) = ((encs (xs.drop (i + 1)), b), xs[i]) := by
  have h1 := encs_drop h
  have h2 : xs.getD i 0 = xs[i] := by simp [List.getD_eq_getElem?_getD, h]
  rw [h2] at h1
  have h3 := clamp_le xs[i]
  have h4 : ((clamp xs[i] : Nat) : Int) = xs[i] := by unfold clamp; omega
  unfold numB
  simp only [h1, dec_enc _ _ h3, h4]
theorem num_encs (xs : List Int) (i : Nat) (b : Bool) (h : i < xs.length) (hx : 0 ≤ xs[i] ∧ xs[i] ≤ 4611686018427387904) (hl : xs.length ≤ 100000) : octet_Reader_Num (encs (xs.drop i), b) = some ((encs (xs.drop (i + 1)), b), xs[i]) := by
  have h1 := encs_length (xs.drop i)
  rw [List.length_drop] at h1
  rw [num_eq _ (by simp only; omega), numB_encs xs i b h hx]
theorem good_f (b : List UInt8) : octet_Reader_Good (b, false) = some ((b, false), true) := rfl
/-- A row is read, number by number. -/
theorem take_l0 (l : List Int) (hm : mayB l = true) : ∀ (d i : Nat) (last : Int), i + d = l.length →
    loopM (fun (q, last, f, f1) => pack_take_l0 0 (l.length : Int) q last f f1) (l.take i, last, encs (l.drop i), false) = some (l, [], false)
  | 0, i, last, hi => by
    obtain rfl : i = l.length := by omega
    rw [List.take_length, List.drop_length]
    refine loopM_inr ?_
    simp only
    unfold pack_take_l0
    rw [if_neg (by omega)]; rfl
  | d + 1, i, last, hi => by
    have h1 : i < l.length := by omega
    have hb := (mayB_iff.1 hm).1
    have h2 := (mayB_iff.1 hm).2 i h1
    rw [← take_l0 l hm d (i + 1) l[i] (by omega)]
    refine loopM_inl ?_
    simp only
    unfold pack_take_l0
    rw [if_pos (by rw [List.length_take]; omega), good_f, Option.bind_some]
    simp only [↓reduceIte, Int.reduceEq]
    rw [num_encs l i false h1 (by omega) (by omega), Option.bind_some]
    simp only
    rw [if_neg (by omega), if_neg (by omega), app_sm (by decide) (by rw [List.length_take]; simp only [List.length_cons, List.length_nil]; omega), Option.bind_some, List.take_succ_eq_append_getElem h1]
theorem take_l1 (l : List Int) (hm : mayB l = true) : ∀ (d i : Nat), i + d = l.length →
    loopM (fun (q, last, f, f1) => pack_take_l0 1 (l.length : Int) q last f f1) (l.take i, prev l i, encs ((dlN l l.length).drop i), false) = some (l, [], false)
  | 0, i, hi => by
    obtain rfl : i = l.length := by omega
    rw [List.take_length, List.drop_eq_nil_of_le (by rw [dlN_len]; omega)]
    refine loopM_inr ?_
    simp only
    unfold pack_take_l0
    rw [if_neg (by omega)]; rfl
  | d + 1, i, hi => by
    have h1 : i < l.length := by omega
    have hb := (mayB_iff.1 hm).1
    have h2 := (mayB_iff.1 hm).2 i h1
    have h3 := prev_ok hm i (by omega)
    have h4 : i < (dlN l l.length).length := by rw [dlN_len]; exact h1
    have h5 := dlN_get l l.length i h1
    have h6 : dlAt l i = tB (l[i] - prev l i) := by simp [dlAt, h1]
    have h7 : 0 ≤ dlAt l i ∧ dlAt l i ≤ 4611686018427387904 := by rw [h6]; unfold tB; split <;> omega
    have h8 : prev l (i + 1) = l[i] := by simp [prev, h1]
    rw [← take_l1 l hm d (i + 1) (by omega)]
    refine loopM_inl ?_
    simp only
    unfold pack_take_l0
    rw [if_pos (by rw [List.length_take]; omega), good_f, Option.bind_some]
    simp only [↓reduceIte]
    rw [num_encs _ i false h4 (by rw [h5]; exact h7) (by rw [dlN_len]; omega), Option.bind_some]
    simp only
    rw [h5, h6, back_eq _ (by omega), Option.bind_some, show prev l i + (l[i] - prev l i) = l[i] by omega, w64_id (by omega), if_neg (by omega), if_neg (by omega), app_sm (by decide) (by rw [List.length_take]; simp only [List.length_cons, List.length_nil]; omega), Option.bind_some, List.take_succ_eq_append_getElem h1, h8]
theorem takeRuns_l0 (y y1 : Rd × Int) (l : List Int) (c : Nat) (hc : y.2 = (c : Int)) (hl : l.length + c ≤ 100000) : ∀ (d i : Nat), i + d = c →
    loopM (fun (q, v) => pack_takeRuns_l0 y y1 q v) (l ++ List.replicate i y1.2, (i : Int)) = some (l ++ List.replicate c y1.2)
  | 0, i, hi => by
    obtain rfl : i = c := by omega
    refine loopM_inr ?_
    simp only
    unfold pack_takeRuns_l0
    rw [if_neg (by omega)]
  | d + 1, i, hi => by
    rw [← takeRuns_l0 y y1 l c hc hl d (i + 1) (by omega)]
    refine loopM_inl ?_
    simp only
    unfold pack_takeRuns_l0
    rw [if_pos (by omega), app_sm (by decide) (by simp only [List.length_append, List.length_replicate, List.length_cons, List.length_nil]; omega), Option.bind_some, cast_succ _ (by omega), List.replicate_succ', List.append_assoc]
theorem flatP_drop (ps : List (Nat × Int)) (j : Nat) (h : j < ps.length) : flatP (ps.drop j) = (ps[j].1 : Int) :: ps[j].2 :: flatP (ps.drop (j + 1)) := by
  rw [List.drop_eq_getElem_cons h]; rfl
theorem expP_take (ps : List (Nat × Int)) (j : Nat) (h : j < ps.length) : expP (ps.take (j + 1)) = expP (ps.take j) ++ List.replicate ps[j].1 ps[j].2 := by
  rw [List.take_succ_eq_append_getElem h, expP_app]
  simp [expP]
theorem expP_take_le (ps : List (Nat × Int)) (j : Nat) : (expP (ps.take j)).length ≤ (expP ps).length := by
  conv => rhs; rw [← List.take_append_drop j ps, expP_app, List.length_append]
  omega
theorem numB_cons (x : Int) (rest : List Int) (b : Bool) (hx : 0 ≤ x ∧ x ≤ 4611686018427387904) : numB (encs (x :: rest), b) = ((encs rest, b), x) := by
  have := numB_encs (x :: rest) 0 b (by simp) hx
  simpa using this
theorem num_cons (x : Int) (rest : List Int) (b : Bool) (hx : 0 ≤ x ∧ x ≤ 4611686018427387904) (hl : rest.length ≤ 100000) : octet_Reader_Num (encs (x :: rest), b) = some ((encs rest, b), x) := by
  have h1 := encs_length (x :: rest)
  rw [List.length_cons] at h1
  rw [num_eq _ (by simp only; omega), numB_cons x rest b hx]
theorem takeRuns_l1 (l : List Int) (hm : mayB l = true) (ps : List (Nat × Int)) (he : expP ps = l) (hp : ∀ p ∈ ps, 1 ≤ p.1) : ∀ (d j : Nat), j + d = ps.length →
    loopM (fun (q, v, f, f1) => pack_takeRuns_l1 (ps.length : Int) q v f f1) (expP (ps.take j), (j : Int), encs (flatP (ps.drop j)), false) = some (.inr (l, [], false))
  | 0, j, hj => by
    obtain rfl : j = ps.length := by omega
    rw [List.take_length, List.drop_length, he]
    refine loopM_inr ?_
    simp only
    unfold pack_takeRuns_l1
    rw [if_neg (by omega)]; rfl
  | d + 1, j, hj => by
    have h1 : j < ps.length := by omega
    have hb := (mayB_iff.1 hm).1
    have hpl := expP_len hp
    rw [he] at hpl
    have hc := hp _ (List.getElem_mem h1)
    have ht := expP_take ps j h1
    have hl1 := expP_take_le ps (j + 1)
    have hfl := flatP_len (ps.drop (j + 1))
    rw [List.length_drop] at hfl
    rw [ht, List.length_append, List.length_replicate, he] at hl1
    -- the run's number is one of the row's
    have hv : 0 ≤ ps[j].2 ∧ ps[j].2 ≤ 1099511627776 := by
      have hmem : ps[j].2 ∈ l := by
        rw [← he]
        refine List.mem_flatMap.2 ⟨ps[j], List.getElem_mem h1, ?_⟩
        rw [List.mem_replicate]
        exact ⟨by omega, rfl⟩
      obtain ⟨i, hi, hie⟩ := List.getElem_of_mem hmem
      rw [← hie]
      exact (mayB_iff.1 hm).2 i hi
    rw [← takeRuns_l1 l hm ps he hp d (j + 1) (by omega)]
    refine loopM_inl ?_
    simp only
    unfold pack_takeRuns_l1
    rw [if_pos (by omega), flatP_drop ps j h1, num_cons _ _ _ (by omega) (by simp only [List.length_cons]; omega), Option.bind_some]
    simp only
    rw [num_cons _ _ _ (by omega) (by omega), Option.bind_some]
    simp only
    rw [good_f, Option.bind_some]
    simp only [↓reduceIte]
    rw [if_neg (by omega), w64_id (n := 32768 - ((((expP (ps.take j)).length : Nat)) : Int)) (by omega), if_neg (by omega)]
    have s0 := takeRuns_l0 ((encs (ps[j].2 :: flatP (ps.drop (j + 1))), false), (ps[j].1 : Int)) ((encs (flatP (ps.drop (j + 1))), false), ps[j].2) (expP (ps.take j)) ps[j].1 rfl (by omega) ps[j].1 0 (by omega)
    rw [List.replicate_zero, List.append_nil] at s0
    rw [show (expP (ps.take j), (0 : Int)) = (expP (ps.take j), ((0 : Nat) : Int)) from rfl, s0, Option.bind_some, cast_succ _ (by omega), ht]
theorem whole_eq : octet_Reader_Whole (([] : List UInt8), false) = some (([], false), true) := rfl
theorem equal_eq (a : List UInt8) : bytes_Equal a a = some true := by
  unfold bytes_Equal; simp
/-- What is told is read. -/
theorem decode_ok (way : Int) (l : List Int) (hm : mayB l = true) (hw : way = 0 ∨ way = 1 ∨ way = 2) : ∃ b, pack_told way l = some (b, 0) ∧ pack_Decode b = some (l, 0) := by
  have hb := (mayB_iff.1 hm).1
  -- the end is alike
  have fin : ∀ (w : Int) (n : Int) (xs : List Int), pack_told w l = some (encs (w :: n :: xs), 0) → 0 ≤ w ∧ w ≤ 2 → 0 ≤ n ∧ n ≤ 32768 → xs.length ≤ 65536 → pack_take (encs xs, false) w n = some (([], false), l) →
      ∃ b, pack_told w l = some (b, 0) ∧ pack_Decode b = some (l, 0) := by
    intro w n xs h1 h2 h3 h4 h5
    refine ⟨_, h1, ?_⟩
    have hel := encs_length (w :: n :: xs)
    simp only [List.length_cons] at hel
    unfold pack_Decode
    rw [newReader_eq _ (by omega), Option.bind_some, num_cons _ _ _ (by omega) (by simp only [List.length_cons]; omega), Option.bind_some]
    simp only
    rw [num_cons _ _ _ (by omega) (by omega), Option.bind_some]
    simp only
    rw [h5, Option.bind_some]
    simp only
    rw [whole_eq, Option.bind_some, if_pos rfl, if_neg (by omega), h1, Option.bind_some, if_neg (by simp), equal_eq, Option.bind_some, if_pos rfl]
  rcases hw with rfl | rfl | rfl
  · refine fin 0 (l.length : Int) l (told0 l hm) (by omega) (by omega) (by omega) ?_
    have s := take_l0 l hm l.length 0 0 (by omega)
    rw [List.take_zero, List.drop_zero] at s
    unfold pack_take
    rw [if_neg (by omega), if_neg (by decide), s]; rfl
  · refine fin 1 (l.length : Int) _ (told1 l hm) (by omega) (by omega) (by rw [dlN_len]; omega) ?_
    have s := take_l1 l hm l.length 0 (by omega)
    rw [List.take_zero, List.drop_zero, show prev l 0 = 0 from rfl] at s
    unfold pack_take
    rw [if_neg (by omega), if_neg (by decide), s]; rfl
  · obtain ⟨ps, _, e2, e3, e4⟩ := told2 l hm
    have hpl := expP_len e3
    rw [e2] at hpl
    refine fin 2 (ps.length : Int) _ e4 (by omega) (by omega) (by rw [flatP_len]; omega) ?_
    have s := takeRuns_l1 l hm ps e2 e3 ps.length 0 (by omega)
    rw [List.take_zero, List.drop_zero] at s
    unfold pack_take pack_takeRuns
    rw [if_neg (by omega), if_pos rfl]
    simp only
    rw [show (([] : List Int), (0 : Int), encs (flatP ps), false) = (expP [], ((0 : Nat) : Int), encs (flatP ps), false) from rfl, s]; rfl
/-- The shortest. -/
theorem best_ok (l : List Int) (hm : mayB l = true) (b0 b1 b2 : List UInt8) (h0 : pack_told 0 l = some (b0, 0)) (h1 : pack_told 1 l = some (b1, 0)) (h2 : pack_told 2 l = some (b2, 0)) :
    pack_Best l = some ((if b2.length < (if b1.length < b0.length then b1 else b0).length then b2 else (if b1.length < b0.length then b1 else b0)), 0) := by
  unfold pack_Best pack_Plain
  rw [h0]
  simp only [Option.bind_some]
  have s3 : ∀ b, pack_Best_l0 l (b0, 0) b 3 = some (.inr b) := fun b => by unfold pack_Best_l0; rw [if_neg (by decide)]
  have s1 : ∀ b, pack_Best_l0 l (b0, 0) b 1 = some (.inl (if b1.length < b.length then b1 else b, 2)) := fun b => by
    unfold pack_Best_l0
    rw [if_pos (by decide), if_pos rfl, h1, Option.bind_some]
    simp only
    by_cases h : b1.length < b.length
    · rw [if_pos (by omega), if_pos h]; rfl
    · rw [if_neg (by omega), if_neg h]; rfl
  have s2 : ∀ b, pack_Best_l0 l (b0, 0) b 2 = some (.inl (if b2.length < b.length then b2 else b, 3)) := fun b => by
    unfold pack_Best_l0
    rw [if_pos (by decide), if_pos rfl, h2, Option.bind_some]
    simp only
    by_cases h : b2.length < b.length
    · rw [if_pos (by omega), if_pos h]; rfl
    · rw [if_neg (by omega), if_neg h]; rfl
  rw [loopM_inl (step := fun (best, way) => pack_Best_l0 l (b0, 0) best way) (s := (b0, 1)) (s1 b0)]
  generalize (if b1.length < b0.length then b1 else b0) = m1
  rw [loopM_inl (step := fun (best, way) => pack_Best_l0 l (b0, 0) best way) (s := (m1, 2)) (s2 m1)]
  generalize (if b2.length < m1.length then b2 else m1) = m2
  rw [loopM_inr (step := fun (best, way) => pack_Best_l0 l (b0, 0) best way) (s := (m2, 3)) (s3 m2)]; rfl
theorem best_no (l : List Int) (hm : mayB l = false) : pack_Best l = some ([], 1) := by
  unfold pack_Best pack_Plain
  rw [toldNo 0 l hm]
  simp only [Option.bind_some]
  rw [loopM_inr (step := fun (best, way) => pack_Best_l0 l ([], 1) best way) (s := ([], 1)) (t := []) (by simp only; unfold pack_Best_l0; rw [if_pos (by decide), if_neg (by decide)])]; rfl
theorem best_is (l : List Int) (hm : mayB l = true) : ∃ b, pack_Best l = some (b, 0) ∧ pack_Decode b = some (l, 0) ∧ ∀ way c, (way = 0 ∨ way = 1 ∨ way = 2) → pack_told way l = some (c, 0) → b.length ≤ c.length := by
  obtain ⟨b0, h0, d0⟩ := decode_ok 0 l hm (.inl rfl)
  obtain ⟨b1, h1, d1⟩ := decode_ok 1 l hm (.inr (.inl rfl))
  obtain ⟨b2, h2, d2⟩ := decode_ok 2 l hm (.inr (.inr rfl))
  have hb := best_ok l hm b0 b1 b2 h0 h1 h2
  have key : ∀ b, pack_Decode b = some (l, 0) → b.length ≤ b0.length → b.length ≤ b1.length → b.length ≤ b2.length → pack_Best l = some (b, 0) →
      ∃ b, pack_Best l = some (b, 0) ∧ pack_Decode b = some (l, 0) ∧ ∀ way c, (way = 0 ∨ way = 1 ∨ way = 2) → pack_told way l = some (c, 0) → b.length ≤ c.length := by
    intro b k1 k2 k3 k4 k5
    refine ⟨b, k5, k1, ?_⟩
    rintro way c (rfl | rfl | rfl) hc
    · rw [h0] at hc; obtain ⟨rfl, _⟩ := Prod.mk.inj (Option.some.inj hc); exact k2
    · rw [h1] at hc; obtain ⟨rfl, _⟩ := Prod.mk.inj (Option.some.inj hc); exact k3
    · rw [h2] at hc; obtain ⟨rfl, _⟩ := Prod.mk.inj (Option.some.inj hc); exact k4
  by_cases q1 : b1.length < b0.length
  · rw [if_pos q1] at hb
    by_cases q2 : b2.length < b1.length
    · rw [if_pos q2] at hb; exact key b2 d2 (by omega) (by omega) (by omega) hb
    · rw [if_neg q2] at hb; exact key b1 d1 (by omega) (by omega) (by omega) hb
  · rw [if_neg q1] at hb
    by_cases q2 : b2.length < b0.length
    · rw [if_pos q2] at hb; exact key b2 d2 (by omega) (by omega) (by omega) hb
    · rw [if_neg q2] at hb; exact key b0 d0 (by omega) (by omega) (by omega) hb
theorem numbers_eq (l : List Int) (h : l.length < 1000000) : winnowerlaw16_numbers l l = some true := by
  unfold winnowerlaw16_numbers
  rw [if_neg (by simp), loop_end (n := l.length) (step := fun i => winnowerlaw16_numbers_l0 l l i) (.inr ()) (fun i hi => by
    unfold winnowerlaw16_numbers_l0
    rw [if_pos (by omega), at?_lt hi, Option.bind_some, Option.bind_some, if_neg (by simp), cast_succ _ (by omega)]) (by
    unfold winnowerlaw16_numbers_l0
    rw [if_neg (by omega)])]
  rfl
/-- A row of alike ones. -/
theorem alike_loop (n : Nat) (v : Int) (hn : n ≤ 32768) : ∀ (d i : Nat), i + d = n →
    loopM (fun (rest, k) => pack_told_l1 (List.replicate n v) rest k) ((if i = 0 then [] else [(i : Int), v]), (i : Int)) = some (if n = 0 then [] else [(n : Int), v])
  | 0, i, hi => by
    obtain rfl : i = n := by omega
    refine loopM_inr ?_
    simp only
    unfold pack_told_l1
    rw [if_neg (by simp)]
  | d + 1, i, hi => by
    have h1 : i < (List.replicate n v).length := by simp; omega
    have hg : ∀ j (h : j < (List.replicate n v).length), (List.replicate n v)[j] = v := fun j h => by simp
    rw [← alike_loop n v hn d (i + 1) (by omega), if_neg (show ¬ i + 1 = 0 by omega)]
    refine loopM_inl ?_
    simp only
    unfold pack_told_l1
    rw [if_pos (by omega), at?_lt h1, Option.bind_some, hg]
    by_cases hz : i = 0
    · subst hz
      rw [if_pos rfl, if_pos (show ((0 : Nat) : Int) = 0 from rfl), app_sm (by decide) (by simp), Option.bind_some, inc_at [] 0 v (by simp), Option.bind_some, inc_set [] 0 v _ (by simp), Option.bind_some, cast_succ _ (by omega)]; rfl
    · have hj : w64 ((i : Int) - 1) = ((i - 1 : Nat) : Int) := by rw [w64_id (by omega)]; omega
      rw [if_neg hz, if_neg (by omega), hj, at?_lt (show i - 1 < (List.replicate n v).length by omega), Option.bind_some, hg, if_neg (by simp), show at? [(i : Int), v] (w64 ((([(i : Int), v].length : Nat) : Int) - 2)) = some (i : Int) from inc_at [] i v (by simp), Option.bind_some, show set? [(i : Int), v] (w64 ((([(i : Int), v].length : Nat) : Int) - 2)) (w64 ((i : Int) + 1)) = some [w64 ((i : Int) + 1), v] from inc_set [] i v _ (by simp), Option.bind_some, cast_succ _ (by omega)]
theorem quo_two : quo? ((2 : Nat) : Int) 2 = some 1 := by
  unfold quo?
  rw [if_neg (by decide), show ((2 : Nat) : Int) = 2 * 1 from rfl, Int.mul_tdiv_cancel_left _ (by decide), w64_id (by omega)]
theorem told_alike (n : Nat) (v : Int) (hn : n ≤ 32768) (hm : mayB (List.replicate n v) = true) : pack_told 2 (List.replicate n v) = some (if n = 0 then encs [2, 0] else encs [2, 1, (n : Int), v], 0) := by
  have s := alike_loop n v hn n 0 (by omega)
  rw [if_pos rfl] at s
  unfold pack_told
  rw [may_eq, Option.bind_some, hm, if_pos rfl, wNums_eq _ _ (by simp), Option.bind_some, if_neg (by decide), if_neg (by decide), if_pos rfl, show (([] : List Int), (0 : Int)) = ([], ((0 : Nat) : Int)) from rfl, s, Option.bind_some]
  have h1 := encs_length [2]
  simp only [List.length_cons, List.length_nil] at h1
  by_cases hz : n = 0
  · rw [if_pos hz, if_pos hz]
    have h2 := encs_length [0]
    simp only [List.length_cons, List.length_nil] at h2
    rw [show quo? ((([] : List Int).length : Nat) : Int) 2 = some 0 by unfold quo?; rw [if_neg (by decide)]; exact congrArg some (w64_id (n := 0) (by omega)), Option.bind_some, wNums_eq _ _ (by simp; omega), Option.bind_some, wNums_eq _ _ (by simp; omega), Option.bind_some, wOut_eq _ (by simp [show encs [] = [] from rfl]; omega), Option.bind_some, List.nil_append, ← encs_app, ← encs_app]; rfl
  · rw [if_neg hz, if_neg hz]
    have h2 := encs_length [1]
    have h3 := encs_length [(n : Int), v]
    simp only [List.length_cons, List.length_nil] at h2 h3
    rw [show quo? ((([(n : Int), v] : List Int).length : Nat) : Int) 2 = some 1 from quo_two, Option.bind_some, wNums_eq _ _ (by simp; omega), Option.bind_some, wNums_eq _ _ (by simp; omega), Option.bind_some, wOut_eq _ (by simp; omega), Option.bind_some, List.nil_append, ← encs_app, ← encs_app]; rfl
theorem enc_small_int (x : Int) (h : 0 ≤ x ∧ x < 128) : enc (clamp x) = [UInt8.ofNat x.toNat] := by
  have : clamp x = x.toNat := by unfold clamp; omega
  rw [this, enc_small (by omega)]
theorem known16_eq : winnowerlaw16_known = some true := by
  unfold winnowerlaw16_known
  have hm : mayB [7, 7, 7, 7, 7] = true := by decide
  have h0 := told0 _ hm
  have h1 := told1 _ hm
  have h2 := told_alike 5 7 (by decide) hm
  rw [if_neg (by decide)] at h2
  have e0 : encs (0 :: ((([7, 7, 7, 7, 7] : List Int).length : Nat) : Int) :: [7, 7, 7, 7, 7]) = [0, 5, 7, 7, 7, 7, 7] := by
    simp only [encs, List.flatMap_cons, List.flatMap_nil]
    repeat rw [enc_small_int _ (by decide)]
    rfl
  have e1 : encs (1 :: ((([7, 7, 7, 7, 7] : List Int).length : Nat) : Int) :: dlN [7, 7, 7, 7, 7] ([7, 7, 7, 7, 7] : List Int).length) = [1, 5, 14, 0, 0, 0, 0] := by
    rw [show dlN [7, 7, 7, 7, 7] ([7, 7, 7, 7, 7] : List Int).length = [14, 0, 0, 0, 0] from rfl]
    simp only [encs, List.flatMap_cons, List.flatMap_nil]
    repeat rw [enc_small_int _ (by decide)]
    rfl
  have e2 : encs [2, 1, ((5 : Nat) : Int), 7] = [2, 1, 5, 7] := by
    simp only [encs, List.flatMap_cons, List.flatMap_nil]
    repeat rw [enc_small_int _ (by decide)]
    rfl
  rw [e0] at h0
  rw [e1] at h1
  rw [e2] at h2
  rw [best_ok _ hm _ _ _ h0 h1 h2, Option.bind_some, if_pos rfl]
  exact congrArg some (decide_eq_true rfl)
end Go.Proofs.Ytdicpnnmhjgnbaa.FW
