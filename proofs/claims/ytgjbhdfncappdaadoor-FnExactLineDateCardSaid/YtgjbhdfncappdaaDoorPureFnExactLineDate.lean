/- The law FnExactLineDate answers true for every whole number: both texts are the same. No condition. -/
import Derived.Test.YtgjbhdfncappdaaDoorQFnExactLineDatex3
import Derived.Test.YtgjbhdfncappdaaDoorBase
namespace Go.Proofs.YtgjbhdfncappdaaDoor.Pure
open Go.RowKit Go.Proofs.YtgjbhdfncappdaaDoor.PFnExactLineDate Go.Proofs.YtgjbhdfncappdaaDoorW.PrintWords Go.Proofs.YtgjbhdfncappdaaDoorW.PrintLast Go.Proofs.YtgjbhdfncappdaaDoorW.PrintMore Go.Proofs.YtgjbhdfncappdaaDoor.Base
set_option linter.unusedVariables false
set_option linter.unusedSimpArgs false

/-! Numbers in decimal: the reference's DecText, and with so many digits -/
open Go.Proofs.YtgjbhdfncappdaaDoor.Dates Go.Proofs.YtgjbhdfncappdaaDoor.Pads Go.Proofs.YtgjbhdfncappdaaDoor.Formats Go.Proofs.YtgjbhdfncappdaaDoor.Finds Go.Proofs.YtgjbhdfncappdaaDoor.Places Go.Proofs.YtgjbhdfncappdaaDoor.Reads Go.Proofs.YtgjbhdfncappdaaDoor.Https Go.Proofs.YtgjbhdfncappdaaDoor.Foreign
theorem decL_len : ∀ (f : Nat) (n : Int), (decL f n).length ≤ f + 1
  | 0, _ => by simp [decL]
  | f + 1, n => by
    simp only [decL]; split
    · simp
    · have := decL_len f (n / 10); simp; omega
theorem spec_dec : ∀ (f : Nat) (n : Int), 0 ≤ n → n ≤ 999999999999999 → n < 10 ^ (f + 1) → f ≤ 20 → Ev (fun k => spec_DecText.f k n) (strOfNums (decL f n))
  | f, n, h0, h1, hf, hq => by
    refine Ev.step (fun k => spec_DecText.f.eq_2 n k) (Ev.neg (by omega) ?_)
    rw [show decide (n > 999999999999999) = false from decide_eq_false (by omega)]
    refine Ev.step (fun k => spec_DecText.j0.eq_2 n false k) (Ev.neg (by simp) ?_)
    by_cases c : n < 10
    · refine Ev.pos c ?_
      rw [w64 (by omega) (by omega), show (48 + n) % 256 = 48 + n by omega]
      have e : decL f n = [48 + n] := by
        cases f with
        | zero => simp only [decL]; congr 1; omega
        | succ f => simp only [decL]; rw [if_pos c]
      rw [e]; exact Ev.now _
    · refine Ev.neg c ?_
      match f, hf, hq with
      | 0, hf, _ => have hf : n < 10 := by simpa using hf
                    exact absurd hf c
      | f + 1, hf, hq =>
        have h2 : n / 10 < 10 ^ (f + 1) := by
          have : (10 : Int) ^ (f + 1 + 1) = 10 ^ (f + 1) * 10 := Int.pow_succ ..
          omega
        have ih := spec_dec f (n / 10) (by omega) (by omega) h2 (by omega)
        have e1 : wrap64 (Int.tdiv n 10) = n / 10 := by rw [Int.tdiv_eq_ediv_of_nonneg h0, w64 (by omega) (by omega)]
        have e2 : (wrap64 (48 + Int.tmod n 10)) % 256 = 48 + n % 10 := by rw [Int.tmod_eq_emod_of_nonneg h0, w64 (by omega) (by omega)]; omega
        rw [e1, e2]
        refine Ev.bind ih (Ev.told rfl (Ev.pos ?_ ?_))
        · have := decL_len f (n / 10); rw [size_strOf, size_strOf]; simp; omega
        · rw [strOf_append, show decL f (n / 10) ++ [48 + n % 10] = decL (f + 1) n by simp only [decL]; rw [if_neg c]]; exact Ev.now _
theorem spec_pad_l0 (k : Nat) (hk : k ≤ 100) : ∀ (d : Nat) (l : List Int), l.length + d = k → Ev (fun r => spec_l2pad.l0 r (k : Int) (strOfNums l)) (strOfNums (zeros d ++ l))
  | 0, l, h => by
    refine Ev.step (fun r => spec_l2pad.l0.eq_2 _ _ r) (Ev.neg (by rw [size_strOf]; omega) ?_)
    exact Ev.now _
  | d + 1, l, h => by
    refine Ev.step (fun r => spec_l2pad.l0.eq_2 _ _ r) (Ev.pos (by rw [size_strOf]; omega) (Ev.pos (by rw [size_strOf]; omega) ?_))
    rw [show (⟨#[48]⟩ : ByteArray) = strOfNums [48] from rfl, strOf_append]
    have ih := spec_pad_l0 k hk d ([48] ++ l) (by simp; omega)
    rw [show zeros (d + 1) ++ l = zeros d ++ ([48] ++ l) by simp [zeros, List.replicate_succ']]
    exact ih
theorem spec_pad (n : Int) (k : Nat) (h1 : 1 ≤ k) (hk : k ≤ 15) (h0 : 0 ≤ n) (hn : n < 10 ^ k) : Ev (fun r => spec_l2pad.f r n (k : Int)) (strOfNums (padL k n)) := by
  have hm : n ≤ 999999999999999 := by
    have : (10 : Int) ^ k ≤ 10 ^ 15 := by
      have := Nat.pow_le_pow_right (show 0 < 10 by decide) hk
      exact_mod_cast this
    have e : (10 : Int) ^ 15 = 1000000000000000 := by decide
    omega
  have p := pad_dec k 15 n h1 (by omega) h0 hn
  unfold spec_l2pad.f
  refine Ev.bind (spec_dec 15 n h0 hm (by have e : (10 : Int) ^ (15 + 1) = 10000000000000000 := by decide
                                          omega) (by decide)) ?_
  have := spec_pad_l0 k (by omega) (k - (decL 15 n).length) (decL 15 n) (by omega)
  rw [p.2] at this; exact this
theorem pad4 (n : Int) (h0 : 0 ≤ n) (hn : n ≤ 9999) : Ev (fun r => spec_l2pad.f r n 4) (strOfNums (padL 4 n)) := spec_pad n 4 (by decide) (by decide) h0 (by show _ < (10000 : Int); omega)
theorem pad2 (n : Int) (h0 : 0 ≤ n) (hn : n ≤ 99) : Ev (fun r => spec_l2pad.f r n 2) (strOfNums (padL 2 n)) := spec_pad n 2 (by decide) (by decide) h0 (by show _ < (100 : Int); omega)
theorem civ_yes {t : Int} (h : isT t) : spec_CivilOf.f t = some (yr t, mo t, da t, ho t, mi t, se t, true) := by unfold spec_CivilOf.f civM; rw [if_pos h]
theorem civ_no {t : Int} (h : ¬ isT t) : spec_CivilOf.f t = some (0, 0, 0, 0, 0, 0, false) := by unfold spec_CivilOf.f civM; rw [if_neg h]

/-! The reference's time of day -/
theorem spec_clock {t : Int} (h : isT t) (a b c : Int) : Ev (fun k => spec_l2clock.f k a b c (ho t) (mi t) (se t)) (strOfNums (clockL t)) := by
  obtain ⟨q1, q2, q3, q4, q5, q6⟩ := parts h
  unfold spec_l2clock.f
  rw [show (⟨#[58]⟩ : ByteArray) = strOfNums [58] from rfl]
  refine Ev.bind (pad2 (ho t) (by omega) (by omega)) (Ev.pos ?_ (Ev.bind (pad2 (mi t) (by omega) (by omega)) (Ev.pos ?_ (Ev.pos ?_ (Ev.bind (pad2 (se t) (by omega) (by omega)) (Ev.pos ?_ ?_))))))
  · simp only [strOf_append, size_strOf, padL_length, List.length_append, List.length_cons, List.length_nil]; omega
  · simp only [strOf_append, size_strOf, padL_length, List.length_append, List.length_cons, List.length_nil]; omega
  · simp only [strOf_append, size_strOf, padL_length, List.length_append, List.length_cons, List.length_nil]; omega
  · simp only [strOf_append, size_strOf, padL_length, List.length_append, List.length_cons, List.length_nil]; omega
  · simp only [strOf_append, List.append_assoc, clockL]; exact Ev.now _

/-! Names of days and months -/
theorem seven {w : Int} (h : 0 ≤ w ∧ w ≤ 6) : w = 0 ∨ w = 1 ∨ w = 2 ∨ w = 3 ∨ w = 4 ∨ w = 5 ∨ w = 6 := by omega
theorem twelve {m : Int} (h : 1 ≤ m ∧ m ≤ 12) : m = 1 ∨ m = 2 ∨ m = 3 ∨ m = 4 ∨ m = 5 ∨ m = 6 ∨ m = 7 ∨ m = 8 ∨ m = 9 ∨ m = 10 ∨ m = 11 ∨ m = 12 := by omega
theorem spec_day {w : Int} (h : 0 ≤ w ∧ w ≤ 6) : spec_l2dayName.f w = some (strOfNums (dname w)) := by
  rcases seven h with rfl | rfl | rfl | rfl | rfl | rfl | rfl <;> rfl
theorem spec_month {m : Int} (h : 1 ≤ m ∧ m ≤ 12) : spec_l2monthName.f m = some (strOfNums (mname m)) := by
  rcases twelve h with rfl | rfl | rfl | rfl | rfl | rfl | rfl | rfl | rfl | rfl | rfl | rfl <;> decide +kernel
theorem weekday_eq {t : Int} (h : isT t) : Int.tmod (wrap64 ((wrap64 (Int.tdiv t 86400)) + 3)) 7 = wd t := by
  obtain ⟨h0, h1⟩ := h
  rw [Int.tdiv_eq_ediv_of_nonneg h0, w64 (n := t / 86400) (by omega) (by omega), w64 (by omega) (by omega), Int.tmod_eq_emod_of_nonneg (by omega)]
  rfl
theorem spec_time (t : Int) : spec_l2time.f t = some (decide (isT t)) := by
  unfold spec_l2time.f isT
  by_cases h0 : 0 ≤ t
  · rw [if_pos h0]; simp [h0]
  · rw [if_neg (by omega)]; simp [h0]
theorem spec_wd {t : Int} (h : isT t) : spec_Weekday.f t = some (wd t) := by
  unfold spec_Weekday.f
  rw [spec_time, decide_eq_true h, Option.bind_some, if_pos rfl, weekday_eq h]
theorem spec_wd_no {t : Int} (h : ¬ isT t) : spec_Weekday.f t = some (-1) := by
  unfold spec_Weekday.f
  rw [spec_time, decide_eq_false h, Option.bind_some, if_neg (by simp)]
theorem impl_time (t : Int) : impl_isTime.f t = some (decide (isT t)) := by
  unfold impl_isTime.f impl_within.f isT
  by_cases h0 : 0 ≤ t
  · rw [if_pos h0]; simp [h0]
  · rw [if_neg h0]; simp [h0]
theorem impl_wd {t : Int} (h : isT t) : impl_Weekday.f t = some (wd t) := by
  unfold impl_Weekday.f
  rw [impl_time, decide_eq_true h, Option.bind_some, if_pos rfl, weekday_eq h]
theorem impl_wd_no {t : Int} (h : ¬ isT t) : impl_Weekday.f t = some (-1) := by
  unfold impl_Weekday.f
  rw [impl_time, decide_eq_false h, Option.bind_some, if_neg (by simp)]
def daysB : List ByteArray := names7.map strOfNums
def monthsB : List ByteArray := names12.map strOfNums
theorem impl_days_eq : impl_days.f = some daysB := rfl
theorem impl_months_eq : impl_months.f = some monthsB := rfl
theorem rd_day {w : Int} (h : 0 ≤ w ∧ w ≤ 6) : rdOf ByteArray.empty daysB w = strOfNums (dname w) := by
  rcases seven h with rfl | rfl | rfl | rfl | rfl | rfl | rfl <;> rfl
theorem rd_month {m : Int} (h : 1 ≤ m ∧ m ≤ 12) : rdOf ByteArray.empty monthsB (m - 1) = strOfNums (mname m) := by
  rcases twelve h with rfl | rfl | rfl | rfl | rfl | rfl | rfl | rfl | rfl | rfl | rfl | rfl <;> rfl
theorem day3 {w : Int} (h : 0 ≤ w ∧ w ≤ 6) : (strOfNums (dname w)).extract 0 3 = strOfNums ((dname w).take 3) := by
  rcases seven h with rfl | rfl | rfl | rfl | rfl | rfl | rfl <;> decide +kernel
theorem civil_yes {t : Int} (h : isT t) : impl_civilOf.f t = some (yr t, mo t, da t, ho t, mi t, se t) := if_pos h
theorem dig2 {n : Int} (h0 : 0 ≤ n) (h1 : n ≤ 9999) : impl_digits.f n 2 = some (strOfNums (padL 2 n)) := by
  unfold impl_digits.f; rw [if_pos ⟨h0, by omega, by decide, by decide⟩]; rfl
theorem dig4 {n : Int} (h0 : 0 ≤ n) (h1 : n ≤ 9999) : impl_digits.f n 4 = some (strOfNums (padL 4 n)) := by
  unfold impl_digits.f; rw [if_pos ⟨h0, by omega, by decide, by decide⟩]; rfl
theorem impl_clk {t : Int} (h : isT t) (a b c : Int) : impl_clock.f a b c (ho t) (mi t) (se t) = some (strOfNums (clockL t)) := by
  obtain ⟨q1, q2, q3, q4, q5, q6⟩ := parts h
  unfold impl_clock.f
  rw [show (⟨#[58]⟩ : ByteArray) = strOfNums [58] from rfl, dig2 q4.1 (by omega), dig2 q5.1 (by omega), dig2 q6.1 (by omega)]
  simp only [Option.bind_some]
  repeat' rw [if_pos (by simp only [strOf_append, size_strOf, padL_length, List.length_append, List.length_cons, List.length_nil]; omega)]
  simp only [strOf_append, List.append_assoc, clockL]

/-! The third form -/
theorem day2_len (d : Int) : (day2 d).length = 2 := day2_length d
set_option maxHeartbeats 1000000 in
theorem spec_line_j {t : Int} (h : isT t) : Ev (fun k => spec_LineDate.j0 k t (strOfNums (day2 (da t))) (yr t) (mo t) (da t) (ho t) (mi t) (se t)) (strOfNums (lineL t)) := by
  obtain ⟨q1, q2, q3, q4, q5, q6⟩ := parts h
  have hd := dname_length (wd_in t)
  have hm := mname_length q2
  refine Ev.step (fun k => spec_LineDate.j0.eq_2 _ _ _ _ _ _ _ _ k) ?_
  rw [show (⟨#[32]⟩ : ByteArray) = strOfNums [32] from rfl]
  refine Ev.told (spec_wd h) ?_
  refine Ev.told (spec_day (wd_in t)) ?_
  refine Ev.pos (by decide) ?_
  refine Ev.pos (by simp only [strOf_append, size_strOf, padL_length, clock_length, day2_length, List.length_append, List.length_take, List.length_cons, List.length_nil, hm]; omega) ?_
  simp only [day3 (wd_in t)]
  refine Ev.pos (by simp only [strOf_append, size_strOf, padL_length, clock_length, day2_length, List.length_append, List.length_take, List.length_cons, List.length_nil, hm]; omega) ?_
  refine Ev.told (spec_month q2) ?_
  refine Ev.pos (by simp only [strOf_append, size_strOf, padL_length, clock_length, day2_length, List.length_append, List.length_take, List.length_cons, List.length_nil, hm]; omega) ?_
  refine Ev.pos (by simp only [strOf_append, size_strOf, padL_length, clock_length, day2_length, List.length_append, List.length_take, List.length_cons, List.length_nil, hm]; omega) ?_
  refine Ev.pos (by simp only [strOf_append, size_strOf, padL_length, clock_length, day2_length, List.length_append, List.length_take, List.length_cons, List.length_nil, hm]; omega) ?_
  refine Ev.pos (by simp only [strOf_append, size_strOf, padL_length, clock_length, day2_length, List.length_append, List.length_take, List.length_cons, List.length_nil, hm]; omega) ?_
  refine Ev.bind (spec_clock h (yr t) (mo t) (da t)) ?_
  refine Ev.pos (by simp only [strOf_append, size_strOf, padL_length, clock_length, day2_length, List.length_append, List.length_take, List.length_cons, List.length_nil, hm]; omega) ?_
  refine Ev.pos (by simp only [strOf_append, size_strOf, padL_length, clock_length, day2_length, List.length_append, List.length_take, List.length_cons, List.length_nil, hm]; omega) ?_
  refine Ev.bind (pad4 (yr t) (by omega) (by omega)) ?_
  refine Ev.pos (by simp only [strOf_append, size_strOf, padL_length, clock_length, day2_length, List.length_append, List.length_take, List.length_cons, List.length_nil, hm]; omega) ?_
  simp only [day3 (wd_in t), strOf_append, List.append_assoc, lineL]; exact Ev.now _
set_option maxHeartbeats 1000000 in
theorem spec_line (t : Int) : Ev (fun k => spec_LineDate.f k t) (strOfNums (lineT t)) := by
  unfold spec_LineDate.f lineT
  by_cases h : isT t
  · obtain ⟨q1, q2, q3, q4, q5, q6⟩ := parts h
    rw [if_pos h]
    refine Ev.told (civ_yes h) (Ev.pos rfl (Ev.bind (pad2 (da t) (by omega) (by omega)) ?_))
    have hj := spec_line_j h
    by_cases c : da t < 10
    · have e16 : (10 : Int) ^ (15 + 1) = 10000000000000000 := by decide
      refine Ev.pos c (Ev.bind (spec_dec 15 (da t) (by omega) (by omega) (by rw [e16]; omega) (by decide)) ?_)
      have e : decL 15 (da t) = [48 + da t] := by simp only [decL]; rw [if_pos c]
      rw [e]
      refine Ev.pos (by simp only [size_strOf, List.length_cons, List.length_nil]; decide) ?_
      rw [show (⟨#[32]⟩ : ByteArray) = strOfNums [32] from rfl, strOf_append]
      rw [show day2 (da t) = [32] ++ [48 + da t] from if_pos c] at hj
      exact hj
    · refine Ev.neg c ?_
      rw [show day2 (da t) = padL 2 (da t) from if_neg c] at hj
      exact hj
  · rw [if_neg h]
    exact Ev.told (civ_no h) (Ev.neg (by simp) (Ev.now _))
theorem impl_line_j {t : Int} (h : isT t) : Ev (fun k => impl_LineDate.j0 k t (strOfNums (day2 (da t))) (yr t) (mo t) (da t) (ho t) (mi t) (se t)) (strOfNums (lineL t)) := by
  obtain ⟨q1, q2, q3, q4, q5, q6⟩ := parts h
  have hw := wd_in t
  have hd := dname_length (wd_in t)
  have hm := mname_length q2
  have ew : wrap64 (mo t - 1) = mo t - 1 := w64 (by omega) (by omega)
  refine Ev.step (fun k => impl_LineDate.j0.eq_2 _ _ _ _ _ _ _ _ k) ?_
  rw [show (⟨#[32]⟩ : ByteArray) = strOfNums [32] from rfl]
  simp only [Option.bind_some, impl_days_eq, impl_months_eq, impl_wd h, rd_day hw, ew, rd_month q2, day3 hw, dig4 (show 0 ≤ yr t by omega) (by omega), impl_clk h, show (daysB.length : Int) = 7 from rfl, show (monthsB.length : Int) = 12 from rfl]
  repeat' rw [if_pos (by first | omega | (simp only [strOf_append, size_strOf, padL_length, clock_length, day2_len, List.length_append, List.length_take, List.length_cons, List.length_nil, hm]; omega))]
  simp only [strOf_append, List.append_assoc, lineL]; exact Ev.now _
theorem impl_line (t : Int) : Ev (fun k => impl_LineDate.f k t) (strOfNums (lineT t)) := by
  unfold impl_LineDate.f lineT
  by_cases h : isT t
  · obtain ⟨q1, q2, q3, q4, q5, q6⟩ := parts h
    rw [if_pos h]
    have hj := impl_line_j h
    refine Ev.told (by rw [impl_time, decide_eq_true h]) (Ev.pos rfl (Ev.told (civil_yes h) (Ev.told (dig2 (n := da t) (by omega) (by omega)) ?_)))
    by_cases c : da t < 10
    · have e1 : (strOfNums (padL 2 (da t))).extract 1 (strOfNums (padL 2 (da t))).size = strOfNums [48 + da t] := by
        rw [size_strOf, padL_length, extract_strOf, bytes_strOf (fun x hx => by have := padL_digit 2 _ x hx; omega)]
        congr 1
        simp only [padL, List.nil_append, List.cons_append, List.drop_succ_cons, List.drop_zero, List.take_succ_cons, List.take_zero]
        congr 1; omega
      rw [e1]
      refine Ev.pos c (Ev.pos (by simp only [size_strOf, padL_length]; decide) (Ev.pos (by simp only [size_strOf, List.length_cons, List.length_nil]; decide) ?_))
      rw [show (⟨#[32]⟩ : ByteArray) = strOfNums [32] from rfl, strOf_append]
      rw [show day2 (da t) = [32] ++ [48 + da t] from if_pos c] at hj
      exact hj
    · refine Ev.neg c ?_
      rw [show day2 (da t) = padL 2 (da t) from if_neg c] at hj
      exact hj
  · rw [if_neg h]
    exact Ev.told (by rw [impl_time, decide_eq_false h]) (Ev.neg (by simp) (Ev.now _))

theorem FnExactLineDate : laws_FnExactLineDate.Pure := by
  intro t ht
  apply Ev.rounds
  unfold laws_FnExactLineDate.f
  exact Ev.bind (spec_line t) (Ev.bind (impl_line t) (Ev.pos rfl (Ev.now _)))

end Go.Proofs.YtgjbhdfncappdaaDoor.Pure
