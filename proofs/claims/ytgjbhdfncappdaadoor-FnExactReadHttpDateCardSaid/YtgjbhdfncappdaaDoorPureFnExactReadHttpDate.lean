/- The law FnExactReadHttpDate answers true for every text: both read a date of one of the three forms alike. No condition. -/
import Derived.Test.YtgjbhdfncappdaaDoorQFnExactReadHttpDatex11
import Derived.Test.YtgjbhdfncappdaaDoorBaseV
namespace Go.Proofs.YtgjbhdfncappdaaDoor.Pure
open Go.RowKit Go.Proofs.YtgjbhdfncappdaaDoor.PFnExactReadHttpDate Go.Proofs.YtgjbhdfncappdaaDoorV.PrintWords Go.Proofs.YtgjbhdfncappdaaDoorV.PrintLast Go.Proofs.YtgjbhdfncappdaaDoorV.PrintMore Go.Proofs.YtgjbhdfncappdaaDoor.Base
set_option linter.unusedVariables false
set_option linter.unusedSimpArgs false

theorem _root_.Go.Proofs.YtgjbhdfncappdaaDoorV.PrintWords.Ev.now {α : Type} (r : α) : Ev (fun _ => some r) r := ⟨0, fun _ _ => rfl⟩

/-! Numbers in decimal: the reference's DecText, and with so many digits -/
open Go.Proofs.YtgjbhdfncappdaaDoor.Dates Go.Proofs.YtgjbhdfncappdaaDoor.Pads Go.Proofs.YtgjbhdfncappdaaDoor.Formats Go.Proofs.YtgjbhdfncappdaaDoor.Finds Go.Proofs.YtgjbhdfncappdaaDoor.Places Go.Proofs.YtgjbhdfncappdaaDoor.Reads Go.Proofs.YtgjbhdfncappdaaDoor.Https Go.Proofs.YtgjbhdfncappdaaDoor.Foreign
theorem decL_len : ∀ (f : Nat) (n : Int), (decL f n).length ≤ f + 1
  | 0, _ => by simp [decL]
  | f + 1, n => by
    simp only [decL]; split
    · simp
    · have := decL_len f (n / 10); simp; omega
theorem spec_dec : ∀ (f : Nat) (n : Int), 0 ≤ n → n ≤ 999999999999999 → n < 10 ^ (f + 1) → f ≤ 20 → Ev (fun k => spec_DecText.f k n) (strOfNums (decL f n))
  | f, n, h0, h1, hf, hq => by
    refine Ev.step (fun k => spec_DecText.f.eq_2 n k) (Ev.neg (by omega) ?_)
    rw [show decide (n > 999999999999999) = false from decide_eq_false (by omega)]
    refine Ev.step (fun k => spec_DecText.j0.eq_2 n false k) (Ev.neg (by simp) ?_)
    by_cases c : n < 10
    · refine Ev.pos c ?_
      rw [w64 (by omega) (by omega), show (48 + n) % 256 = 48 + n by omega]
      have e : decL f n = [48 + n] := by
        cases f with
        | zero => simp only [decL]; congr 1; omega
        | succ f => simp only [decL]; rw [if_pos c]
      rw [e]; exact Ev.now _
    · refine Ev.neg c ?_
      match f, hf, hq with
      | 0, hf, _ => have hf : n < 10 := by simpa using hf
                    exact absurd hf c
      | f + 1, hf, hq =>
        have h2 : n / 10 < 10 ^ (f + 1) := by
          have : (10 : Int) ^ (f + 1 + 1) = 10 ^ (f + 1) * 10 := Int.pow_succ ..
          omega
        have ih := spec_dec f (n / 10) (by omega) (by omega) h2 (by omega)
        have e1 : wrap64 (Int.tdiv n 10) = n / 10 := by rw [Int.tdiv_eq_ediv_of_nonneg h0, w64 (by omega) (by omega)]
        have e2 : (wrap64 (48 + Int.tmod n 10)) % 256 = 48 + n % 10 := by rw [Int.tmod_eq_emod_of_nonneg h0, w64 (by omega) (by omega)]; omega
        rw [e1, e2]
        refine Ev.bind ih (Ev.told rfl (Ev.pos ?_ ?_))
        · have := decL_len f (n / 10); rw [size_strOf, size_strOf]; simp; omega
        · rw [strOf_append, show decL f (n / 10) ++ [48 + n % 10] = decL (f + 1) n by simp only [decL]; rw [if_neg c]]; exact Ev.now _
theorem spec_pad_l0 (k : Nat) (hk : k ≤ 100) : ∀ (d : Nat) (l : List Int), l.length + d = k → Ev (fun r => spec_l2pad.l0 r (k : Int) (strOfNums l)) (strOfNums (zeros d ++ l))
  | 0, l, h => by
    refine Ev.step (fun r => spec_l2pad.l0.eq_2 _ _ r) (Ev.neg (by rw [size_strOf]; omega) ?_)
    exact Ev.now _
  | d + 1, l, h => by
    refine Ev.step (fun r => spec_l2pad.l0.eq_2 _ _ r) (Ev.pos (by rw [size_strOf]; omega) (Ev.pos (by rw [size_strOf]; omega) ?_))
    rw [show (⟨#[48]⟩ : ByteArray) = strOfNums [48] from rfl, strOf_append]
    have ih := spec_pad_l0 k hk d ([48] ++ l) (by simp; omega)
    rw [show zeros (d + 1) ++ l = zeros d ++ ([48] ++ l) by simp [zeros, List.replicate_succ']]
    exact ih
theorem spec_pad (n : Int) (k : Nat) (h1 : 1 ≤ k) (hk : k ≤ 15) (h0 : 0 ≤ n) (hn : n < 10 ^ k) : Ev (fun r => spec_l2pad.f r n (k : Int)) (strOfNums (padL k n)) := by
  have hm : n ≤ 999999999999999 := by
    have : (10 : Int) ^ k ≤ 10 ^ 15 := by
      have := Nat.pow_le_pow_right (show 0 < 10 by decide) hk
      exact_mod_cast this
    have e : (10 : Int) ^ 15 = 1000000000000000 := by decide
    omega
  have p := pad_dec k 15 n h1 (by omega) h0 hn
  unfold spec_l2pad.f
  refine Ev.bind (spec_dec 15 n h0 hm (by have e : (10 : Int) ^ (15 + 1) = 10000000000000000 := by decide
                                          omega) (by decide)) ?_
  have := spec_pad_l0 k (by omega) (k - (decL 15 n).length) (decL 15 n) (by omega)
  rw [p.2] at this; exact this
theorem pad4 (n : Int) (h0 : 0 ≤ n) (hn : n ≤ 9999) : Ev (fun r => spec_l2pad.f r n 4) (strOfNums (padL 4 n)) := spec_pad n 4 (by decide) (by decide) h0 (by show _ < (10000 : Int); omega)
theorem pad2 (n : Int) (h0 : 0 ≤ n) (hn : n ≤ 99) : Ev (fun r => spec_l2pad.f r n 2) (strOfNums (padL 2 n)) := spec_pad n 2 (by decide) (by decide) h0 (by show _ < (100 : Int); omega)
theorem civ_yes {t : Int} (h : isT t) : spec_CivilOf.f t = some (yr t, mo t, da t, ho t, mi t, se t, true) := by unfold spec_CivilOf.f civM; rw [if_pos h]
theorem civ_no {t : Int} (h : ¬ isT t) : spec_CivilOf.f t = some (0, 0, 0, 0, 0, 0, false) := by unfold spec_CivilOf.f civM; rw [if_neg h]

/-! The reference's time of day -/
theorem spec_clock {t : Int} (h : isT t) (a b c : Int) : Ev (fun k => spec_l2clock.f k a b c (ho t) (mi t) (se t)) (strOfNums (clockL t)) := by
  obtain ⟨q1, q2, q3, q4, q5, q6⟩ := parts h
  unfold spec_l2clock.f
  rw [show (⟨#[58]⟩ : ByteArray) = strOfNums [58] from rfl]
  refine Ev.bind (pad2 (ho t) (by omega) (by omega)) (Ev.pos ?_ (Ev.bind (pad2 (mi t) (by omega) (by omega)) (Ev.pos ?_ (Ev.pos ?_ (Ev.bind (pad2 (se t) (by omega) (by omega)) (Ev.pos ?_ ?_))))))
  · simp only [strOf_append, size_strOf, padL_length, List.length_append, List.length_cons, List.length_nil]; omega
  · simp only [strOf_append, size_strOf, padL_length, List.length_append, List.length_cons, List.length_nil]; omega
  · simp only [strOf_append, size_strOf, padL_length, List.length_append, List.length_cons, List.length_nil]; omega
  · simp only [strOf_append, size_strOf, padL_length, List.length_append, List.length_cons, List.length_nil]; omega
  · simp only [strOf_append, List.append_assoc, clockL]; exact Ev.now _

/-! Names of days and months -/
theorem seven {w : Int} (h : 0 ≤ w ∧ w ≤ 6) : w = 0 ∨ w = 1 ∨ w = 2 ∨ w = 3 ∨ w = 4 ∨ w = 5 ∨ w = 6 := by omega
theorem twelve {m : Int} (h : 1 ≤ m ∧ m ≤ 12) : m = 1 ∨ m = 2 ∨ m = 3 ∨ m = 4 ∨ m = 5 ∨ m = 6 ∨ m = 7 ∨ m = 8 ∨ m = 9 ∨ m = 10 ∨ m = 11 ∨ m = 12 := by omega
theorem spec_day {w : Int} (h : 0 ≤ w ∧ w ≤ 6) : spec_l2dayName.f w = some (strOfNums (dname w)) := by
  rcases seven h with rfl | rfl | rfl | rfl | rfl | rfl | rfl <;> rfl
theorem spec_month {m : Int} (h : 1 ≤ m ∧ m ≤ 12) : spec_l2monthName.f m = some (strOfNums (mname m)) := by
  rcases twelve h with rfl | rfl | rfl | rfl | rfl | rfl | rfl | rfl | rfl | rfl | rfl | rfl <;> decide +kernel
theorem weekday_eq {t : Int} (h : isT t) : Int.tmod (wrap64 ((wrap64 (Int.tdiv t 86400)) + 3)) 7 = wd t := by
  obtain ⟨h0, h1⟩ := h
  rw [Int.tdiv_eq_ediv_of_nonneg h0, w64 (n := t / 86400) (by omega) (by omega), w64 (by omega) (by omega), Int.tmod_eq_emod_of_nonneg (by omega)]
  rfl
theorem spec_time (t : Int) : spec_l2time.f t = some (decide (isT t)) := by
  unfold spec_l2time.f isT
  by_cases h0 : 0 ≤ t
  · rw [if_pos h0]; simp [h0]
  · rw [if_neg (by omega)]; simp [h0]
theorem spec_wd {t : Int} (h : isT t) : spec_Weekday.f t = some (wd t) := by
  unfold spec_Weekday.f
  rw [spec_time, decide_eq_true h, Option.bind_some, if_pos rfl, weekday_eq h]
theorem spec_wd_no {t : Int} (h : ¬ isT t) : spec_Weekday.f t = some (-1) := by
  unfold spec_Weekday.f
  rw [spec_time, decide_eq_false h, Option.bind_some, if_neg (by simp)]
theorem impl_time (t : Int) : impl_isTime.f t = some (decide (isT t)) := by
  unfold impl_isTime.f impl_within.f isT
  by_cases h0 : 0 ≤ t
  · rw [if_pos h0]; simp [h0]
  · rw [if_neg h0]; simp [h0]
theorem impl_wd {t : Int} (h : isT t) : impl_Weekday.f t = some (wd t) := by
  unfold impl_Weekday.f
  rw [impl_time, decide_eq_true h, Option.bind_some, if_pos rfl, weekday_eq h]
theorem impl_wd_no {t : Int} (h : ¬ isT t) : impl_Weekday.f t = some (-1) := by
  unfold impl_Weekday.f
  rw [impl_time, decide_eq_false h, Option.bind_some, if_neg (by simp)]
def daysB : List ByteArray := names7.map strOfNums
def monthsB : List ByteArray := names12.map strOfNums
theorem impl_days_eq : impl_days.f = some daysB := rfl
theorem impl_months_eq : impl_months.f = some monthsB := rfl
theorem rd_day {w : Int} (h : 0 ≤ w ∧ w ≤ 6) : rdOf ByteArray.empty daysB w = strOfNums (dname w) := by
  rcases seven h with rfl | rfl | rfl | rfl | rfl | rfl | rfl <;> rfl
theorem rd_month {m : Int} (h : 1 ≤ m ∧ m ≤ 12) : rdOf ByteArray.empty monthsB (m - 1) = strOfNums (mname m) := by
  rcases twelve h with rfl | rfl | rfl | rfl | rfl | rfl | rfl | rfl | rfl | rfl | rfl | rfl <;> rfl
theorem day3 {w : Int} (h : 0 ≤ w ∧ w ≤ 6) : (strOfNums (dname w)).extract 0 3 = strOfNums ((dname w).take 3) := by
  rcases seven h with rfl | rfl | rfl | rfl | rfl | rfl | rfl <;> decide +kernel
theorem civil_yes {t : Int} (h : isT t) : impl_civilOf.f t = some (yr t, mo t, da t, ho t, mi t, se t) := if_pos h
theorem dig2 {n : Int} (h0 : 0 ≤ n) (h1 : n ≤ 9999) : impl_digits.f n 2 = some (strOfNums (padL 2 n)) := by
  unfold impl_digits.f; rw [if_pos ⟨h0, by omega, by decide, by decide⟩]; rfl
theorem dig4 {n : Int} (h0 : 0 ≤ n) (h1 : n ≤ 9999) : impl_digits.f n 4 = some (strOfNums (padL 4 n)) := by
  unfold impl_digits.f; rw [if_pos ⟨h0, by omega, by decide, by decide⟩]; rfl
theorem impl_clk {t : Int} (h : isT t) (a b c : Int) : impl_clock.f a b c (ho t) (mi t) (se t) = some (strOfNums (clockL t)) := by
  obtain ⟨q1, q2, q3, q4, q5, q6⟩ := parts h
  unfold impl_clock.f
  rw [show (⟨#[58]⟩ : ByteArray) = strOfNums [58] from rfl, dig2 q4.1 (by omega), dig2 q5.1 (by omega), dig2 q6.1 (by omega)]
  simp only [Option.bind_some]
  repeat' rw [if_pos (by simp only [strOf_append, size_strOf, padL_length, List.length_append, List.length_cons, List.length_nil]; omega)]
  simp only [strOf_append, List.append_assoc, clockL]

/-! The first form -/
set_option maxHeartbeats 1000000 in
theorem spec_http (t : Int) : Ev (fun k => spec_HttpDate.f k t) (strOfNums (httpT t)) := by
  unfold spec_HttpDate.f httpT
  by_cases h : isT t
  · obtain ⟨q1, q2, q3, q4, q5, q6⟩ := parts h
    have hd := dname_length (wd_in t)
    have hm := mname_length q2
    rw [if_pos h, show (⟨#[44, 32]⟩ : ByteArray) = strOfNums [44, 32] from rfl, show (⟨#[32]⟩ : ByteArray) = strOfNums [32] from rfl, show (⟨#[32, 71, 77, 84]⟩ : ByteArray) = strOfNums [32, 71, 77, 84] from rfl]
    refine Ev.told (civ_yes h) (Ev.pos rfl ?_)
    refine Ev.told (spec_wd h) ?_
    refine Ev.told (spec_day (wd_in t)) ?_
    refine Ev.pos (by decide) ?_
    refine Ev.pos (by simp only [strOf_append, size_strOf, padL_length, clock_length, day2_length, List.length_append, List.length_take, List.length_cons, List.length_nil, hm]; omega) ?_
    simp only [day3 (wd_in t)]
    refine Ev.pos (by simp only [strOf_append, size_strOf, padL_length, clock_length, day2_length, List.length_append, List.length_take, List.length_cons, List.length_nil, hm]; omega) ?_
    refine Ev.bind (pad2 (da t) (by omega) (by omega)) ?_
    refine Ev.pos (by simp only [strOf_append, size_strOf, padL_length, clock_length, day2_length, List.length_append, List.length_take, List.length_cons, List.length_nil, hm]; omega) ?_
    refine Ev.pos (by simp only [strOf_append, size_strOf, padL_length, clock_length, day2_length, List.length_append, List.length_take, List.length_cons, List.length_nil, hm]; omega) ?_
    refine Ev.told (spec_month q2) ?_
    refine Ev.pos (by simp only [strOf_append, size_strOf, padL_length, clock_length, day2_length, List.length_append, List.length_take, List.length_cons, List.length_nil, hm]; omega) ?_
    refine Ev.pos (by simp only [strOf_append, size_strOf, padL_length, clock_length, day2_length, List.length_append, List.length_take, List.length_cons, List.length_nil, hm]; omega) ?_
    refine Ev.bind (pad4 (yr t) (by omega) (by omega)) ?_
    refine Ev.pos (by simp only [strOf_append, size_strOf, padL_length, clock_length, day2_length, List.length_append, List.length_take, List.length_cons, List.length_nil, hm]; omega) ?_
    refine Ev.pos (by simp only [strOf_append, size_strOf, padL_length, clock_length, day2_length, List.length_append, List.length_take, List.length_cons, List.length_nil, hm]; omega) ?_
    refine Ev.bind (spec_clock h (yr t) (mo t) (da t)) ?_
    refine Ev.pos (by simp only [strOf_append, size_strOf, padL_length, clock_length, day2_length, List.length_append, List.length_take, List.length_cons, List.length_nil, hm]; omega) ?_
    refine Ev.pos (by simp only [strOf_append, size_strOf, padL_length, clock_length, day2_length, List.length_append, List.length_take, List.length_cons, List.length_nil, hm]; omega) ?_
    simp only [day3 (wd_in t), strOf_append, List.append_assoc, httpL, gmt]; exact Ev.now _
  · rw [if_neg h]
    exact Ev.told (civ_no h) (Ev.neg (by simp) (Ev.now _))
theorem impl_http (t : Int) : impl_HttpDate.f t = some (strOfNums (httpT t)) := by
  unfold impl_HttpDate.f httpT
  by_cases h : isT t
  · obtain ⟨q1, q2, q3, q4, q5, q6⟩ := parts h
    have hw := wd_in t
    have hd := dname_length (wd_in t)
    have hm := mname_length q2
    have ew : wrap64 (mo t - 1) = mo t - 1 := w64 (by omega) (by omega)
    rw [if_pos h, show (⟨#[44, 32]⟩ : ByteArray) = strOfNums [44, 32] from rfl, show (⟨#[32]⟩ : ByteArray) = strOfNums [32] from rfl, show (⟨#[32, 71, 77, 84]⟩ : ByteArray) = strOfNums [32, 71, 77, 84] from rfl]
    simp only [impl_time, decide_eq_true h, Option.bind_some, if_true, civil_yes h, impl_days_eq, impl_months_eq, impl_wd h, rd_day hw, ew, rd_month q2, day3 hw, dig2 (show 0 ≤ da t by omega) (by omega), dig4 (show 0 ≤ yr t by omega) (by omega), impl_clk h, show (daysB.length : Int) = 7 from rfl, show (monthsB.length : Int) = 12 from rfl]
    repeat' rw [if_pos (by first | omega | (simp only [strOf_append, size_strOf, padL_length, clock_length, List.length_append, List.length_take, List.length_cons, List.length_nil, hm]; omega))]
    simp only [strOf_append, List.append_assoc, httpL, gmt]
  · rw [if_neg h]
    simp only [impl_time, decide_eq_false h, Option.bind_some]; rfl

/-! The second form -/
set_option maxHeartbeats 1000000 in
theorem spec_long (t : Int) : Ev (fun k => spec_LongDate.f k t) (strOfNums (longT t)) := by
  unfold spec_LongDate.f longT
  by_cases h : isT t
  · obtain ⟨q1, q2, q3, q4, q5, q6⟩ := parts h
    have hd := dname_length (wd_in t)
    have hm := mname_length q2
    refine Ev.told (civ_yes h) (Ev.pos rfl ?_)
    by_cases hy : yr t ≤ 2069
    · rw [if_pos ⟨h, hy⟩]
      refine Ev.step (fun k => spec_LongDate.j0.eq_2 _ _ _ _ _ _ _ _ k) (Ev.neg (by simp; omega) ?_)
      rw [show (⟨#[44, 32]⟩ : ByteArray) = strOfNums [44, 32] from rfl, show (⟨#[45]⟩ : ByteArray) = strOfNums [45] from rfl, show (⟨#[32]⟩ : ByteArray) = strOfNums [32] from rfl, show (⟨#[32, 71, 77, 84]⟩ : ByteArray) = strOfNums [32, 71, 77, 84] from rfl]
      have e2 : Ev (fun r => spec_l2pad.f r (Int.tmod (yr t) 100) 2) (strOfNums (padL 2 (yr t))) := by
        rw [Int.tmod_eq_emod_of_nonneg (by omega), ← padL_two (yr t)]; exact pad2 _ (by omega) (by omega)
      refine Ev.told (spec_wd h) ?_
      refine Ev.told (spec_day (wd_in t)) ?_
      refine Ev.pos (by simp only [strOf_append, size_strOf, padL_length, clock_length, day2_length, List.length_append, List.length_take, List.length_cons, List.length_nil, hm]; omega) ?_
      refine Ev.bind (pad2 (da t) (by omega) (by omega)) ?_
      refine Ev.pos (by simp only [strOf_append, size_strOf, padL_length, clock_length, day2_length, List.length_append, List.length_take, List.length_cons, List.length_nil, hm]; omega) ?_
      refine Ev.pos (by simp only [strOf_append, size_strOf, padL_length, clock_length, day2_length, List.length_append, List.length_take, List.length_cons, List.length_nil, hm]; omega) ?_
      refine Ev.told (spec_month q2) ?_
      refine Ev.pos (by simp only [strOf_append, size_strOf, padL_length, clock_length, day2_length, List.length_append, List.length_take, List.length_cons, List.length_nil, hm]; omega) ?_
      refine Ev.pos (by simp only [strOf_append, size_strOf, padL_length, clock_length, day2_length, List.length_append, List.length_take, List.length_cons, List.length_nil, hm]; omega) ?_
      refine Ev.bind e2 ?_
      refine Ev.pos (by simp only [strOf_append, size_strOf, padL_length, clock_length, day2_length, List.length_append, List.length_take, List.length_cons, List.length_nil, hm]; omega) ?_
      refine Ev.pos (by simp only [strOf_append, size_strOf, padL_length, clock_length, day2_length, List.length_append, List.length_take, List.length_cons, List.length_nil, hm]; omega) ?_
      refine Ev.bind (spec_clock h (yr t) (mo t) (da t)) ?_
      refine Ev.pos (by simp only [strOf_append, size_strOf, padL_length, clock_length, day2_length, List.length_append, List.length_take, List.length_cons, List.length_nil, hm]; omega) ?_
      refine Ev.pos (by simp only [strOf_append, size_strOf, padL_length, clock_length, day2_length, List.length_append, List.length_take, List.length_cons, List.length_nil, hm]; omega) ?_
      simp only [strOf_append, List.append_assoc, longL, gmt]; exact Ev.now _
    · rw [if_neg (fun c => hy c.2)]
      exact Ev.step (fun k => spec_LongDate.j0.eq_2 _ _ _ _ _ _ _ _ k) (Ev.pos (by simp; omega) (Ev.now _))
  · rw [if_neg (fun c => h c.1)]
    exact Ev.told (civ_no h) (Ev.neg (by simp) (Ev.step (fun k => spec_LongDate.j0.eq_2 _ _ _ _ _ _ _ _ k) (Ev.pos rfl (Ev.now _))))
theorem impl_long (t : Int) : Ev (fun k => impl_LongDate.f k t) (strOfNums (longT t)) := by
  unfold impl_LongDate.f longT
  by_cases h : isT t
  · obtain ⟨q1, q2, q3, q4, q5, q6⟩ := parts h
    have hw := wd_in t
    have hd := dname_length (wd_in t)
    have hm := mname_length q2
    have ew : wrap64 (mo t - 1) = mo t - 1 := w64 (by omega) (by omega)
    refine Ev.told (by rw [impl_time, decide_eq_true h]) (Ev.pos rfl (Ev.told (civil_yes h) ?_))
    by_cases hy : yr t ≤ 2069
    · rw [if_pos ⟨h, hy⟩]
      refine Ev.step (fun k => impl_LongDate.j0.eq_2 _ _ k) (Ev.neg (by simp; omega) ?_)
      rw [show (⟨#[44, 32]⟩ : ByteArray) = strOfNums [44, 32] from rfl, show (⟨#[45]⟩ : ByteArray) = strOfNums [45] from rfl, show (⟨#[32]⟩ : ByteArray) = strOfNums [32] from rfl, show (⟨#[32, 71, 77, 84]⟩ : ByteArray) = strOfNums [32, 71, 77, 84] from rfl]
      simp only [Option.bind_some, civil_yes h, impl_days_eq, impl_months_eq, impl_wd h, rd_day hw, ew, rd_month q2, dig2 (show 0 ≤ da t by omega) (by omega), dig2 (show 0 ≤ yr t by omega) (by omega), impl_clk h, show (daysB.length : Int) = 7 from rfl, show (monthsB.length : Int) = 12 from rfl]
      repeat' rw [if_pos (by first | omega | (simp only [strOf_append, size_strOf, padL_length, clock_length, List.length_append, List.length_take, List.length_cons, List.length_nil, hm]; omega))]
      simp only [strOf_append, List.append_assoc, longL, gmt]; exact Ev.now _
    · rw [if_neg (fun c => hy c.2)]
      exact Ev.step (fun k => impl_LongDate.j0.eq_2 _ _ k) (Ev.pos (by simp; omega) (Ev.now _))
  · rw [if_neg (fun c => h c.1)]
    exact Ev.told (by rw [impl_time, decide_eq_false h]) (Ev.neg (by simp) (Ev.step (fun k => impl_LongDate.j0.eq_2 _ _ k) (Ev.pos rfl (Ev.now _))))

/-! The third form -/
theorem day2_len (d : Int) : (day2 d).length = 2 := day2_length d
set_option maxHeartbeats 1000000 in
theorem spec_line_j {t : Int} (h : isT t) : Ev (fun k => spec_LineDate.j0 k t (strOfNums (day2 (da t))) (yr t) (mo t) (da t) (ho t) (mi t) (se t)) (strOfNums (lineL t)) := by
  obtain ⟨q1, q2, q3, q4, q5, q6⟩ := parts h
  have hd := dname_length (wd_in t)
  have hm := mname_length q2
  refine Ev.step (fun k => spec_LineDate.j0.eq_2 _ _ _ _ _ _ _ _ k) ?_
  rw [show (⟨#[32]⟩ : ByteArray) = strOfNums [32] from rfl]
  refine Ev.told (spec_wd h) ?_
  refine Ev.told (spec_day (wd_in t)) ?_
  refine Ev.pos (by decide) ?_
  refine Ev.pos (by simp only [strOf_append, size_strOf, padL_length, clock_length, day2_length, List.length_append, List.length_take, List.length_cons, List.length_nil, hm]; omega) ?_
  simp only [day3 (wd_in t)]
  refine Ev.pos (by simp only [strOf_append, size_strOf, padL_length, clock_length, day2_length, List.length_append, List.length_take, List.length_cons, List.length_nil, hm]; omega) ?_
  refine Ev.told (spec_month q2) ?_
  refine Ev.pos (by simp only [strOf_append, size_strOf, padL_length, clock_length, day2_length, List.length_append, List.length_take, List.length_cons, List.length_nil, hm]; omega) ?_
  refine Ev.pos (by simp only [strOf_append, size_strOf, padL_length, clock_length, day2_length, List.length_append, List.length_take, List.length_cons, List.length_nil, hm]; omega) ?_
  refine Ev.pos (by simp only [strOf_append, size_strOf, padL_length, clock_length, day2_length, List.length_append, List.length_take, List.length_cons, List.length_nil, hm]; omega) ?_
  refine Ev.pos (by simp only [strOf_append, size_strOf, padL_length, clock_length, day2_length, List.length_append, List.length_take, List.length_cons, List.length_nil, hm]; omega) ?_
  refine Ev.bind (spec_clock h (yr t) (mo t) (da t)) ?_
  refine Ev.pos (by simp only [strOf_append, size_strOf, padL_length, clock_length, day2_length, List.length_append, List.length_take, List.length_cons, List.length_nil, hm]; omega) ?_
  refine Ev.pos (by simp only [strOf_append, size_strOf, padL_length, clock_length, day2_length, List.length_append, List.length_take, List.length_cons, List.length_nil, hm]; omega) ?_
  refine Ev.bind (pad4 (yr t) (by omega) (by omega)) ?_
  refine Ev.pos (by simp only [strOf_append, size_strOf, padL_length, clock_length, day2_length, List.length_append, List.length_take, List.length_cons, List.length_nil, hm]; omega) ?_
  simp only [day3 (wd_in t), strOf_append, List.append_assoc, lineL]; exact Ev.now _
set_option maxHeartbeats 1000000 in
theorem spec_line (t : Int) : Ev (fun k => spec_LineDate.f k t) (strOfNums (lineT t)) := by
  unfold spec_LineDate.f lineT
  by_cases h : isT t
  · obtain ⟨q1, q2, q3, q4, q5, q6⟩ := parts h
    rw [if_pos h]
    refine Ev.told (civ_yes h) (Ev.pos rfl (Ev.bind (pad2 (da t) (by omega) (by omega)) ?_))
    have hj := spec_line_j h
    by_cases c : da t < 10
    · have e16 : (10 : Int) ^ (15 + 1) = 10000000000000000 := by decide
      refine Ev.pos c (Ev.bind (spec_dec 15 (da t) (by omega) (by omega) (by rw [e16]; omega) (by decide)) ?_)
      have e : decL 15 (da t) = [48 + da t] := by simp only [decL]; rw [if_pos c]
      rw [e]
      refine Ev.pos (by simp only [size_strOf, List.length_cons, List.length_nil]; decide) ?_
      rw [show (⟨#[32]⟩ : ByteArray) = strOfNums [32] from rfl, strOf_append]
      rw [show day2 (da t) = [32] ++ [48 + da t] from if_pos c] at hj
      exact hj
    · refine Ev.neg c ?_
      rw [show day2 (da t) = padL 2 (da t) from if_neg c] at hj
      exact hj
  · rw [if_neg h]
    exact Ev.told (civ_no h) (Ev.neg (by simp) (Ev.now _))
theorem impl_line_j {t : Int} (h : isT t) : Ev (fun k => impl_LineDate.j0 k t (strOfNums (day2 (da t))) (yr t) (mo t) (da t) (ho t) (mi t) (se t)) (strOfNums (lineL t)) := by
  obtain ⟨q1, q2, q3, q4, q5, q6⟩ := parts h
  have hw := wd_in t
  have hd := dname_length (wd_in t)
  have hm := mname_length q2
  have ew : wrap64 (mo t - 1) = mo t - 1 := w64 (by omega) (by omega)
  refine Ev.step (fun k => impl_LineDate.j0.eq_2 _ _ _ _ _ _ _ _ k) ?_
  rw [show (⟨#[32]⟩ : ByteArray) = strOfNums [32] from rfl]
  simp only [Option.bind_some, impl_days_eq, impl_months_eq, impl_wd h, rd_day hw, ew, rd_month q2, day3 hw, dig4 (show 0 ≤ yr t by omega) (by omega), impl_clk h, show (daysB.length : Int) = 7 from rfl, show (monthsB.length : Int) = 12 from rfl]
  repeat' rw [if_pos (by first | omega | (simp only [strOf_append, size_strOf, padL_length, clock_length, day2_len, List.length_append, List.length_take, List.length_cons, List.length_nil, hm]; omega))]
  simp only [strOf_append, List.append_assoc, lineL]; exact Ev.now _
theorem impl_line (t : Int) : Ev (fun k => impl_LineDate.f k t) (strOfNums (lineT t)) := by
  unfold impl_LineDate.f lineT
  by_cases h : isT t
  · obtain ⟨q1, q2, q3, q4, q5, q6⟩ := parts h
    rw [if_pos h]
    have hj := impl_line_j h
    refine Ev.told (by rw [impl_time, decide_eq_true h]) (Ev.pos rfl (Ev.told (civil_yes h) (Ev.told (dig2 (n := da t) (by omega) (by omega)) ?_)))
    by_cases c : da t < 10
    · have e1 : (strOfNums (padL 2 (da t))).extract 1 (strOfNums (padL 2 (da t))).size = strOfNums [48 + da t] := by
        rw [size_strOf, padL_length, extract_strOf, bytes_strOf (fun x hx => by have := padL_digit 2 _ x hx; omega)]
        congr 1
        simp only [padL, List.nil_append, List.cons_append, List.drop_succ_cons, List.drop_zero, List.take_succ_cons, List.take_zero]
        congr 1; omega
      rw [e1]
      refine Ev.pos c (Ev.pos (by simp only [size_strOf, padL_length]; decide) (Ev.pos (by simp only [size_strOf, List.length_cons, List.length_nil]; decide) ?_))
      rw [show (⟨#[32]⟩ : ByteArray) = strOfNums [32] from rfl, strOf_append]
      rw [show day2 (da t) = [32] ++ [48 + da t] from if_pos c] at hj
      exact hj
    · refine Ev.neg c ?_
      rw [show day2 (da t) = padL 2 (da t) from if_neg c] at hj
      exact hj
  · rw [if_neg h]
    exact Ev.told (by rw [impl_time, decide_eq_false h]) (Ev.neg (by simp) (Ev.now _))

/-! What the reference's readers by places find -/
theorem digit_f (b : Int) : spec_l1digit.f b = some (decide (48 ≤ b ∧ b ≤ 57)) := by
  unfold spec_l1digit.f
  by_cases h : 48 ≤ b
  · rw [if_pos h]; simp [h]
  · rw [if_neg h]; simp [h]
theorem num_l0 (s : ByteArray) (hs : s.size ≤ 15) : ∀ (d i : Nat) (n : Int), i + d = s.size → 0 ≤ n → n < 10 ^ i → Ev (fun k => spec_l2num.l0 k s n (i : Int)) (numA ((bytesOf s).drop i) n)
  | 0, i, n, hd, h0, h1 => by
    have e : (bytesOf s).drop i = [] := List.drop_eq_nil_of_le (by rw [bytesOf_length]; omega)
    rw [e]
    refine Ev.step (fun k => spec_l2num.l0.eq_2 _ _ _ k) (Ev.neg (by omega) ?_)
    exact Ev.now _
  | d + 1, i, n, hd, h0, h1 => by
    have hil : i < (bytesOf s).length := by rw [bytesOf_length]; omega
    have hw : (wrap64 ((i : Int) + 1)) = ((i + 1 : Nat) : Int) := by rw [w64 (by omega) (by omega)]; omega
    have p : (10 : Int) ^ (i + 1) = 10 ^ i * 10 := Int.pow_succ ..
    have p2 : (10 : Int) ^ i ≤ 10 ^ 15 := by
      have := Nat.pow_le_pow_right (show 0 < 10 by decide) (show i ≤ 15 by omega)
      exact_mod_cast this
    have e15 : (10 : Int) ^ 15 = 1000000000000000 := by decide
    rw [drop_cons hil]
    refine Ev.step (fun k => spec_l2num.l0.eq_2 _ _ _ k) (Ev.pos (by omega) (Ev.pos (by omega) ?_))
    rw [bt_nat]
    generalize hx : (bytesOf s).getD i 0 = x
    unfold numA
    by_cases c : x = 32
    · rw [if_pos c]; refine Ev.pos c ?_
      rw [w64 (n := n * 10) (by omega) (by omega), hw]
      exact num_l0 s hs d (i + 1) (n * 10) (by omega) (by omega) (by omega)
    · rw [if_neg c]; refine Ev.neg c (Ev.told (digit_f x) ?_)
      by_cases g : 48 ≤ x ∧ x ≤ 57
      · rw [if_pos g, decide_eq_true g]; refine Ev.pos rfl ?_
        rw [w64 (n := n * 10) (by omega) (by omega), show (x - 48) % 256 = x - 48 by omega, w64 (by omega) (by omega), hw]
        exact num_l0 s hs d (i + 1) (n * 10 + (x - 48)) (by omega) (by omega) (by omega)
      · rw [if_neg g, decide_eq_false g]; exact Ev.neg (by simp) (Ev.now _)
theorem num_f (s : ByteArray) (hs : s.size ≤ 15) : Ev (fun k => spec_l2num.f k s) (numL (bytesOf s)) := by
  have := num_l0 s hs s.size 0 0 (by omega) (by omega) (by decide)
  exact this
theorem num_cut (s : ByteArray) (a b : Nat) (h : b ≤ s.size) (hb : b ≤ a + 15) : Ev (fun k => spec_l2num.f k (s.extract a b)) (numL (cut (bytesOf s) a b)) := by
  have := num_f (s.extract a b) (by rw [size_extract _ _ _ h]; omega)
  rw [bytes_extract] at this; exact this
def atM (y m d : Int) (l : List Int) : Int := if (secM y m d (numL (cut l 0 2)) (numL (cut l 3 5)) (numL (cut l 6 8))).2 = true then (secM y m d (numL (cut l 0 2)) (numL (cut l 3 5)) (numL (cut l 6 8))).1 else -1
theorem at_f (y m d : Int) (s : ByteArray) (hs : s.size = 8) : Ev (fun k => spec_l2at.f k y m d s) (atM y m d (bytesOf s)) := by
  unfold spec_l2at.f
  refine Ev.pos (by decide) (Ev.pos (by omega) (Ev.bind (num_cut s 0 2 (by omega) (by omega)) (Ev.pos (by decide) (Ev.pos (by omega) (Ev.bind (num_cut s 3 5 (by omega) (by omega)) (Ev.pos (by decide) (Ev.pos (by omega) (Ev.bind (num_cut s 6 8 (by omega) (by omega)) (Ev.told rfl ?_)))))))))
  unfold atM
  by_cases c : (secM y m d (numL (cut (bytesOf s) 0 2)) (numL (cut (bytesOf s) 3 5)) (numL (cut (bytesOf s) 6 8))).2 = true
  · refine Ev.pos c ?_; rw [if_pos c]; exact Ev.now _
  · refine Ev.neg c ?_; rw [if_neg c]; exact Ev.now _
theorem secM_civ {t : Int} (h : isT t) : secM (yr t) (mo t) (da t) (ho t) (mi t) (se t) = (t, true) := by
  unfold secM; rw [if_pos (civ_ok h), civ_secs h]
theorem atM_of {t : Int} (h : isT t) {l : List Int} (hl : clk l (ho t) (mi t) (se t)) : atM (yr t) (mo t) (da t) l = t := by
  unfold atM; rw [hl.1, hl.2.1, hl.2.2, secM_civ h]; rfl

/-! What the program's reader of dates finds -/
theorem isd_f (b : Int) : impl_isDigit.f b = some (decide (48 ≤ b ∧ b ≤ 57)) := by
  unfold impl_isDigit.f
  by_cases h : 48 ≤ b
  · rw [if_pos h]; simp [h]
  · rw [if_neg h]; simp [h]
theorem nums_loops (s : ByteArray) (hs : s.size ≤ 1048576) : ∀ r : Nat,
    (∀ (i : Nat) (out : List Int), i + r = s.size → out.length ≤ i → Ev (fun k => impl_numbersIn.l0 k s out (i : Int)) (out ++ numsL ((bytesOf s).drop i) none)) ∧
    (∀ (i j : Nat) (n : Int) (out : List Int), j + r = s.size → i < j → j ≤ i + 9 → out.length ≤ i → 0 ≤ n → n < 10 ^ (j - i) → Ev (fun k => impl_numbersIn.l1 k s out (i : Int) (j : Int) n) (out ++ numsL ((bytesOf s).drop j) (some (n, j - i))))
  | 0 => by
    have a : ∀ (i : Nat) (out : List Int), i + 0 = s.size → out.length ≤ i → Ev (fun k => impl_numbersIn.l0 k s out (i : Int)) (out ++ numsL ((bytesOf s).drop i) none) := by
      intro i out hi ho
      have e : (bytesOf s).drop i = [] := List.drop_eq_nil_of_le (by rw [bytesOf_length]; omega)
      rw [e]; simp only [numsL, List.append_nil]
      refine Ev.step (fun k => impl_numbersIn.l0.eq_2 _ _ _ k) (Ev.neg (by omega) ?_)
      exact Ev.now _
    refine ⟨a, ?_⟩
    intro i j n out hj hij hc ho h0 h1
    have e : (bytesOf s).drop j = [] := List.drop_eq_nil_of_le (by rw [bytesOf_length]; omega)
    have ih := a j (out ++ [n]) hj (by simp only [List.length_append, List.length_cons, List.length_nil]; omega)
    rw [e] at ih ⊢
    simp only [numsL, List.append_nil] at ih ⊢
    have hw : wrap64 (wrap64 ((j : Int) - 1) + 1) = (j : Int) := by rw [w64 (n := (j : Int) - 1) (by omega) (by omega), w64 (by omega) (by omega)]; omega
    refine Ev.step (fun k => impl_numbersIn.l1.eq_2 _ _ _ _ _ k) (Ev.neg (by omega) (Ev.pos (by omega) (Ev.pos (by omega) ?_)))
    rw [hw]; exact ih
  | r + 1 => by
    obtain ⟨ia, ib⟩ := nums_loops s hs r
    have a : ∀ (i : Nat) (out : List Int), i + (r + 1) = s.size → out.length ≤ i → Ev (fun k => impl_numbersIn.l0 k s out (i : Int)) (out ++ numsL ((bytesOf s).drop i) none) := by
      intro i out hi ho
      have hil : i < (bytesOf s).length := by rw [bytesOf_length]; omega
      have hw : wrap64 ((i : Int) + 1) = ((i + 1 : Nat) : Int) := by rw [w64 (by omega) (by omega)]; omega
      have z : wrap64 ((i : Int) - (i : Int)) = 0 := by rw [w64 (by omega) (by omega)]; omega
      rw [drop_cons hil]
      refine Ev.step (fun k => impl_numbersIn.l0.eq_2 _ _ _ k) (Ev.pos (by omega) ?_)
      refine Ev.step (fun k => impl_numbersIn.l1.eq_2 _ _ _ _ _ k) (Ev.pos (by omega) (Ev.pos (by omega) (Ev.told (isd_f _) ?_)))
      rw [bt_nat]
      generalize hx : (bytesOf s).getD i 0 = x
      unfold numsL
      by_cases g : 48 ≤ x ∧ x ≤ 57
      · rw [if_pos g, decide_eq_true g]
        refine Ev.pos rfl (Ev.pos (by rw [z]; decide) ?_)
        rw [show wrap64 ((10 : Int) * 0) = 0 from by rw [w64 (by decide) (by decide)]; rfl, show (x - 48) % 256 = x - 48 by omega, w64 (n := 0 + (x - 48)) (by omega) (by omega), show 0 + (x - 48) = x - 48 by omega, hw]
        have := ib i (i + 1) (x - 48) out (by omega) (by omega) (by omega) ho (by omega) (by rw [show i + 1 - i = 1 by omega]; show _ < (10 : Int); omega)
        rw [show i + 1 - i = 1 by omega] at this; exact this
      · rw [if_neg g, decide_eq_false g]
        refine Ev.neg (by simp) (Ev.neg (by omega) ?_)
        rw [hw]; exact ia (i + 1) out (by omega) (by omega)
    refine ⟨a, ?_⟩
    intro i j n out hj hij hc ho h0 h1
    have hjl : j < (bytesOf s).length := by rw [bytesOf_length]; omega
    have ih := a j (out ++ [n]) hj (by simp only [List.length_append, List.length_cons, List.length_nil]; omega)
    have hw : wrap64 (wrap64 ((j : Int) - 1) + 1) = (j : Int) := by rw [w64 (n := (j : Int) - 1) (by omega) (by omega), w64 (by omega) (by omega)]; omega
    have hw1 : wrap64 ((j : Int) + 1) = ((j + 1 : Nat) : Int) := by rw [w64 (by omega) (by omega)]; omega
    have z : wrap64 ((j : Int) - (i : Int)) = (j : Int) - (i : Int) := w64 (by omega) (by omega)
    have p : (10 : Int) ^ (j + 1 - i) = 10 ^ (j - i) * 10 := by rw [show j + 1 - i = (j - i) + 1 by omega]; exact Int.pow_succ ..
    have p2 : (10 : Int) ^ (j - i) ≤ 10 ^ 9 := by
      have := Nat.pow_le_pow_right (show 0 < 10 by decide) (show j - i ≤ 9 by omega)
      exact_mod_cast this
    have e9 : (10 : Int) ^ 9 = 1000000000 := by decide
    rw [drop_cons hjl] at ih ⊢
    refine Ev.step (fun k => impl_numbersIn.l1.eq_2 _ _ _ _ _ k) (Ev.pos (by omega) (Ev.pos (by omega) (Ev.told (isd_f _) ?_)))
    rw [bt_nat]
    generalize (bytesOf s).getD j 0 = x at ih ⊢
    simp only [numsL] at ih ⊢
    rw [z]
    by_cases g : 48 ≤ x ∧ x ≤ 57
    · rw [if_pos g, decide_eq_true g]; rw [if_pos g] at ih
      refine Ev.pos rfl ?_
      by_cases c : j - i < 9
      · rw [if_pos c]; refine Ev.pos (by omega) ?_
        rw [w64 (n := 10 * n) (by omega) (by omega), show (x - 48) % 256 = x - 48 by omega, w64 (n := 10 * n + (x - 48)) (by omega) (by omega), hw1]
        have := ib i (j + 1) (10 * n + (x - 48)) out (by omega) (by omega) (by omega) ho (by omega) (by omega)
        rw [show j + 1 - i = j - i + 1 by omega] at this; exact this
      · rw [if_neg c]; refine Ev.neg (by omega) (Ev.pos (by omega) (Ev.pos (by omega) ?_))
        rw [hw]; simp only [List.append_assoc, List.singleton_append] at ih; exact ih
    · rw [if_neg g, decide_eq_false g]; rw [if_neg g] at ih
      refine Ev.neg (by simp) (Ev.pos (by omega) (Ev.pos (by omega) ?_))
      rw [hw]; simp only [List.append_assoc, List.singleton_append] at ih; exact ih
theorem nums_f (s : ByteArray) (hs : s.size ≤ 1048576) : Ev (fun k => impl_numbersIn.f k s) (numsL (bytesOf s) none) := (nums_loops s hs s.size).1 0 [] (by omega) (by simp)
theorem nums_bd : ∀ (l : List Int),
    (∀ x ∈ numsL l none, 0 ≤ x ∧ x < 1000000000) ∧ (∀ (v : Int) (c : Nat), 0 ≤ v → v < 10 ^ c → c ≤ 9 → ∀ x ∈ numsL l (some (v, c)), 0 ≤ x ∧ x < 1000000000)
  | [] => by
    refine ⟨fun x hx => by simp [numsL] at hx, ?_⟩
    intro v c h0 h1 hc x hx
    have p2 : (10 : Int) ^ c ≤ 10 ^ 9 := by
      have := Nat.pow_le_pow_right (show 0 < 10 by decide) hc
      exact_mod_cast this
    have e9 : (10 : Int) ^ 9 = 1000000000 := by decide
    simp [numsL] at hx; omega
  | y :: l => by
    obtain ⟨ia, ib⟩ := nums_bd l
    refine ⟨?_, ?_⟩
    · intro x hx
      simp only [numsL] at hx
      split at hx
      · rename_i g; exact ib (y - 48) 1 (by omega) (by show _ < (10 : Int); omega) (by decide) x hx
      · exact ia x hx
    · intro v c h0 h1 hc x hx
      have p2 : (10 : Int) ^ c ≤ 10 ^ 9 := by
        have := Nat.pow_le_pow_right (show 0 < 10 by decide) hc
        exact_mod_cast this
      have e9 : (10 : Int) ^ 9 = 1000000000 := by decide
      have p : (10 : Int) ^ (c + 1) = 10 ^ c * 10 := Int.pow_succ ..
      simp only [numsL] at hx
      split at hx
      · rename_i g
        split at hx
        · exact ib (10 * v + (y - 48)) (c + 1) (by omega) (by omega) (by omega) x hx
        · rcases List.mem_cons.mp hx with h | h
          · omega
          · exact ib (y - 48) 1 (by omega) (by show _ < (10 : Int); omega) (by decide) x h
      · rcases List.mem_cons.mp hx with h | h
        · omega
        · exact ia x h
/-! a byte, a name in a text -/
theorem byte_eq {b c : UInt8} {x : Int} (h : (b.toNat : Int) = x) (hc : (c.toNat : Int) = 44 ∨ True) : (b = c) ↔ (x = (c.toNat : Int)) := by
  rw [← UInt8.toNat_inj]; omega
theorem idx_lib (c : UInt8) : ∀ l : List UInt8, Lib.indexByte l c = idxL (l.map fun b => (b.toNat : Int)) (c.toNat : Int)
  | [] => rfl
  | b :: l => by
    simp only [Lib.indexByte, List.map_cons, idxL, idx_lib c l, beq_iff_eq, byte_eq (c := c) (rfl : (b.toNat : Int) = _) (.inr trivial)]
theorem idx_f (s : ByteArray) (c : Int) (hc : 0 ≤ c ∧ c < 256) : strings_IndexByte.f s c = some (idxL (bytesOf s) c) := by
  unfold strings_IndexByte.f
  rw [idx_lib]
  have : ((c.toNat.toUInt8).toNat : Int) = c := by
    rw [show c.toNat.toUInt8 = UInt8.ofNat c.toNat from rfl, UInt8.toNat_ofNat']; omega
  rw [this]; rfl
theorem head_lib : ∀ (p l : List UInt8), p.isPrefixOf l = atHead (p.map fun b => (b.toNat : Int)) (l.map fun b => (b.toNat : Int))
  | [], _ => by simp [atHead]
  | _ :: _, [] => rfl
  | c :: p, b :: l => by
    simp only [List.isPrefixOf, List.map_cons, atHead, head_lib p l]
    congr 1
    rw [Bool.eq_iff_iff, beq_iff_eq, beq_iff_eq, ← UInt8.toNat_inj]; omega
theorem has_lib (p : List UInt8) : ∀ l : List UInt8, Lib.contains l p = hasL (l.map fun b => (b.toNat : Int)) (p.map fun b => (b.toNat : Int))
  | [] => by
    unfold Lib.contains Lib.index hasL
    cases p <;> rfl
  | b :: l => by
    have ih := has_lib p l
    unfold Lib.contains at ih ⊢
    have hg := Lib.index_ge l p
    have e : Lib.index (b :: l) p = if p.isPrefixOf (b :: l) = true then 0 else if (Lib.index l p == -1) = true then -1 else Lib.index l p + 1 := rfl
    have hh := head_lib p (b :: l)
    show decide (0 ≤ Lib.index (b :: l) p) = (atHead (p.map fun b => (b.toNat : Int)) ((b :: l).map fun b => (b.toNat : Int)) || hasL (l.map fun b => (b.toNat : Int)) (p.map fun b => (b.toNat : Int)))
    rw [← ih, ← hh]
    by_cases h : p.isPrefixOf (b :: l) = true
    · rw [if_pos h] at e
      rw [e, h]; rfl
    · rw [if_neg h] at e
      rw [Bool.eq_false_iff.mpr h, Bool.false_or]
      by_cases g : Lib.index l p = -1
      · rw [if_pos (beq_iff_eq.mpr g)] at e
        rw [e, g]
      · rw [if_neg (fun q => g (beq_iff_eq.mp q))] at e
        rw [e, decide_eq_true (show 0 ≤ Lib.index l p + 1 by omega), decide_eq_true (show 0 ≤ Lib.index l p by omega)]
theorem mname_byte {m : Int} (hm : 1 ≤ m ∧ m ≤ 12) : ∀ x ∈ mname m, 0 ≤ x ∧ x < 256 := by
  have := months_all (fun m => (mname m).all fun x => decide (0 ≤ x) && decide (x < 256)) (by decide +kernel) hm
  intro x hx
  have := List.all_eq_true.mp this x hx
  simpa using this
theorem has_f (s : ByteArray) (hs : s.size ≤ 1048576) {m : Int} (hm : 1 ≤ m ∧ m ≤ 12) : strings_Contains.f s (strOfNums (mname m)) = some (hasL (bytesOf s) (mname m)) := by
  unfold strings_Contains.f
  rw [if_pos (by omega), has_lib]
  have := bytes_strOf (mname_byte hm)
  rw [show (List.map (fun b => (b.toNat : Int)) (strOfNums (mname m)).data.toList) = bytesOf (strOfNums (mname m)) from rfl, this]; rfl
def inFrom : Nat → Int → List Int → Int
  | 0, _, _ => 0
  | d + 1, i, l => if hasL l (mname i) = true then i else inFrom d (i + 1) l
theorem month_l0 (s : ByteArray) (hs : s.size ≤ 1048576) : ∀ (d i : Nat), i + d = 12 → Ev (fun k => impl_monthIn.l0 k s monthsB 12 (i : Int)) (inFrom d ((i : Int) + 1) (bytesOf s))
  | 0, i, h => by
    refine Ev.step (fun k => impl_monthIn.l0.eq_2 _ _ _ _ k) (Ev.neg (by omega) ?_)
    exact Ev.now _
  | d + 1, i, h => by
    have hw : wrap64 ((i : Int) + 1) = (i : Int) + 1 := w64 (by omega) (by omega)
    have rd : rdOf ByteArray.empty monthsB (i : Int) = strOfNums (mname ((i : Int) + 1)) := by
      have := rd_month (m := (i : Int) + 1) ⟨by omega, by omega⟩
      rw [show (i : Int) + 1 - 1 = (i : Int) by omega] at this; exact this
    refine Ev.step (fun k => impl_monthIn.l0.eq_2 _ _ _ _ k) (Ev.pos (by omega) (Ev.pos (by omega) (Ev.pos (by rw [show (monthsB.length : Int) = 12 from rfl]; omega) ?_)))
    rw [rd, hw]
    refine Ev.told (has_f s hs (m := (i : Int) + 1) ⟨by omega, by omega⟩) ?_
    unfold inFrom
    by_cases c : hasL (bytesOf s) (mname ((i : Int) + 1)) = true
    · refine Ev.pos c ?_; rw [if_pos c]; exact Ev.now _
    · refine Ev.neg c ?_; rw [if_neg c]
      have := month_l0 s hs d (i + 1) (by omega)
      rw [show ((i + 1 : Nat) : Int) = (i : Int) + 1 by omega] at this; exact this
theorem month_f (s : ByteArray) (hs : s.size ≤ 1048576) : Ev (fun k => impl_monthIn.f k s) (monthIn (bytesOf s)) := by
  have h := month_l0 s hs 12 0 (by omega)
  unfold impl_monthIn.f
  refine Ev.told impl_months_eq ?_
  have e : monthIn (bytesOf s) = inFrom 12 (((0 : Nat) : Int) + 1) (bytesOf s) := rfl
  rw [e]; exact h
/-! the reader -/
def implD (l : List Int) : Int × Bool :=
  if (numsL l none).length = 5 ∧ ok6 (byNums l (numsL l none)) ∧ (httpT (secs6 (byNums l (numsL l none))) = l ∨ longT (secs6 (byNums l (numsL l none))) = l ∨ lineT (secs6 (byNums l (numsL l none))) = l) then (secs6 (byNums l (numsL l none)), true) else (0, false)
theorem implD_rhd {l : List Int} (hl : l ≠ []) : implD l = rhd l := by
  unfold implD
  split
  · rename_i h
    exact (rhd_yes (isText_of hl h.2.2)).symm
  · rename_i h
    refine (rhd_no ?_).symm
    intro t ht
    apply h
    obtain ⟨h5, e⟩ := byNums_of ht
    rw [e]
    refine ⟨h5, ok6_civ ht.1, ?_⟩
    rw [secs6_civ ht.1]; exact texts_of ht
def Bt (l : List Int) : Prop := ∀ y ∈ l, 0 ≤ y ∧ y < 256
theorem Bt.app {p q : List Int} (hp : Bt p) (hq : Bt q) : Bt (p ++ q) := by
  intro y hy
  rcases List.mem_append.mp hy with h | h
  · exact hp y h
  · exact hq y h
theorem Bt.take {p : List Int} (hp : Bt p) (n : Nat) : Bt (p.take n) := fun y hy => hp y (List.mem_of_mem_take hy)
theorem Bt.pad (k : Nat) (n : Int) : Bt (padL k n) := fun y hy => by have := padL_digit k n y hy; omega
theorem Bt.lit {l : List Int} (h : (l.all fun y => decide (0 ≤ y) && decide (y < 256)) = true) : Bt l := fun y hy => by
  have := List.all_eq_true.mp h y hy
  simpa using this
theorem Bt.clock (t : Int) : Bt (clockL t) := by
  unfold clockL
  exact (Bt.pad 2 _).app ((Bt.lit (by decide)).app ((Bt.pad 2 _).app ((Bt.lit (by decide)).app (Bt.pad 2 _))))
theorem dname_byte {w : Int} (hw : 0 ≤ w ∧ w ≤ 6) : Bt (dname w) := by
  rcases seven hw with rfl | rfl | rfl | rfl | rfl | rfl | rfl <;> exact Bt.lit (by decide +kernel)
theorem http_byte {t : Int} (h : isT t) : Bt (httpL t) := by
  have hm : Bt (mname (mo t)) := mname_byte (parts h).2.1
  unfold httpL
  exact ((dname_byte (wd_in t)).take 3).app ((Bt.lit (by decide)).app ((Bt.pad 2 _).app ((Bt.lit (by decide)).app (hm.app ((Bt.lit (by decide)).app ((Bt.pad 4 _).app ((Bt.lit (by decide)).app ((Bt.clock t).app (Bt.lit (by decide))))))))))
theorem long_byte {t : Int} (h : isT t) : Bt (longL t) := by
  have hm : Bt (mname (mo t)) := mname_byte (parts h).2.1
  unfold longL
  exact (dname_byte (wd_in t)).app ((Bt.lit (by decide)).app ((Bt.pad 2 _).app ((Bt.lit (by decide)).app (hm.app ((Bt.lit (by decide)).app ((Bt.pad 2 _).app ((Bt.lit (by decide)).app ((Bt.clock t).app (Bt.lit (by decide))))))))))
theorem day2_byte {d : Int} (h : 1 ≤ d ∧ d ≤ 31) : Bt (day2 d) := by
  unfold day2
  split
  · intro y hy
    simp only [List.mem_cons, List.not_mem_nil, or_false] at hy
    omega
  · exact Bt.pad 2 _
theorem line_byte {t : Int} (h : isT t) : Bt (lineL t) := by
  have hm : Bt (mname (mo t)) := mname_byte (parts h).2.1
  have hd : Bt (day2 (da t)) := day2_byte (parts h).2.2.1
  unfold lineL
  exact ((dname_byte (wd_in t)).take 3).app ((Bt.lit (by decide)).app (hm.app ((Bt.lit (by decide)).app (hd.app ((Bt.lit (by decide)).app ((Bt.clock t).app ((Bt.lit (by decide)).app (Bt.pad 4 _))))))))
theorem httpT_byte (x : Int) : ∀ y ∈ httpT x, 0 ≤ y ∧ y < 256 := by
  intro y hy
  unfold httpT at hy
  split at hy
  · rename_i h; exact http_byte h y hy
  · cases hy
theorem longT_byte (x : Int) : ∀ y ∈ longT x, 0 ≤ y ∧ y < 256 := by
  intro y hy
  unfold longT at hy
  split at hy
  · rename_i h; exact long_byte h.1 y hy
  · cases hy
theorem lineT_byte (x : Int) : ∀ y ∈ lineT x, 0 ≤ y ∧ y < 256 := by
  intro y hy
  unfold lineT at hy
  split at hy
  · rename_i h; exact line_byte h y hy
  · cases hy
theorem same_iff {l : List Int} (hb : ∀ y ∈ l, 0 ≤ y ∧ y < 256) (s : ByteArray) : (strOfNums l).toList = s.toList ↔ l = bytesOf s := by
  rw [toList_iff]
  constructor
  · rintro rfl; rw [bytes_strOf hb]
  · intro h; rw [h, strOf_bytes]
theorem impl_j1 (s : ByteArray) (p : P6) : Ev (fun k => impl_ReadHttpDate.j1 k s p.y p.m p.d p.h p.mn p.s) (if ok6 p ∧ (httpT (secs6 p) = bytesOf s ∨ longT (secs6 p) = bytesOf s ∨ lineT (secs6 p) = bytesOf s) then (secs6 p, true) else (0, false)) := by
  have hsec : impl_SecondsOf.f p.y p.m p.d p.h p.mn p.s = some (if ok6 p then (secs6 p, true) else (0, false)) := rfl
  refine Ev.step (fun k => impl_ReadHttpDate.j1.eq_2 _ _ _ _ _ _ _ k) (Ev.told hsec ?_)
  by_cases c : ok6 p
  · rw [if_pos c]
    refine Ev.pos rfl (Ev.told (impl_http _) ?_)
    by_cases a1 : httpT (secs6 p) = bytesOf s
    · have q : ok6 p ∧ (httpT (secs6 p) = bytesOf s ∨ longT (secs6 p) = bytesOf s ∨ lineT (secs6 p) = bytesOf s) := ⟨c, .inl a1⟩
      rw [if_pos q]; exact Ev.pos ((same_iff (httpT_byte _) s).mpr a1) (Ev.now _)
    · refine Ev.neg (fun q => a1 ((same_iff (httpT_byte _) s).mp q)) (Ev.bind (impl_long _) ?_)
      by_cases a2 : longT (secs6 p) = bytesOf s
      · have q : ok6 p ∧ (httpT (secs6 p) = bytesOf s ∨ longT (secs6 p) = bytesOf s ∨ lineT (secs6 p) = bytesOf s) := ⟨c, .inr (.inl a2)⟩
        rw [if_pos q]; exact Ev.pos ((same_iff (longT_byte _) s).mpr a2) (Ev.now _)
      · refine Ev.neg (fun q => a2 ((same_iff (longT_byte _) s).mp q)) (Ev.bind (impl_line _) ?_)
        by_cases a3 : lineT (secs6 p) = bytesOf s
        · have q : ok6 p ∧ (httpT (secs6 p) = bytesOf s ∨ longT (secs6 p) = bytesOf s ∨ lineT (secs6 p) = bytesOf s) := ⟨c, .inr (.inr a3)⟩
          rw [if_pos q]; exact Ev.pos ((same_iff (lineT_byte _) s).mpr a3) (Ev.now _)
        · have q : ¬ (ok6 p ∧ (httpT (secs6 p) = bytesOf s ∨ longT (secs6 p) = bytesOf s ∨ lineT (secs6 p) = bytesOf s)) := by
            rintro ⟨_, h | h | h⟩ <;> contradiction
          rw [if_neg q]; exact Ev.neg (fun q => a3 ((same_iff (lineT_byte _) s).mp q)) (Ev.now _)
  · rw [if_neg c, if_neg fun h => c h.1]
    exact Ev.neg (by simp) (Ev.now _)
theorem five_of {l : List Int} (h : l.length = 5) : ∃ a b c d e, l = [a, b, c, d, e] := by
  match l, h with
  | [a, b, c, d, e], _ => exact ⟨a, b, c, d, e, rfl⟩
theorem implD_no {l : List Int} (h : ¬ (numsL l none).length = 5) : implD l = (0, false) := by
  unfold implD; rw [if_neg fun c => h c.1]
theorem implD_yes {l : List Int} (h : (numsL l none).length = 5) : implD l = if ok6 (byNums l (numsL l none)) ∧ (httpT (secs6 (byNums l (numsL l none))) = l ∨ longT (secs6 (byNums l (numsL l none))) = l ∨ lineT (secs6 (byNums l (numsL l none))) = l) then (secs6 (byNums l (numsL l none)), true) else (0, false) := by
  unfold implD
  by_cases c : ok6 (byNums l (numsL l none)) ∧ (httpT (secs6 (byNums l (numsL l none))) = l ∨ longT (secs6 (byNums l (numsL l none))) = l ∨ lineT (secs6 (byNums l (numsL l none))) = l)
  · rw [if_pos c, if_pos ⟨h, c⟩]
  · rw [if_neg c, if_neg fun q => c q.2]
theorem idx_lt : ∀ (l : List Int) (c : Int), idxL l c < l.length ∨ l = [] 
  | [], _ => .inr rfl
  | x :: l, c => by
    left
    rcases idx_lt l c with h | h
    · simp only [idxL, List.length_cons]; split
      · omega
      · split <;> omega
    · subst h; simp only [idxL]; split
      · simp
      · simp
theorem impl_j0 (s : ByteArray) (h6 : 6 ≤ s.size) (h40 : s.size ≤ 40) : Ev (fun k => impl_ReadHttpDate.j0 k s false) (implD (bytesOf s)) := by
  refine Ev.step (fun k => impl_ReadHttpDate.j0.eq_2 _ _ k) (Ev.neg (by simp) (Ev.bind (nums_f s (by omega)) ?_))
  by_cases n5 : (numsL (bytesOf s) none).length = 5
  · rw [implD_yes n5]
    have bd := (nums_bd (bytesOf s)).1
    have hp := impl_j1 s (byNums (bytesOf s) (numsL (bytesOf s) none))
    have hlen := bytesOf_length s
    have hz : ∀ a : Nat, (s.extract a s.size).size ≤ 1048576 := by intro a; rw [← bytesOf_length, bytes_to_end, List.length_drop, bytesOf_length]; omega
    refine Ev.pos (by omega) (Ev.pos (by omega) ?_)
    have m3 := month_f (s.extract 3 s.size) (hz 3)
    rw [bytes_to_end] at m3
    refine Ev.bind m3 (Ev.told (idx_f s 44 (by decide)) ?_)
    obtain ⟨n0, n1, n2, n3, n4, en⟩ := five_of n5
    rw [en] at bd hp ⊢
    have b1 := bd n1 (by simp)
    by_cases c : 0 ≤ idxL (bytesOf s) 44
    · have hc : idxL (bytesOf s) 44 ≤ (s.size : Int) := by
        rcases idx_lt (bytesOf s) 44 with h | h
        · omega
        · rw [h] at hlen; simp at hlen; omega
      have mc := month_f (s.extract (idxL (bytesOf s) 44).toNat s.size) (hz _)
      rw [bytes_to_end] at mc
      have hby : byNums (bytesOf s) [n0, n1, n2, n3, n4] = ⟨if 0 ≤ idxL (bytesOf s) 45 then full2 n1 else n1, monthIn ((bytesOf s).drop (idxL (bytesOf s) 44).toNat), n0, n2, n3, n4⟩ := by simp only [byNums]; rw [if_pos c]
      refine Ev.pos c (Ev.pos c (Ev.pos hc (Ev.bind mc ?_)))
      refine Ev.pos (by simp) (Ev.pos (by simp) (Ev.pos (by simp) (Ev.pos (by simp) (Ev.pos (by simp) (Ev.told (idx_f s 45 (by decide)) ?_)))))
      rw [show rd [n0, n1, n2, n3, n4] 0 = n0 from rfl, show rd [n0, n1, n2, n3, n4] 1 = n1 from rfl, show rd [n0, n1, n2, n3, n4] 2 = n2 from rfl, show rd [n0, n1, n2, n3, n4] 3 = n3 from rfl, show rd [n0, n1, n2, n3, n4] 4 = n4 from rfl]
      rw [w64 (n := n1 + 1900) (by omega) (by omega), w64 (n := n1 + 1900 + 100) (by omega) (by omega)]
      by_cases d : 0 ≤ idxL (bytesOf s) 45
      · refine Ev.pos d ?_
        by_cases e : n1 + 1900 < 1970
        · refine Ev.pos e ?_
          rw [hby, if_pos d, show full2 n1 = n1 + 1900 + 100 by unfold full2; rw [if_pos e]] at hp
          rw [hby, if_pos d, show full2 n1 = n1 + 1900 + 100 by unfold full2; rw [if_pos e]]
          exact hp
        · refine Ev.neg e ?_
          rw [hby, if_pos d, show full2 n1 = n1 + 1900 by unfold full2; rw [if_neg e]] at hp
          rw [hby, if_pos d, show full2 n1 = n1 + 1900 by unfold full2; rw [if_neg e]]
          exact hp
      · refine Ev.neg d ?_
        rw [hby, if_neg d] at hp
        rw [hby, if_neg d]
        exact hp
    · have hby : byNums (bytesOf s) [n0, n1, n2, n3, n4] = ⟨n4, monthIn ((bytesOf s).drop 3), n0, n1, n2, n3⟩ := by simp only [byNums]; rw [if_neg c]
      rw [hby] at hp
      rw [hby]
      refine Ev.neg c ?_
      refine Ev.pos (by simp) (Ev.pos (by simp) (Ev.pos (by simp) (Ev.pos (by simp) (Ev.pos (by simp) ?_))))
      exact hp
  · rw [implD_no n5]
    exact Ev.neg (by omega) (Ev.now _)
theorem impl_rhd (s : ByteArray) : Ev (fun k => impl_ReadHttpDate.f k s) (rhd (bytesOf s)) := by
  have hlen := bytesOf_length s
  have bad : s.size < 6 ∨ 40 < s.size → rhd (bytesOf s) = (0, false) := by
    intro h
    refine rhd_no ?_
    intro t ht
    rcases lens ht with ⟨_, n⟩ | ⟨_, _, n1, n2⟩ | ⟨_, n⟩ <;> omega
  unfold impl_ReadHttpDate.f
  by_cases h6 : s.size < 6
  · rw [bad (.inl h6)]
    refine Ev.pos (by omega) (Ev.step (fun k => impl_ReadHttpDate.j0.eq_2 _ _ k) (Ev.pos rfl (Ev.now _)))
  · refine Ev.neg (by omega) ?_
    by_cases h40 : 40 < s.size
    · rw [bad (.inr h40), show decide ((s.size : Int) > 40) = true from decide_eq_true (by omega)]
      exact Ev.step (fun k => impl_ReadHttpDate.j0.eq_2 _ _ k) (Ev.pos rfl (Ev.now _))
    · rw [show decide ((s.size : Int) > 40) = false from decide_eq_false (by omega), ← implD_rhd (by intro q; rw [q] at hlen; simp at hlen; omega)]
      exact impl_j0 s (by omega) (by omega)

/-! What the reference's reader of dates finds -/
def atFrom : Nat → Int → List Int → Int
  | 0, _, _ => -1
  | d + 1, i, l => if mname i = l then i else atFrom d (i + 1) l
theorem spec_month_l0 (s : ByteArray) : ∀ (d i : Nat), 1 ≤ i → i + d = 13 → Ev (fun k => spec_l2month.l0 k s (i : Int)) (atFrom d (i : Int) (bytesOf s))
  | 0, i, h1, h => by
    refine Ev.step (fun k => spec_l2month.l0.eq_2 _ _ k) (Ev.neg (by omega) ?_)
    exact Ev.now _
  | d + 1, i, h1, h => by
    have hw : wrap64 ((i : Int) + 1) = ((i + 1 : Nat) : Int) := by rw [w64 (by omega) (by omega)]; omega
    have hb := mname_byte (m := (i : Int)) ⟨by omega, by omega⟩
    refine Ev.step (fun k => spec_l2month.l0.eq_2 _ _ k) (Ev.pos (by omega) (Ev.told (spec_month (m := (i : Int)) ⟨by omega, by omega⟩) ?_))
    unfold atFrom
    by_cases c : mname (i : Int) = bytesOf s
    · refine Ev.pos ((same_iff hb s).mpr c) ?_; rw [if_pos c]; exact Ev.now _
    · refine Ev.neg (fun q => c ((same_iff hb s).mp q)) ?_; rw [if_neg c, hw]
      have := spec_month_l0 s d (i + 1) (by omega) (by omega)
      rw [show (i : Int) + 1 = ((i + 1 : Nat) : Int) by omega]; exact this
theorem spec_month_f (s : ByteArray) : Ev (fun k => spec_l2month.f k s) (monthAt (bytesOf s)) := spec_month_l0 s 12 1 (by decide) (by decide)
theorem month_cut (s : ByteArray) (a b : Nat) : Ev (fun k => spec_l2month.f k (s.extract a b)) (monthAt (cut (bytesOf s) a b)) := by
  have := spec_month_f (s.extract a b)
  rw [bytes_extract] at this; exact this
theorem numA_bd : ∀ (l : List Int) (i : Nat) (n : Int), 0 ≤ n → n < 10 ^ i → -1 ≤ numA l n ∧ numA l n < 10 ^ (i + l.length)
  | [], i, n, h0, h1 => by simp only [numA, List.length_nil, Nat.add_zero]; omega
  | x :: l, i, n, h0, h1 => by
    have p : (10 : Int) ^ (i + 1) = 10 ^ i * 10 := Int.pow_succ ..
    simp only [numA, List.length_cons]
    rw [show i + (l.length + 1) = (i + 1) + l.length by omega]
    split
    · exact numA_bd l (i + 1) (n * 10) (by omega) (by omega)
    · split
      · exact numA_bd l (i + 1) (n * 10 + (x - 48)) (by omega) (by omega)
      · have : (0 : Int) < 10 ^ (i + 1 + l.length) := Int.pow_pos (by decide)
        omega
theorem num2_bd (l : List Int) (h : l.length = 2) : -1 ≤ numL l ∧ numL l < 100 := by
  have := numA_bd l 0 0 (by decide) (by decide)
  rw [h] at this; exact this
def atP (p : P6) : Int := if ok6 p then secs6 p else -1
theorem atM_P (y m d : Int) (c : List Int) : atM y m d c = atP (clk3 y m d c) := by
  unfold atM atP secM
  by_cases k : ok6 (clk3 y m d c)
  · have k' : okC y m d (numL (cut c 0 2)) (numL (cut c 3 5)) (numL (cut c 6 8)) := k
    rw [if_pos k, if_pos k', if_pos rfl]; rfl
  · have k' : ¬ okC y m d (numL (cut c 0 2)) (numL (cut c 3 5)) (numL (cut c 6 8)) := k
    rw [if_neg k, if_neg k', if_neg (by simp)]
theorem at_cut (y m d : Int) (s : ByteArray) (a b : Nat) (h : b ≤ s.size) (hb : b = a + 8) : Ev (fun k => spec_l2at.f k y m d (s.extract a b)) (atP (clk3 y m d (cut (bytesOf s) a b))) := by
  have := at_f y m d (s.extract a b) (by rw [size_extract _ _ _ h]; omega)
  rw [bytes_extract, atM_P] at this; exact this
theorem atP_civ {t : Int} (h : isT t) : atP (civ t) = t := by unfold atP; rw [if_pos (ok6_civ h), secs6_civ h]
theorem ev29 (s : ByteArray) (hs : s.size = 29) {r : Int × Bool} (h1 : httpT (atP (byHttp (bytesOf s))) = bytesOf s → r = (atP (byHttp (bytesOf s)), true))
    (h2 : httpT (atP (byHttp (bytesOf s))) ≠ bytesOf s → Ev (fun k => spec_ReadHttpDate.j0 k s) r) : Ev (fun k => spec_ReadHttpDate.f k s) r := by
  unfold spec_ReadHttpDate.f
  refine Ev.pos (by omega) (Ev.pos (by decide) (Ev.pos (by omega) (Ev.bind (num_cut s 12 16 (by omega) (by omega)) (Ev.pos (by decide) (Ev.pos (by omega) (Ev.bind (month_cut s 8 11) (Ev.pos (by decide) (Ev.pos (by omega) (Ev.bind (num_cut s 5 7 (by omega) (by omega)) (Ev.pos (by decide) (Ev.pos (by omega) (Ev.bind (at_cut _ _ _ s 17 25 (by omega) rfl) (Ev.bind (spec_http _) ?_)))))))))))))
  by_cases c : httpT (atP (byHttp (bytesOf s))) = bytesOf s
  · rw [h1 c]; exact Ev.pos ((same_iff (httpT_byte _) s).mpr c) (Ev.now _)
  · exact Ev.neg (fun q => c ((same_iff (httpT_byte _) s).mp q)) (h2 c)
theorem ev24 (s : ByteArray) (hs : s.size = 24) {r : Int × Bool} (h1 : lineT (atP (byLine (bytesOf s))) = bytesOf s → r = (atP (byLine (bytesOf s)), true))
    (h2 : lineT (atP (byLine (bytesOf s))) ≠ bytesOf s → Ev (fun k => spec_ReadHttpDate.j1 k s) r) : Ev (fun k => spec_ReadHttpDate.j0 k s) r := by
  refine Ev.step (fun k => spec_ReadHttpDate.j0.eq_2 _ k) ?_
  refine Ev.pos (by omega) (Ev.pos (by decide) (Ev.pos (by omega) (Ev.bind (num_cut s 20 24 (by omega) (by omega)) (Ev.pos (by decide) (Ev.pos (by omega) (Ev.bind (month_cut s 4 7) (Ev.pos (by decide) (Ev.pos (by omega) (Ev.bind (num_cut s 8 10 (by omega) (by omega)) (Ev.pos (by decide) (Ev.pos (by omega) (Ev.bind (at_cut _ _ _ s 11 19 (by omega) rfl) (Ev.bind (spec_line _) ?_)))))))))))))
  by_cases c : lineT (atP (byLine (bytesOf s))) = bytesOf s
  · rw [h1 c]; exact Ev.pos ((same_iff (lineT_byte _) s).mpr c) (Ev.now _)
  · exact Ev.neg (fun q => c ((same_iff (lineT_byte _) s).mp q)) (h2 c)
theorem evTail (s q : ByteArray) (hq : q.size = 22) {r : Int × Bool} (h1 : longT (atP (byTail (bytesOf q))) = bytesOf s → r = (atP (byTail (bytesOf q)), true))
    (h2 : longT (atP (byTail (bytesOf q))) ≠ bytesOf s → r = (0, false)) : Ev (fun k => spec_ReadHttpDate.j3 k s q (full (numL (cut (bytesOf q) 7 9)))) r := by
  refine Ev.step (fun k => spec_ReadHttpDate.j3.eq_2 _ _ _ k) ?_
  refine Ev.pos (by decide) (Ev.pos (by omega) (Ev.bind (month_cut q 3 6) (Ev.pos (by decide) (Ev.pos (by omega) (Ev.bind (num_cut q 0 2 (by omega) (by omega)) (Ev.pos (by decide) (Ev.pos (by omega) (Ev.bind (at_cut _ _ _ q 10 18 (by omega) rfl) (Ev.bind (spec_long _) ?_)))))))))
  by_cases c : longT (atP (byTail (bytesOf q))) = bytesOf s
  · rw [h1 c]; exact Ev.pos ((same_iff (longT_byte _) s).mpr c) (Ev.now _)
  · rw [h2 c]; exact Ev.neg (fun w => c ((same_iff (longT_byte _) s).mp w)) (Ev.now _)
theorem ev_j1 (s : ByteArray) (h1 : 30 ≤ s.size) (h2 : s.size ≤ 33) {r : Int × Bool} (a1 : longT (atP (byTail ((bytesOf s).drop (s.size - 22)))) = bytesOf s → r = (atP (byTail ((bytesOf s).drop (s.size - 22))), true))
    (a2 : longT (atP (byTail ((bytesOf s).drop (s.size - 22)))) ≠ bytesOf s → r = (0, false)) : Ev (fun k => spec_ReadHttpDate.j1 k s) r := by
  have ew : wrap64 ((s.size : Int) - 22) = (s.size : Int) - 22 := w64 (by omega) (by omega)
  have en : ((s.size : Int) - 22).toNat = s.size - 22 := by omega
  have hd := bytes_to_end s (s.size - 22)
  have hz : (s.extract (s.size - 22) s.size).size = 22 := by rw [size_extract _ _ _ (Nat.le_refl _)]; omega
  have hq := evTail s (s.extract (s.size - 22) s.size) hz (r := r) (by rw [hd]; exact a1) (by rw [hd]; exact a2)
  have hl : (cut (bytesOf (s.extract (s.size - 22) s.size)) 7 9).length = 2 := cut_length _ 7 9 (by rw [bytesOf_length]; omega)
  have hb := num2_bd _ hl
  refine Ev.step (fun k => spec_ReadHttpDate.j1.eq_2 _ k) (Ev.pos (by omega) ?_)
  rw [show decide ((s.size : Int) ≤ 33) = true from decide_eq_true (by omega)]
  refine Ev.step (fun k => spec_ReadHttpDate.j2.eq_2 _ _ k) (Ev.pos rfl ?_)
  rw [ew, en]
  refine Ev.pos (by omega) (Ev.pos (by omega) (Ev.pos (by decide) (Ev.pos (by omega) (Ev.bind (num_cut _ 7 9 (by omega) (by omega)) ?_))))
  generalize numL (cut (bytesOf (s.extract (s.size - 22) s.size)) 7 9) = y at hq hb ⊢
  rw [w64 (n := y + 1900) (by omega) (by omega), w64 (n := y + 2000) (by omega) (by omega)]
  unfold full at hq
  by_cases c : y ≥ 70
  · rw [if_pos c] at hq; exact Ev.pos c hq
  · rw [if_neg c] at hq; exact Ev.neg c hq
theorem ev_j1_out (s : ByteArray) (h : ¬ (30 ≤ s.size ∧ s.size ≤ 33)) : Ev (fun k => spec_ReadHttpDate.j1 k s) (0, false) := by
  refine Ev.step (fun k => spec_ReadHttpDate.j1.eq_2 _ k) ?_
  by_cases h1 : (s.size : Int) ≥ 30
  · refine Ev.pos h1 ?_
    rw [show decide ((s.size : Int) ≤ 33) = false from decide_eq_false (by omega)]
    exact Ev.step (fun k => spec_ReadHttpDate.j2.eq_2 _ _ k) (Ev.neg (by simp) (Ev.now _))
  · refine Ev.neg h1 ?_
    exact Ev.step (fun k => spec_ReadHttpDate.j2.eq_2 _ _ k) (Ev.neg (by simp) (Ev.now _))
theorem spec_rhd (s : ByteArray) : Ev (fun k => spec_ReadHttpDate.f k s) (rhd (bytesOf s)) := by
  have hlen := bytesOf_length s
  by_cases c : ∃ t, isText (bytesOf s) t
  · obtain ⟨t, ht⟩ := c
    rw [rhd_yes ht]
    rcases lens ht with ⟨e, n⟩ | ⟨hy, e, n1, n2⟩ | ⟨e, n⟩
    · have x : atP (byHttp (bytesOf s)) = t := by rw [e, byHttp_of ht.1, atP_civ ht.1]
      refine ev29 s (by omega) ?_ ?_
      · intro _; rw [x]
      · intro q; exact absurd (by rw [x, e]; unfold httpT; rw [if_pos ht.1]) q
    · have x : atP (byTail ((bytesOf s).drop (s.size - 22))) = t := by
        rw [← hlen, e, long_tail ht.1, byTail_of ht.1 hy, atP_civ ht.1]
      unfold spec_ReadHttpDate.f
      refine Ev.neg (by omega) ?_
      refine Ev.step (fun k => spec_ReadHttpDate.j0.eq_2 _ k) (Ev.neg (by omega) ?_)
      refine ev_j1 s (by omega) (by omega) ?_ ?_
      · intro _; rw [x]
      · intro q; exact absurd (by rw [x, e]; unfold longT; rw [if_pos ⟨ht.1, hy⟩]) q
    · have x : atP (byLine (bytesOf s)) = t := by rw [e, byLine_of ht.1, atP_civ ht.1]
      unfold spec_ReadHttpDate.f
      refine Ev.neg (by omega) ?_
      refine ev24 s (by omega) ?_ ?_
      · intro _; rw [x]
      · intro q; exact absurd (by rw [x, e]; unfold lineT; rw [if_pos ht.1]) q
  · have no : ∀ t, ¬ isText (bytesOf s) t := fun t h => c ⟨t, h⟩
    rw [rhd_no no]
    have ne : 24 ≤ s.size → bytesOf s ≠ [] := by intro h q; rw [q] at hlen; simp at hlen; omega
    by_cases a : s.size = 29
    · refine ev29 s a (fun q => absurd (isText_of (ne (by omega)) (.inl q)) (no _)) ?_
      intro _
      refine Ev.step (fun k => spec_ReadHttpDate.j0.eq_2 _ k) (Ev.neg (by omega) ?_)
      exact ev_j1_out s (by omega)
    · unfold spec_ReadHttpDate.f
      refine Ev.neg (by omega) ?_
      by_cases b : s.size = 24
      · refine ev24 s b (fun q => absurd (isText_of (ne (by omega)) (.inr (.inr q))) (no _)) ?_
        intro _
        exact ev_j1_out s (by omega)
      · refine Ev.step (fun k => spec_ReadHttpDate.j0.eq_2 _ k) (Ev.neg (by omega) ?_)
        by_cases d : 30 ≤ s.size ∧ s.size ≤ 33
        · exact ev_j1 s d.1 d.2 (fun q => absurd (isText_of (ne (by omega)) (.inr (.inl q))) (no _)) (fun _ => rfl)
        · exact ev_j1_out s d

theorem FnExactReadHttpDate : laws_FnExactReadHttpDate.Pure := by
  intro s hs
  apply Ev.rounds
  unfold laws_FnExactReadHttpDate.f
  by_cases h : (s.size : Int) > 1048576
  · exact Ev.pos h (Ev.now _)
  · exact Ev.neg h (Ev.bind (spec_rhd s) (Ev.bind (impl_rhd s) (Ev.pos rfl (Ev.neg (by simp) (Ev.now _)))))

end Go.Proofs.YtgjbhdfncappdaaDoor.Pure
