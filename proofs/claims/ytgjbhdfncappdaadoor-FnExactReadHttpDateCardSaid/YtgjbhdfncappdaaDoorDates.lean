/- Plain facts of the calendar: years, months, days, and the seconds since 1970; no program in sight, no condition. -/
namespace Go.Proofs.YtgjbhdfncappdaaDoor.Dates
set_option linter.unusedVariables false
set_option linter.unusedSimpArgs false
def leap (y : Int) : Prop := y % 4 = 0 ∧ (y % 100 ≠ 0 ∨ y % 400 = 0)
instance (y : Int) : Decidable (leap y) := by unfold leap; infer_instance
def ylen (y : Int) : Int := if leap y then 366 else 365
def mlen (y m : Int) : Int := if m = 2 then (if leap y then 29 else 28) else if m = 4 ∨ m = 6 ∨ m = 9 ∨ m = 11 then 30 else 31
def dby (y : Int) : Int := 365 * (y - 1970) + (y - 1) / 4 - (y - 1) / 100 + (y - 1) / 400 - 477
def lp (y : Int) : Int := if leap y then 1 else 0
/-- days before a month -/
def cum (y m : Int) : Int :=
  if m ≤ 1 then 0 else if m = 2 then 31 else if m = 3 then 59 + lp y else if m = 4 then 90 + lp y else if m = 5 then 120 + lp y else if m = 6 then 151 + lp y else if m = 7 then 181 + lp y else if m = 8 then 212 + lp y else if m = 9 then 243 + lp y else if m = 10 then 273 + lp y else if m = 11 then 304 + lp y else if m = 12 then 334 + lp y else 365 + lp y
theorem lp_01 (y : Int) : 0 ≤ lp y ∧ lp y ≤ 1 := by unfold lp; split <;> omega
theorem dby_succ (y : Int) : dby (y + 1) = dby y + ylen y := by
  unfold dby ylen
  by_cases h : leap y
  · rw [if_pos h]; unfold leap at h; omega
  · rw [if_neg h]; unfold leap at h; omega
theorem ylen_pos (y : Int) : 365 ≤ ylen y ∧ ylen y ≤ 366 := by unfold ylen; split <;> omega
theorem dby_mono {a b : Int} (h : a ≤ b) : dby a ≤ dby b := by unfold dby; omega
theorem dby_lt {a b : Int} (h : a < b) : dby a < dby b := by
  have h1 := dby_mono (show a + 1 ≤ b by omega); have h2 := dby_succ a; have := ylen_pos a; omega
theorem dby_1970 : dby 1970 = 0 := by decide
theorem dby_end : dby 10000 = 2932897 := by decide
theorem year_one {y y' d : Int} (h1 : dby y ≤ d) (h2 : d < dby (y + 1)) (h3 : dby y' ≤ d) (h4 : d < dby (y' + 1)) : y = y' := by
  by_cases a : y < y'
  · have := dby_mono (show y + 1 ≤ y' by omega); omega
  · by_cases b : y' < y
    · have := dby_mono (show y' + 1 ≤ y by omega); omega
    · omega
theorem cum_succ (y m : Int) (h1 : 1 ≤ m) (h2 : m ≤ 12) : cum y (m + 1) = cum y m + mlen y m := by
  obtain h | h | h | h | h | h | h | h | h | h | h | h : m = 1 ∨ m = 2 ∨ m = 3 ∨ m = 4 ∨ m = 5 ∨ m = 6 ∨ m = 7 ∨ m = 8 ∨ m = 9 ∨ m = 10 ∨ m = 11 ∨ m = 12 := by omega
  all_goals subst h; unfold cum mlen lp; by_cases hl : leap y <;> simp [hl]
theorem cum_1 (y : Int) : cum y 1 = 0 := by unfold cum; simp
theorem cum_13 (y : Int) : cum y 13 = ylen y := by unfold cum ylen lp; by_cases hl : leap y <;> simp [hl]
theorem mlen_bd (y m : Int) : 28 ≤ mlen y m ∧ mlen y m ≤ 31 := by unfold mlen; split <;> split <;> omega
theorem cum_low (y : Int) {m : Int} (h : m ≤ 1) : cum y m = 0 := by unfold cum; rw [if_pos h]
theorem cum_high (y : Int) {m : Int} (h : 13 ≤ m) : cum y m = ylen y := by
  rw [← cum_13 y]; unfold cum
  iterate 12 rw [if_neg (show ¬ _ by omega)]
  iterate 12 rw [if_neg (show ¬ _ by omega)]
theorem cum_step (y m : Int) : cum y m ≤ cum y (m + 1) := by
  by_cases h1 : m ≤ 0
  · rw [cum_low y (by omega), cum_low y (by omega)]; omega
  · by_cases h2 : 13 ≤ m
    · rw [cum_high y h2, cum_high y (by omega)]; omega
    · rw [cum_succ y m (by omega) (by omega)]; have := mlen_bd y m; omega
theorem cum_far (y a : Int) : ∀ n : Nat, cum y a ≤ cum y (a + n)
  | 0 => by simp
  | n + 1 => by have h1 := cum_far y a n; have h2 := cum_step y (a + n); rw [show a + ((n + 1 : Nat) : Int) = a + n + 1 by omega]; omega
theorem cum_mono (y : Int) {a b : Int} (h : a ≤ b) : cum y a ≤ cum y b := by
  have := cum_far y a (b - a).toNat; rw [show a + ((b - a).toNat : Int) = b by omega] at this; exact this
theorem cum_bd (y m : Int) : 0 ≤ cum y m ∧ cum y m ≤ 366 := by
  have h3 := ylen_pos y
  by_cases h1 : m ≤ 1
  · rw [cum_low y h1]; omega
  · have a := cum_mono y (show 1 ≤ m by omega); rw [cum_1] at a
    by_cases h2 : 13 ≤ m
    · rw [cum_high y h2]; omega
    · have b := cum_mono y (show m ≤ 13 by omega); rw [cum_13] at b; omega
theorem month_one {y m m' e : Int} (h1 : cum y m ≤ e) (h2 : e < cum y (m + 1)) (h3 : cum y m' ≤ e) (h4 : e < cum y (m' + 1)) : m = m' := by
  by_cases a : m < m'
  · have := cum_mono y (show m + 1 ≤ m' by omega); omega
  · by_cases b : m' < m
    · have := cum_mono y (show m' + 1 ≤ m by omega); omega
    · omega
/-- the year of a day, sought from a year on -/
def yearFrom : Nat → Int → Int → Int
  | 0, y, _ => y
  | k + 1, y, d => if dby (y + 1) ≤ d then yearFrom k (y + 1) d else y
theorem yearFrom_fits : ∀ (k : Nat) (y d : Int), dby y ≤ d → d < dby (y + k + 1) → y ≤ yearFrom k y d ∧ yearFrom k y d ≤ y + k ∧ dby (yearFrom k y d) ≤ d ∧ d < dby (yearFrom k y d + 1)
  | 0, y, d, h1, h2 => by simp only [yearFrom]; exact ⟨by omega, by omega, h1, by simpa using h2⟩
  | k + 1, y, d, h1, h2 => by
    simp only [yearFrom]
    by_cases c : dby (y + 1) ≤ d
    · rw [if_pos c]
      have := yearFrom_fits k (y + 1) d c (by rw [show y + 1 + (k : Int) + 1 = y + ((k + 1 : Nat) : Int) + 1 by omega]; exact h2)
      exact ⟨by omega, by omega, this.2.2⟩
    · rw [if_neg c]; exact ⟨by omega, by omega, h1, by omega⟩
def yearOf (d : Int) : Int := yearFrom 8029 1970 d
theorem yearOf_fits {d : Int} (h0 : 0 ≤ d) (h1 : d < 2932897) : 1970 ≤ yearOf d ∧ yearOf d ≤ 9999 ∧ dby (yearOf d) ≤ d ∧ d < dby (yearOf d + 1) := by
  have := yearFrom_fits 8029 1970 d (by rw [dby_1970]; exact h0) (by rw [show (1970 : Int) + ((8029 : Nat) : Int) + 1 = 10000 by decide, dby_end]; exact h1)
  unfold yearOf; omega
def monthFrom : Nat → Int → Int → Int → Int
  | 0, _, m, _ => m
  | k + 1, y, m, e => if cum y (m + 1) ≤ e then monthFrom k y (m + 1) e else m
theorem monthFrom_fits : ∀ (k : Nat) (y m e : Int), cum y m ≤ e → e < cum y (m + k + 1) → m ≤ monthFrom k y m e ∧ monthFrom k y m e ≤ m + k ∧ cum y (monthFrom k y m e) ≤ e ∧ e < cum y (monthFrom k y m e + 1)
  | 0, y, m, e, h1, h2 => by simp only [monthFrom]; exact ⟨by omega, by omega, h1, by simpa using h2⟩
  | k + 1, y, m, e, h1, h2 => by
    simp only [monthFrom]
    by_cases c : cum y (m + 1) ≤ e
    · rw [if_pos c]
      have := monthFrom_fits k y (m + 1) e c (by rw [show m + 1 + (k : Int) + 1 = m + ((k + 1 : Nat) : Int) + 1 by omega]; exact h2)
      exact ⟨by omega, by omega, this.2.2⟩
    · rw [if_neg c]; exact ⟨by omega, by omega, h1, by omega⟩
def monthOf (y e : Int) : Int := monthFrom 11 y 1 e
theorem monthOf_fits {y e : Int} (h0 : 0 ≤ e) (h1 : e < ylen y) : 1 ≤ monthOf y e ∧ monthOf y e ≤ 12 ∧ cum y (monthOf y e) ≤ e ∧ e < cum y (monthOf y e + 1) := by
  have := monthFrom_fits 11 y 1 e (by rw [cum_1]; exact h0) (by rw [show (1 : Int) + ((11 : Nat) : Int) + 1 = 13 by decide, cum_13]; exact h1)
  unfold monthOf; omega
/-- whole days of a time: the year, the month, the day of the month -/
def yr (t : Int) : Int := yearOf (t / 86400)
def mo (t : Int) : Int := monthOf (yr t) (t / 86400 - dby (yr t))
def da (t : Int) : Int := t / 86400 - dby (yr t) - cum (yr t) (mo t) + 1
def ho (t : Int) : Int := t / 3600 % 24
def mi (t : Int) : Int := t / 60 % 60
def se (t : Int) : Int := t % 60
def isT (t : Int) : Prop := 0 ≤ t ∧ t ≤ 253402300799
instance (t : Int) : Decidable (isT t) := by unfold isT; infer_instance
def okC (y m d h mn s : Int) : Prop := 1970 ≤ y ∧ y ≤ 9999 ∧ 1 ≤ m ∧ m ≤ 12 ∧ 1 ≤ d ∧ d ≤ mlen y m ∧ 0 ≤ h ∧ h ≤ 23 ∧ 0 ≤ mn ∧ mn ≤ 59 ∧ 0 ≤ s ∧ s ≤ 59
instance (y m d h mn s : Int) : Decidable (okC y m d h mn s) := by unfold okC; infer_instance
def secs (y m d h mn s : Int) : Int := 86400 * (dby y + cum y m + d - 1) + 3600 * h + 60 * mn + s
theorem day_in {t : Int} (h : isT t) : 0 ≤ t / 86400 ∧ t / 86400 < 2932897 := by unfold isT at h; omega
theorem yr_fits {t : Int} (h : isT t) : 1970 ≤ yr t ∧ yr t ≤ 9999 ∧ dby (yr t) ≤ t / 86400 ∧ t / 86400 < dby (yr t + 1) := yearOf_fits (day_in h).1 (day_in h).2
theorem mo_fits {t : Int} (h : isT t) : 1 ≤ mo t ∧ mo t ≤ 12 ∧ cum (yr t) (mo t) ≤ t / 86400 - dby (yr t) ∧ t / 86400 - dby (yr t) < cum (yr t) (mo t + 1) := by
  have a := yr_fits h; have b := dby_succ (yr t)
  exact monthOf_fits (by omega) (by omega)
theorem civ_ok {t : Int} (h : isT t) : okC (yr t) (mo t) (da t) (ho t) (mi t) (se t) := by
  have a := yr_fits h; have b := mo_fits h; have c := cum_succ (yr t) (mo t) b.1 b.2.1
  unfold okC ho mi se da
  refine ⟨a.1, a.2.1, b.1, b.2.1, ?_, ?_, ?_⟩
  · omega
  · omega
  · omega
theorem civ_secs {t : Int} (h : isT t) : secs (yr t) (mo t) (da t) (ho t) (mi t) (se t) = t := by
  unfold secs da ho mi se; unfold isT at h; omega
theorem secs_day {y m d h mn s : Int} (k : okC y m d h mn s) : secs y m d h mn s / 86400 = dby y + cum y m + d - 1 := by
  unfold okC at k; unfold secs; omega
theorem secs_in {y m d h mn s : Int} (k : okC y m d h mn s) : isT (secs y m d h mn s) := by
  unfold okC at k
  have a := dby_mono k.1; rw [dby_1970] at a
  have b := dby_mono (show y + 1 ≤ 10000 by omega); rw [dby_end, dby_succ] at b
  have c := cum_bd y m; have e := cum_succ y m k.2.2.1 k.2.2.2.1; have f := cum_mono y (show m + 1 ≤ 13 by omega); rw [cum_13] at f
  unfold isT secs; omega
theorem secs_civ {y m d h mn s : Int} (k : okC y m d h mn s) : yr (secs y m d h mn s) = y ∧ mo (secs y m d h mn s) = m ∧ da (secs y m d h mn s) = d ∧ ho (secs y m d h mn s) = h ∧ mi (secs y m d h mn s) = mn ∧ se (secs y m d h mn s) = s := by
  have q := secs_day k; have ht := secs_in k
  have k' := k; unfold okC at k'
  have c := cum_bd y m; have e := cum_succ y m k'.2.2.1 k'.2.2.2.1; have f := cum_mono y (show m + 1 ≤ 13 by omega); rw [cum_13] at f
  have g := dby_succ y
  have hy : yr (secs y m d h mn s) = y := by
    have a := yr_fits ht; rw [q] at a
    exact year_one (d := dby y + cum y m + d - 1) a.2.2.1 a.2.2.2 (by omega) (by omega)
  have hm : mo (secs y m d h mn s) = m := by
    have a := mo_fits ht; rw [q, hy] at a
    exact month_one (y := y) (e := dby y + cum y m + d - 1 - dby y) a.2.2.1 a.2.2.2 (by omega) (by omega)
  refine ⟨hy, hm, ?_, ?_, ?_, ?_⟩
  · unfold da; rw [hy, hm, q]; omega
  · unfold ho secs; omega
  · unfold mi secs; omega
  · unfold se secs; omega
end Go.Proofs.YtgjbhdfncappdaaDoor.Dates
