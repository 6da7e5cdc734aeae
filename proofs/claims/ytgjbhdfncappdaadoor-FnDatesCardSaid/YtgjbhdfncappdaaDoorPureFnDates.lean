/- The law FnDates answers true for every code: a drawn time's texts are read back; out of range they are empty. No condition. -/
import Derived.Test.YtgjbhdfncappdaaDoorQFnDatesx6
import Derived.Test.YtgjbhdfncappdaaDoorBase
namespace Go.Proofs.YtgjbhdfncappdaaDoor.Pure
open Go.RowKit Go.Proofs.YtgjbhdfncappdaaDoor.PFnDates Go.Proofs.YtgjbhdfncappdaaDoorW.PrintWords Go.Proofs.YtgjbhdfncappdaaDoorW.PrintLast Go.Proofs.YtgjbhdfncappdaaDoorW.PrintMore Go.Proofs.YtgjbhdfncappdaaDoor.Base
set_option linter.unusedVariables false
set_option linter.unusedSimpArgs false

open Go.Proofs.YtgjbhdfncappdaaDoor.Dates Go.Proofs.YtgjbhdfncappdaaDoor.Pads Go.Proofs.YtgjbhdfncappdaaDoor.Formats Go.Proofs.YtgjbhdfncappdaaDoor.Finds Go.Proofs.YtgjbhdfncappdaaDoor.Places Go.Proofs.YtgjbhdfncappdaaDoor.Reads Go.Proofs.YtgjbhdfncappdaaDoor.Https Go.Proofs.YtgjbhdfncappdaaDoor.Foreign

/-! The reader of draws -/
def Bs (b : List Int) : Prop := b.length ≤ 140737488351240
theorem and255 (y : Int) : 0 ≤ Go.bits .and .i64 y 255 ∧ Go.bits .and .i64 y 255 ≤ 255 := by
  have h : (BitVec.ofInt 64 y &&& BitVec.ofInt 64 255).toNat ≤ 255 := by
    rw [BitVec.toNat_and]
    exact Nat.and_le_right
  show 0 ≤ IntKind.i64.wrap ((BitVec.ofInt 64 y &&& BitVec.ofInt 64 255).toNat : Int) ∧ IntKind.i64.wrap ((BitVec.ofInt 64 y &&& BitVec.ofInt 64 255).toNat : Int) ≤ 255
  rw [wraps_i64 _ (Int.natCast_nonneg _) (by omega)]
  omega
theorem draw_byte {b : List Int} (hb : Bs b) (i h : Int) (hi : 0 ≤ i) : ∃ x i' h' : Int, spec_l1Byte.f b i h = some (x, i', h') ∧ 0 ≤ x ∧ x ≤ 255 ∧ 0 ≤ i' := by
  unfold Bs at hb
  unfold spec_l1Byte.f
  by_cases c : i < (b.length : Int)
  · rw [if_pos c, if_pos hi]
    exact ⟨_, _, _, rfl, (and255 _).1, (and255 _).2, by rw [w64 (by omega) (by omega)]; omega⟩
  · rw [if_neg c]
    exact ⟨_, _, _, rfl, (and255 _).1, (and255 _).2, hi⟩
theorem tmod_in {x n : Int} (hx : 0 ≤ x) (hn : 0 < n) : 0 ≤ Int.tmod x n ∧ Int.tmod x n < n := by
  rw [Int.tmod_eq_emod_of_nonneg hx]
  exact ⟨Int.emod_nonneg _ (by omega), Int.emod_lt_of_pos _ hn⟩
theorem draw_below {b : List Int} (hb : Bs b) (i h n : Int) (hi : 0 ≤ i) : ∃ x i' h' : Int, spec_l1Below.f b i h n = some (x, i', h') ∧ 0 ≤ x ∧ (0 < n → x < n) ∧ (n ≤ 0 → x = 0) ∧ 0 ≤ i' := by
  unfold spec_l1Below.f
  by_cases c0 : n ≤ 0
  · rw [if_pos c0]
    exact ⟨_, _, _, rfl, by omega, fun h => by omega, fun _ => rfl, hi⟩
  · rw [if_neg c0]
    obtain ⟨x, i1, h1, e1, x0, x1, j1⟩ := draw_byte hb i h hi
    by_cases c1 : n ≤ 256
    · rw [if_pos c1, e1]
      simp only [Option.bind_some]
      rw [if_neg (by omega)]
      have := tmod_in x0 (show 0 < n by omega)
      exact ⟨_, _, _, rfl, this.1, fun _ => this.2, fun h => by omega, j1⟩
    · obtain ⟨y, i2, h2, e2, y0, y1, j2⟩ := draw_byte hb i1 h1 j1
      obtain ⟨z, i3, h3, e3, z0, z1, j3⟩ := draw_byte hb i2 h2 j2
      obtain ⟨w, i4, h4, e4, v0, v1, j4⟩ := draw_byte hb i3 h3 j3
      rw [if_neg c1, e1]
      simp only [Option.bind_some]
      rw [e2]
      simp only [Option.bind_some]
      rw [e3]
      simp only [Option.bind_some]
      rw [e4]
      simp only [Option.bind_some]
      rw [if_neg (by omega)]
      have hs : 0 ≤ wrap64 ((wrap64 ((wrap64 ((wrap64 (x * 16777216)) + (wrap64 (y * 65536)))) + (wrap64 (z * 256)))) + w) := by
        rw [w64 (n := x * 16777216) (by omega) (by omega), w64 (n := y * 65536) (by omega) (by omega), w64 (n := z * 256) (by omega) (by omega), w64 (n := x * 16777216 + y * 65536) (by omega) (by omega), w64 (n := x * 16777216 + y * 65536 + z * 256) (by omega) (by omega), w64 (by omega) (by omega)]
        omega
      have := tmod_in hs (show 0 < n by omega)
      exact ⟨_, _, _, rfl, this.1, fun _ => this.2, fun h => by omega, j4⟩
theorem draw_new {b : List Int} (hb : Bs b) : ∃ h : Int, Ev (fun k => spec_l1New.f k b) (b, 0, h) := by
  unfold Bs at hb
  have loop : ∀ (d i : Nat) (x : Int), i + d = b.length → ∃ h : Int, Ev (fun k => spec_l1New.l0 k b x (i : Int)) (b, 0, h) := by
    intro d
    induction d with
    | zero => intro i x hi; exact ⟨_, Ev.step (fun k => spec_l1New.l0.eq_2 _ _ _ k) (Ev.neg (by omega) (Ev.now _))⟩
    | succ d ih =>
      intro i x hi
      by_cases c : (i : Int) < 4000
      · have hw : wrap64 ((i : Int) + 1) = ((i + 1 : Nat) : Int) := by rw [w64 (by omega) (by omega)]; omega
        obtain ⟨h, e⟩ := ih (i + 1) (Go.bits .and .i64 (wrap64 ((wrap64 ((wrap64 (x * 131)) + (wrap64 (rd b (i : Int))))) + 7)) 1073741823) (by omega)
        refine ⟨h, Ev.step (fun k => spec_l1New.l0.eq_2 _ _ _ k) (Ev.pos (by omega) (Ev.pos c (Ev.pos (by omega) ?_)))⟩
        rw [hw]; exact e
      · exact ⟨_, Ev.step (fun k => spec_l1New.l0.eq_2 _ _ _ k) (Ev.pos (by omega) (Ev.neg c (Ev.now _)))⟩
  exact loop b.length 0 _ (by omega)

theorem draw_pick {b : List Int} (hb : Bs b) (i h : Int) (l : List Int) (hl : 0 < l.length) (hi : 0 ≤ i) : ∃ x i' h' : Int, spec_l1PickInt.f b i h l = some (x, i', h') ∧ x ∈ l ∧ 0 ≤ i' := by
  obtain ⟨x, i1, h1, e, x0, x1, _, j⟩ := draw_below hb i h (l.length : Int) hi
  have hx := x1 (by omega)
  refine ⟨rd l x, i1, h1, ?_, ?_, j⟩
  · unfold spec_l1PickInt.f
    rw [e]
    simp only [Option.bind_some]
    rw [if_pos x0, if_pos hx]
  · unfold rd
    exact getD_mem (by omega)

/-! Times that are drawn -/
theorem draw_time {b : List Int} (hb : Bs b) (i h : Int) (hi : 0 ≤ i) : ∃ t i' h' : Int, spec_l2draw.f b i h = some (t, i', h') ∧ -1 ≤ t ∧ t ≤ 253402300800 ∧ 0 ≤ i' := by
  obtain ⟨w, i1, h1, e1, w0, w1, _, j1⟩ := draw_below hb i h 4 hi
  have hw := w1 (by decide)
  unfold spec_l2draw.f
  rw [e1]
  simp only [Option.bind_some]
  by_cases c0 : w = 0
  · obtain ⟨p, i2, h2, e2, p0, j2⟩ := draw_pick hb i1 h1 [0, (-1), 86399, 86400, 253402300799, 253402300800, 951782399, 951782400, 951868800, 4107542399, 3155759999, 3155760000, 68255999] (by decide) j1
    rw [if_pos c0, e2]
    simp only [Option.bind_some]
    simp only [List.mem_cons, List.not_mem_nil, or_false] at p0
    exact ⟨_, _, _, rfl, by omega, by omega, j2⟩
  · rw [if_neg c0]
    by_cases c1 : w = 1
    · obtain ⟨p, i2, h2, e2, p0, p1, _, j2⟩ := draw_below hb i1 h1 400 j1
      have hp := p1 (by decide)
      rw [if_pos c1, e2]
      simp only [Option.bind_some]
      exact ⟨_, _, _, rfl, by rw [w64 (by omega) (by omega)]; omega, by rw [w64 (by omega) (by omega)]; omega, j2⟩
    · rw [if_neg c1]
      by_cases c2 : w = 2
      · obtain ⟨p, i2, h2, e2, p0, p1, _, j2⟩ := draw_below hb i1 h1 2000000000 j1
        have hp := p1 (by decide)
        rw [if_pos c2, e2]
        simp only [Option.bind_some]
        exact ⟨_, _, _, rfl, by rw [w64 (by omega) (by omega)]; omega, by rw [w64 (by omega) (by omega)]; omega, j2⟩
      · rw [if_neg c2]
        obtain ⟨p, i2, h2, e2, p0, p1, _, j2⟩ := draw_below hb i1 h1 60000 j1
        have hp := p1 (by decide)
        obtain ⟨q, i3, h3, e3, q0, q1, _, j3⟩ := draw_below hb i2 h2 3600 j2
        have hq := q1 (by decide)
        rw [e2]
        simp only [Option.bind_some]
        rw [e3]
        simp only [Option.bind_some]
        exact ⟨_, _, _, rfl, by rw [w64 (n := p * 4000000) (by omega) (by omega), w64 (by omega) (by omega)]; omega, by rw [w64 (n := p * 4000000) (by omega) (by omega), w64 (by omega) (by omega)]; omega, j3⟩

/-! What the program's functions on times and names tell -/
theorem seven {w : Int} (h : 0 ≤ w ∧ w ≤ 6) : w = 0 ∨ w = 1 ∨ w = 2 ∨ w = 3 ∨ w = 4 ∨ w = 5 ∨ w = 6 := by omega
theorem twelve {m : Int} (h : 1 ≤ m ∧ m ≤ 12) : m = 1 ∨ m = 2 ∨ m = 3 ∨ m = 4 ∨ m = 5 ∨ m = 6 ∨ m = 7 ∨ m = 8 ∨ m = 9 ∨ m = 10 ∨ m = 11 ∨ m = 12 := by omega
theorem weekday_eq {t : Int} (h : isT t) : Int.tmod (wrap64 ((wrap64 (Int.tdiv t 86400)) + 3)) 7 = wd t := by
  obtain ⟨h0, h1⟩ := h
  rw [Int.tdiv_eq_ediv_of_nonneg h0, w64 (n := t / 86400) (by omega) (by omega), w64 (by omega) (by omega), Int.tmod_eq_emod_of_nonneg (by omega)]
  rfl
theorem impl_time (t : Int) : impl_isTime.f t = some (decide (isT t)) := by
  unfold impl_isTime.f impl_within.f isT
  by_cases h0 : 0 ≤ t
  · rw [if_pos h0]; simp [h0]
  · rw [if_neg h0]; simp [h0]
theorem impl_wd {t : Int} (h : isT t) : impl_Weekday.f t = some (wd t) := by
  unfold impl_Weekday.f
  rw [impl_time, decide_eq_true h, Option.bind_some, if_pos rfl, weekday_eq h]
theorem impl_wd_no {t : Int} (h : ¬ isT t) : impl_Weekday.f t = some (-1) := by
  unfold impl_Weekday.f
  rw [impl_time, decide_eq_false h, Option.bind_some, if_neg (by simp)]
def daysB : List ByteArray := names7.map strOfNums
def monthsB : List ByteArray := names12.map strOfNums
theorem impl_days_eq : impl_days.f = some daysB := rfl
theorem impl_months_eq : impl_months.f = some monthsB := rfl
theorem rd_day {w : Int} (h : 0 ≤ w ∧ w ≤ 6) : rdOf ByteArray.empty daysB w = strOfNums (dname w) := by
  rcases seven h with rfl | rfl | rfl | rfl | rfl | rfl | rfl <;> rfl
theorem rd_month {m : Int} (h : 1 ≤ m ∧ m ≤ 12) : rdOf ByteArray.empty monthsB (m - 1) = strOfNums (mname m) := by
  rcases twelve h with rfl | rfl | rfl | rfl | rfl | rfl | rfl | rfl | rfl | rfl | rfl | rfl <;> rfl
theorem day3 {w : Int} (h : 0 ≤ w ∧ w ≤ 6) : (strOfNums (dname w)).extract 0 3 = strOfNums ((dname w).take 3) := by
  rcases seven h with rfl | rfl | rfl | rfl | rfl | rfl | rfl <;> decide +kernel
theorem civil_yes {t : Int} (h : isT t) : impl_civilOf.f t = some (yr t, mo t, da t, ho t, mi t, se t) := if_pos h
theorem dig2 {n : Int} (h0 : 0 ≤ n) (h1 : n ≤ 9999) : impl_digits.f n 2 = some (strOfNums (padL 2 n)) := by
  unfold impl_digits.f; rw [if_pos ⟨h0, by omega, by decide, by decide⟩]; rfl
theorem dig4 {n : Int} (h0 : 0 ≤ n) (h1 : n ≤ 9999) : impl_digits.f n 4 = some (strOfNums (padL 4 n)) := by
  unfold impl_digits.f; rw [if_pos ⟨h0, by omega, by decide, by decide⟩]; rfl
theorem impl_clk {t : Int} (h : isT t) (a b c : Int) : impl_clock.f a b c (ho t) (mi t) (se t) = some (strOfNums (clockL t)) := by
  obtain ⟨q1, q2, q3, q4, q5, q6⟩ := parts h
  unfold impl_clock.f
  rw [show (⟨#[58]⟩ : ByteArray) = strOfNums [58] from rfl, dig2 q4.1 (by omega), dig2 q5.1 (by omega), dig2 q6.1 (by omega)]
  simp only [Option.bind_some]
  repeat' rw [if_pos (by simp only [strOf_append, size_strOf, padL_length, List.length_append, List.length_cons, List.length_nil]; omega)]
  simp only [strOf_append, List.append_assoc, clockL]

theorem impl_http (t : Int) : impl_HttpDate.f t = some (strOfNums (httpT t)) := by
  unfold impl_HttpDate.f httpT
  by_cases h : isT t
  · obtain ⟨q1, q2, q3, q4, q5, q6⟩ := parts h
    have hw := wd_in t
    have hd := dname_length (wd_in t)
    have hm := mname_length q2
    have ew : wrap64 (mo t - 1) = mo t - 1 := w64 (by omega) (by omega)
    rw [if_pos h, show (⟨#[44, 32]⟩ : ByteArray) = strOfNums [44, 32] from rfl, show (⟨#[32]⟩ : ByteArray) = strOfNums [32] from rfl, show (⟨#[32, 71, 77, 84]⟩ : ByteArray) = strOfNums [32, 71, 77, 84] from rfl]
    simp only [impl_time, decide_eq_true h, Option.bind_some, if_true, civil_yes h, impl_days_eq, impl_months_eq, impl_wd h, rd_day hw, ew, rd_month q2, day3 hw, dig2 (show 0 ≤ da t by omega) (by omega), dig4 (show 0 ≤ yr t by omega) (by omega), impl_clk h, show (daysB.length : Int) = 7 from rfl, show (monthsB.length : Int) = 12 from rfl]
    repeat' rw [if_pos (by first | omega | (simp only [strOf_append, size_strOf, padL_length, clock_length, List.length_append, List.length_take, List.length_cons, List.length_nil, hm]; omega))]
    simp only [strOf_append, List.append_assoc, httpL, gmt]
  · rw [if_neg h]
    simp only [impl_time, decide_eq_false h, Option.bind_some]; rfl

theorem impl_long (t : Int) : Ev (fun k => impl_LongDate.f k t) (strOfNums (longT t)) := by
  unfold impl_LongDate.f longT
  by_cases h : isT t
  · obtain ⟨q1, q2, q3, q4, q5, q6⟩ := parts h
    have hw := wd_in t
    have hd := dname_length (wd_in t)
    have hm := mname_length q2
    have ew : wrap64 (mo t - 1) = mo t - 1 := w64 (by omega) (by omega)
    refine Ev.told (by rw [impl_time, decide_eq_true h]) (Ev.pos rfl (Ev.told (civil_yes h) ?_))
    by_cases hy : yr t ≤ 2069
    · rw [if_pos ⟨h, hy⟩]
      refine Ev.step (fun k => impl_LongDate.j0.eq_2 _ _ k) (Ev.neg (by simp; omega) ?_)
      rw [show (⟨#[44, 32]⟩ : ByteArray) = strOfNums [44, 32] from rfl, show (⟨#[45]⟩ : ByteArray) = strOfNums [45] from rfl, show (⟨#[32]⟩ : ByteArray) = strOfNums [32] from rfl, show (⟨#[32, 71, 77, 84]⟩ : ByteArray) = strOfNums [32, 71, 77, 84] from rfl]
      simp only [Option.bind_some, civil_yes h, impl_days_eq, impl_months_eq, impl_wd h, rd_day hw, ew, rd_month q2, dig2 (show 0 ≤ da t by omega) (by omega), dig2 (show 0 ≤ yr t by omega) (by omega), impl_clk h, show (daysB.length : Int) = 7 from rfl, show (monthsB.length : Int) = 12 from rfl]
      repeat' rw [if_pos (by first | omega | (simp only [strOf_append, size_strOf, padL_length, clock_length, List.length_append, List.length_take, List.length_cons, List.length_nil, hm]; omega))]
      simp only [strOf_append, List.append_assoc, longL, gmt]; exact Ev.now _
    · rw [if_neg (fun c => hy c.2)]
      exact Ev.step (fun k => impl_LongDate.j0.eq_2 _ _ k) (Ev.pos (by simp; omega) (Ev.now _))
  · rw [if_neg (fun c => h c.1)]
    exact Ev.told (by rw [impl_time, decide_eq_false h]) (Ev.neg (by simp) (Ev.step (fun k => impl_LongDate.j0.eq_2 _ _ k) (Ev.pos rfl (Ev.now _))))

/-! The third form -/
theorem day2_len (d : Int) : (day2 d).length = 2 := day2_length d
theorem impl_line_j {t : Int} (h : isT t) : Ev (fun k => impl_LineDate.j0 k t (strOfNums (day2 (da t))) (yr t) (mo t) (da t) (ho t) (mi t) (se t)) (strOfNums (lineL t)) := by
  obtain ⟨q1, q2, q3, q4, q5, q6⟩ := parts h
  have hw := wd_in t
  have hd := dname_length (wd_in t)
  have hm := mname_length q2
  have ew : wrap64 (mo t - 1) = mo t - 1 := w64 (by omega) (by omega)
  refine Ev.step (fun k => impl_LineDate.j0.eq_2 _ _ _ _ _ _ _ _ k) ?_
  rw [show (⟨#[32]⟩ : ByteArray) = strOfNums [32] from rfl]
  simp only [Option.bind_some, impl_days_eq, impl_months_eq, impl_wd h, rd_day hw, ew, rd_month q2, day3 hw, dig4 (show 0 ≤ yr t by omega) (by omega), impl_clk h, show (daysB.length : Int) = 7 from rfl, show (monthsB.length : Int) = 12 from rfl]
  repeat' rw [if_pos (by first | omega | (simp only [strOf_append, size_strOf, padL_length, clock_length, day2_len, List.length_append, List.length_take, List.length_cons, List.length_nil, hm]; omega))]
  simp only [strOf_append, List.append_assoc, lineL]; exact Ev.now _
theorem impl_line (t : Int) : Ev (fun k => impl_LineDate.f k t) (strOfNums (lineT t)) := by
  unfold impl_LineDate.f lineT
  by_cases h : isT t
  · obtain ⟨q1, q2, q3, q4, q5, q6⟩ := parts h
    rw [if_pos h]
    have hj := impl_line_j h
    refine Ev.told (by rw [impl_time, decide_eq_true h]) (Ev.pos rfl (Ev.told (civil_yes h) (Ev.told (dig2 (n := da t) (by omega) (by omega)) ?_)))
    by_cases c : da t < 10
    · have e1 : (strOfNums (padL 2 (da t))).extract 1 (strOfNums (padL 2 (da t))).size = strOfNums [48 + da t] := by
        rw [size_strOf, padL_length, extract_strOf, bytes_strOf (fun x hx => by have := padL_digit 2 _ x hx; omega)]
        congr 1
        simp only [padL, List.nil_append, List.cons_append, List.drop_succ_cons, List.drop_zero, List.take_succ_cons, List.take_zero]
        congr 1; omega
      rw [e1]
      refine Ev.pos c (Ev.pos (by simp only [size_strOf, padL_length]; decide) (Ev.pos (by simp only [size_strOf, List.length_cons, List.length_nil]; decide) ?_))
      rw [show (⟨#[32]⟩ : ByteArray) = strOfNums [32] from rfl, strOf_append]
      rw [show day2 (da t) = [32] ++ [48 + da t] from if_pos c] at hj
      exact hj
    · refine Ev.neg c ?_
      rw [show day2 (da t) = padL 2 (da t) from if_neg c] at hj
      exact hj
  · rw [if_neg h]
    exact Ev.told (by rw [impl_time, decide_eq_false h]) (Ev.neg (by simp) (Ev.now _))

/-! What the program's reader of dates finds -/
theorem isd_f (b : Int) : impl_isDigit.f b = some (decide (48 ≤ b ∧ b ≤ 57)) := by
  unfold impl_isDigit.f
  by_cases h : 48 ≤ b
  · rw [if_pos h]; simp [h]
  · rw [if_neg h]; simp [h]
theorem nums_loops (s : ByteArray) (hs : s.size ≤ 1048576) : ∀ r : Nat,
    (∀ (i : Nat) (out : List Int), i + r = s.size → out.length ≤ i → Ev (fun k => impl_numbersIn.l0 k s out (i : Int)) (out ++ numsL ((bytesOf s).drop i) none)) ∧
    (∀ (i j : Nat) (n : Int) (out : List Int), j + r = s.size → i < j → j ≤ i + 9 → out.length ≤ i → 0 ≤ n → n < 10 ^ (j - i) → Ev (fun k => impl_numbersIn.l1 k s out (i : Int) (j : Int) n) (out ++ numsL ((bytesOf s).drop j) (some (n, j - i))))
  | 0 => by
    have a : ∀ (i : Nat) (out : List Int), i + 0 = s.size → out.length ≤ i → Ev (fun k => impl_numbersIn.l0 k s out (i : Int)) (out ++ numsL ((bytesOf s).drop i) none) := by
      intro i out hi ho
      have e : (bytesOf s).drop i = [] := List.drop_eq_nil_of_le (by rw [bytesOf_length]; omega)
      rw [e]; simp only [numsL, List.append_nil]
      refine Ev.step (fun k => impl_numbersIn.l0.eq_2 _ _ _ k) (Ev.neg (by omega) ?_)
      exact Ev.now _
    refine ⟨a, ?_⟩
    intro i j n out hj hij hc ho h0 h1
    have e : (bytesOf s).drop j = [] := List.drop_eq_nil_of_le (by rw [bytesOf_length]; omega)
    have ih := a j (out ++ [n]) hj (by simp only [List.length_append, List.length_cons, List.length_nil]; omega)
    rw [e] at ih ⊢
    simp only [numsL, List.append_nil] at ih ⊢
    have hw : wrap64 (wrap64 ((j : Int) - 1) + 1) = (j : Int) := by rw [w64 (n := (j : Int) - 1) (by omega) (by omega), w64 (by omega) (by omega)]; omega
    refine Ev.step (fun k => impl_numbersIn.l1.eq_2 _ _ _ _ _ k) (Ev.neg (by omega) (Ev.pos (by omega) (Ev.pos (by omega) ?_)))
    rw [hw]; exact ih
  | r + 1 => by
    obtain ⟨ia, ib⟩ := nums_loops s hs r
    have a : ∀ (i : Nat) (out : List Int), i + (r + 1) = s.size → out.length ≤ i → Ev (fun k => impl_numbersIn.l0 k s out (i : Int)) (out ++ numsL ((bytesOf s).drop i) none) := by
      intro i out hi ho
      have hil : i < (bytesOf s).length := by rw [bytesOf_length]; omega
      have hw : wrap64 ((i : Int) + 1) = ((i + 1 : Nat) : Int) := by rw [w64 (by omega) (by omega)]; omega
      have z : wrap64 ((i : Int) - (i : Int)) = 0 := by rw [w64 (by omega) (by omega)]; omega
      rw [drop_cons hil]
      refine Ev.step (fun k => impl_numbersIn.l0.eq_2 _ _ _ k) (Ev.pos (by omega) ?_)
      refine Ev.step (fun k => impl_numbersIn.l1.eq_2 _ _ _ _ _ k) (Ev.pos (by omega) (Ev.pos (by omega) (Ev.told (isd_f _) ?_)))
      rw [bt_nat]
      generalize hx : (bytesOf s).getD i 0 = x
      unfold numsL
      by_cases g : 48 ≤ x ∧ x ≤ 57
      · rw [if_pos g, decide_eq_true g]
        refine Ev.pos rfl (Ev.pos (by rw [z]; decide) ?_)
        rw [show wrap64 ((10 : Int) * 0) = 0 from by rw [w64 (by decide) (by decide)]; rfl, show (x - 48) % 256 = x - 48 by omega, w64 (n := 0 + (x - 48)) (by omega) (by omega), show 0 + (x - 48) = x - 48 by omega, hw]
        have := ib i (i + 1) (x - 48) out (by omega) (by omega) (by omega) ho (by omega) (by rw [show i + 1 - i = 1 by omega]; show _ < (10 : Int); omega)
        rw [show i + 1 - i = 1 by omega] at this; exact this
      · rw [if_neg g, decide_eq_false g]
        refine Ev.neg (by simp) (Ev.neg (by omega) ?_)
        rw [hw]; exact ia (i + 1) out (by omega) (by omega)
    refine ⟨a, ?_⟩
    intro i j n out hj hij hc ho h0 h1
    have hjl : j < (bytesOf s).length := by rw [bytesOf_length]; omega
    have ih := a j (out ++ [n]) hj (by simp only [List.length_append, List.length_cons, List.length_nil]; omega)
    have hw : wrap64 (wrap64 ((j : Int) - 1) + 1) = (j : Int) := by rw [w64 (n := (j : Int) - 1) (by omega) (by omega), w64 (by omega) (by omega)]; omega
    have hw1 : wrap64 ((j : Int) + 1) = ((j + 1 : Nat) : Int) := by rw [w64 (by omega) (by omega)]; omega
    have z : wrap64 ((j : Int) - (i : Int)) = (j : Int) - (i : Int) := w64 (by omega) (by omega)
    have p : (10 : Int) ^ (j + 1 - i) = 10 ^ (j - i) * 10 := by rw [show j + 1 - i = (j - i) + 1 by omega]; exact Int.pow_succ ..
    have p2 : (10 : Int) ^ (j - i) ≤ 10 ^ 9 := by
      have := Nat.pow_le_pow_right (show 0 < 10 by decide) (show j - i ≤ 9 by omega)
      exact_mod_cast this
    have e9 : (10 : Int) ^ 9 = 1000000000 := by decide
    rw [drop_cons hjl] at ih ⊢
    refine Ev.step (fun k => impl_numbersIn.l1.eq_2 _ _ _ _ _ k) (Ev.pos (by omega) (Ev.pos (by omega) (Ev.told (isd_f _) ?_)))
    rw [bt_nat]
    generalize (bytesOf s).getD j 0 = x at ih ⊢
    simp only [numsL] at ih ⊢
    rw [z]
    by_cases g : 48 ≤ x ∧ x ≤ 57
    · rw [if_pos g, decide_eq_true g]; rw [if_pos g] at ih
      refine Ev.pos rfl ?_
      by_cases c : j - i < 9
      · rw [if_pos c]; refine Ev.pos (by omega) ?_
        rw [w64 (n := 10 * n) (by omega) (by omega), show (x - 48) % 256 = x - 48 by omega, w64 (n := 10 * n + (x - 48)) (by omega) (by omega), hw1]
        have := ib i (j + 1) (10 * n + (x - 48)) out (by omega) (by omega) (by omega) ho (by omega) (by omega)
        rw [show j + 1 - i = j - i + 1 by omega] at this; exact this
      · rw [if_neg c]; refine Ev.neg (by omega) (Ev.pos (by omega) (Ev.pos (by omega) ?_))
        rw [hw]; simp only [List.append_assoc, List.singleton_append] at ih; exact ih
    · rw [if_neg g, decide_eq_false g]; rw [if_neg g] at ih
      refine Ev.neg (by simp) (Ev.pos (by omega) (Ev.pos (by omega) ?_))
      rw [hw]; simp only [List.append_assoc, List.singleton_append] at ih; exact ih
theorem nums_f (s : ByteArray) (hs : s.size ≤ 1048576) : Ev (fun k => impl_numbersIn.f k s) (numsL (bytesOf s) none) := (nums_loops s hs s.size).1 0 [] (by omega) (by simp)
theorem nums_bd : ∀ (l : List Int),
    (∀ x ∈ numsL l none, 0 ≤ x ∧ x < 1000000000) ∧ (∀ (v : Int) (c : Nat), 0 ≤ v → v < 10 ^ c → c ≤ 9 → ∀ x ∈ numsL l (some (v, c)), 0 ≤ x ∧ x < 1000000000)
  | [] => by
    refine ⟨fun x hx => by simp [numsL] at hx, ?_⟩
    intro v c h0 h1 hc x hx
    have p2 : (10 : Int) ^ c ≤ 10 ^ 9 := by
      have := Nat.pow_le_pow_right (show 0 < 10 by decide) hc
      exact_mod_cast this
    have e9 : (10 : Int) ^ 9 = 1000000000 := by decide
    simp [numsL] at hx; omega
  | y :: l => by
    obtain ⟨ia, ib⟩ := nums_bd l
    refine ⟨?_, ?_⟩
    · intro x hx
      simp only [numsL] at hx
      split at hx
      · rename_i g; exact ib (y - 48) 1 (by omega) (by show _ < (10 : Int); omega) (by decide) x hx
      · exact ia x hx
    · intro v c h0 h1 hc x hx
      have p2 : (10 : Int) ^ c ≤ 10 ^ 9 := by
        have := Nat.pow_le_pow_right (show 0 < 10 by decide) hc
        exact_mod_cast this
      have e9 : (10 : Int) ^ 9 = 1000000000 := by decide
      have p : (10 : Int) ^ (c + 1) = 10 ^ c * 10 := Int.pow_succ ..
      simp only [numsL] at hx
      split at hx
      · rename_i g
        split at hx
        · exact ib (10 * v + (y - 48)) (c + 1) (by omega) (by omega) (by omega) x hx
        · rcases List.mem_cons.mp hx with h | h
          · omega
          · exact ib (y - 48) 1 (by omega) (by show _ < (10 : Int); omega) (by decide) x h
      · rcases List.mem_cons.mp hx with h | h
        · omega
        · exact ia x h
/-! a byte, a name in a text -/
theorem byte_eq {b c : UInt8} {x : Int} (h : (b.toNat : Int) = x) (hc : (c.toNat : Int) = 44 ∨ True) : (b = c) ↔ (x = (c.toNat : Int)) := by
  rw [← UInt8.toNat_inj]; omega
theorem idx_lib (c : UInt8) : ∀ l : List UInt8, Lib.indexByte l c = idxL (l.map fun b => (b.toNat : Int)) (c.toNat : Int)
  | [] => rfl
  | b :: l => by
    simp only [Lib.indexByte, List.map_cons, idxL, idx_lib c l, beq_iff_eq, byte_eq (c := c) (rfl : (b.toNat : Int) = _) (.inr trivial)]
theorem idx_f (s : ByteArray) (c : Int) (hc : 0 ≤ c ∧ c < 256) : strings_IndexByte.f s c = some (idxL (bytesOf s) c) := by
  unfold strings_IndexByte.f
  rw [idx_lib]
  have : ((c.toNat.toUInt8).toNat : Int) = c := by
    rw [show c.toNat.toUInt8 = UInt8.ofNat c.toNat from rfl, UInt8.toNat_ofNat']; omega
  rw [this]; rfl
theorem head_lib : ∀ (p l : List UInt8), p.isPrefixOf l = atHead (p.map fun b => (b.toNat : Int)) (l.map fun b => (b.toNat : Int))
  | [], _ => by simp [atHead]
  | _ :: _, [] => rfl
  | c :: p, b :: l => by
    simp only [List.isPrefixOf, List.map_cons, atHead, head_lib p l]
    congr 1
    rw [Bool.eq_iff_iff, beq_iff_eq, beq_iff_eq, ← UInt8.toNat_inj]; omega
theorem has_lib (p : List UInt8) : ∀ l : List UInt8, Lib.contains l p = hasL (l.map fun b => (b.toNat : Int)) (p.map fun b => (b.toNat : Int))
  | [] => by
    unfold Lib.contains Lib.index hasL
    cases p <;> rfl
  | b :: l => by
    have ih := has_lib p l
    unfold Lib.contains at ih ⊢
    have hg := Lib.index_ge l p
    have e : Lib.index (b :: l) p = if p.isPrefixOf (b :: l) = true then 0 else if (Lib.index l p == -1) = true then -1 else Lib.index l p + 1 := rfl
    have hh := head_lib p (b :: l)
    show decide (0 ≤ Lib.index (b :: l) p) = (atHead (p.map fun b => (b.toNat : Int)) ((b :: l).map fun b => (b.toNat : Int)) || hasL (l.map fun b => (b.toNat : Int)) (p.map fun b => (b.toNat : Int)))
    rw [← ih, ← hh]
    by_cases h : p.isPrefixOf (b :: l) = true
    · rw [if_pos h] at e
      rw [e, h]; rfl
    · rw [if_neg h] at e
      rw [Bool.eq_false_iff.mpr h, Bool.false_or]
      by_cases g : Lib.index l p = -1
      · rw [if_pos (beq_iff_eq.mpr g)] at e
        rw [e, g]
      · rw [if_neg (fun q => g (beq_iff_eq.mp q))] at e
        rw [e, decide_eq_true (show 0 ≤ Lib.index l p + 1 by omega), decide_eq_true (show 0 ≤ Lib.index l p by omega)]
theorem mname_byte {m : Int} (hm : 1 ≤ m ∧ m ≤ 12) : ∀ x ∈ mname m, 0 ≤ x ∧ x < 256 := by
  have := months_all (fun m => (mname m).all fun x => decide (0 ≤ x) && decide (x < 256)) (by decide +kernel) hm
  intro x hx
  have := List.all_eq_true.mp this x hx
  simpa using this
theorem has_f (s : ByteArray) (hs : s.size ≤ 1048576) {m : Int} (hm : 1 ≤ m ∧ m ≤ 12) : strings_Contains.f s (strOfNums (mname m)) = some (hasL (bytesOf s) (mname m)) := by
  unfold strings_Contains.f
  rw [if_pos (by omega), has_lib]
  have := bytes_strOf (mname_byte hm)
  rw [show (List.map (fun b => (b.toNat : Int)) (strOfNums (mname m)).data.toList) = bytesOf (strOfNums (mname m)) from rfl, this]; rfl
def inFrom : Nat → Int → List Int → Int
  | 0, _, _ => 0
  | d + 1, i, l => if hasL l (mname i) = true then i else inFrom d (i + 1) l
theorem month_l0 (s : ByteArray) (hs : s.size ≤ 1048576) : ∀ (d i : Nat), i + d = 12 → Ev (fun k => impl_monthIn.l0 k s monthsB 12 (i : Int)) (inFrom d ((i : Int) + 1) (bytesOf s))
  | 0, i, h => by
    refine Ev.step (fun k => impl_monthIn.l0.eq_2 _ _ _ _ k) (Ev.neg (by omega) ?_)
    exact Ev.now _
  | d + 1, i, h => by
    have hw : wrap64 ((i : Int) + 1) = (i : Int) + 1 := w64 (by omega) (by omega)
    have rd : rdOf ByteArray.empty monthsB (i : Int) = strOfNums (mname ((i : Int) + 1)) := by
      have := rd_month (m := (i : Int) + 1) ⟨by omega, by omega⟩
      rw [show (i : Int) + 1 - 1 = (i : Int) by omega] at this; exact this
    refine Ev.step (fun k => impl_monthIn.l0.eq_2 _ _ _ _ k) (Ev.pos (by omega) (Ev.pos (by omega) (Ev.pos (by rw [show (monthsB.length : Int) = 12 from rfl]; omega) ?_)))
    rw [rd, hw]
    refine Ev.told (has_f s hs (m := (i : Int) + 1) ⟨by omega, by omega⟩) ?_
    unfold inFrom
    by_cases c : hasL (bytesOf s) (mname ((i : Int) + 1)) = true
    · refine Ev.pos c ?_; rw [if_pos c]; exact Ev.now _
    · refine Ev.neg c ?_; rw [if_neg c]
      have := month_l0 s hs d (i + 1) (by omega)
      rw [show ((i + 1 : Nat) : Int) = (i : Int) + 1 by omega] at this; exact this
theorem month_f (s : ByteArray) (hs : s.size ≤ 1048576) : Ev (fun k => impl_monthIn.f k s) (monthIn (bytesOf s)) := by
  have h := month_l0 s hs 12 0 (by omega)
  unfold impl_monthIn.f
  refine Ev.told impl_months_eq ?_
  have e : monthIn (bytesOf s) = inFrom 12 (((0 : Nat) : Int) + 1) (bytesOf s) := rfl
  rw [e]; exact h
/-! the reader -/
def implD (l : List Int) : Int × Bool :=
  if (numsL l none).length = 5 ∧ ok6 (byNums l (numsL l none)) ∧ (httpT (secs6 (byNums l (numsL l none))) = l ∨ longT (secs6 (byNums l (numsL l none))) = l ∨ lineT (secs6 (byNums l (numsL l none))) = l) then (secs6 (byNums l (numsL l none)), true) else (0, false)
theorem implD_rhd {l : List Int} (hl : l ≠ []) : implD l = rhd l := by
  unfold implD
  split
  · rename_i h
    exact (rhd_yes (isText_of hl h.2.2)).symm
  · rename_i h
    refine (rhd_no ?_).symm
    intro t ht
    apply h
    obtain ⟨h5, e⟩ := byNums_of ht
    rw [e]
    refine ⟨h5, ok6_civ ht.1, ?_⟩
    rw [secs6_civ ht.1]; exact texts_of ht
def Bt (l : List Int) : Prop := ∀ y ∈ l, 0 ≤ y ∧ y < 256
theorem Bt.app {p q : List Int} (hp : Bt p) (hq : Bt q) : Bt (p ++ q) := by
  intro y hy
  rcases List.mem_append.mp hy with h | h
  · exact hp y h
  · exact hq y h
theorem Bt.take {p : List Int} (hp : Bt p) (n : Nat) : Bt (p.take n) := fun y hy => hp y (List.mem_of_mem_take hy)
theorem Bt.pad (k : Nat) (n : Int) : Bt (padL k n) := fun y hy => by have := padL_digit k n y hy; omega
theorem Bt.lit {l : List Int} (h : (l.all fun y => decide (0 ≤ y) && decide (y < 256)) = true) : Bt l := fun y hy => by
  have := List.all_eq_true.mp h y hy
  simpa using this
theorem Bt.clock (t : Int) : Bt (clockL t) := by
  unfold clockL
  exact (Bt.pad 2 _).app ((Bt.lit (by decide)).app ((Bt.pad 2 _).app ((Bt.lit (by decide)).app (Bt.pad 2 _))))
theorem dname_byte {w : Int} (hw : 0 ≤ w ∧ w ≤ 6) : Bt (dname w) := by
  rcases seven hw with rfl | rfl | rfl | rfl | rfl | rfl | rfl <;> exact Bt.lit (by decide +kernel)
theorem http_byte {t : Int} (h : isT t) : Bt (httpL t) := by
  have hm : Bt (mname (mo t)) := mname_byte (parts h).2.1
  unfold httpL
  exact ((dname_byte (wd_in t)).take 3).app ((Bt.lit (by decide)).app ((Bt.pad 2 _).app ((Bt.lit (by decide)).app (hm.app ((Bt.lit (by decide)).app ((Bt.pad 4 _).app ((Bt.lit (by decide)).app ((Bt.clock t).app (Bt.lit (by decide))))))))))
theorem long_byte {t : Int} (h : isT t) : Bt (longL t) := by
  have hm : Bt (mname (mo t)) := mname_byte (parts h).2.1
  unfold longL
  exact (dname_byte (wd_in t)).app ((Bt.lit (by decide)).app ((Bt.pad 2 _).app ((Bt.lit (by decide)).app (hm.app ((Bt.lit (by decide)).app ((Bt.pad 2 _).app ((Bt.lit (by decide)).app ((Bt.clock t).app (Bt.lit (by decide))))))))))
theorem day2_byte {d : Int} (h : 1 ≤ d ∧ d ≤ 31) : Bt (day2 d) := by
  unfold day2
  split
  · intro y hy
    simp only [List.mem_cons, List.not_mem_nil, or_false] at hy
    omega
  · exact Bt.pad 2 _
theorem line_byte {t : Int} (h : isT t) : Bt (lineL t) := by
  have hm : Bt (mname (mo t)) := mname_byte (parts h).2.1
  have hd : Bt (day2 (da t)) := day2_byte (parts h).2.2.1
  unfold lineL
  exact ((dname_byte (wd_in t)).take 3).app ((Bt.lit (by decide)).app (hm.app ((Bt.lit (by decide)).app (hd.app ((Bt.lit (by decide)).app ((Bt.clock t).app ((Bt.lit (by decide)).app (Bt.pad 4 _))))))))
theorem httpT_byte (x : Int) : ∀ y ∈ httpT x, 0 ≤ y ∧ y < 256 := by
  intro y hy
  unfold httpT at hy
  split at hy
  · rename_i h; exact http_byte h y hy
  · cases hy
theorem longT_byte (x : Int) : ∀ y ∈ longT x, 0 ≤ y ∧ y < 256 := by
  intro y hy
  unfold longT at hy
  split at hy
  · rename_i h; exact long_byte h.1 y hy
  · cases hy
theorem lineT_byte (x : Int) : ∀ y ∈ lineT x, 0 ≤ y ∧ y < 256 := by
  intro y hy
  unfold lineT at hy
  split at hy
  · rename_i h; exact line_byte h y hy
  · cases hy
theorem same_iff {l : List Int} (hb : ∀ y ∈ l, 0 ≤ y ∧ y < 256) (s : ByteArray) : (strOfNums l).toList = s.toList ↔ l = bytesOf s := by
  rw [toList_iff]
  constructor
  · rintro rfl; rw [bytes_strOf hb]
  · intro h; rw [h, strOf_bytes]
theorem impl_j1 (s : ByteArray) (p : P6) : Ev (fun k => impl_ReadHttpDate.j1 k s p.y p.m p.d p.h p.mn p.s) (if ok6 p ∧ (httpT (secs6 p) = bytesOf s ∨ longT (secs6 p) = bytesOf s ∨ lineT (secs6 p) = bytesOf s) then (secs6 p, true) else (0, false)) := by
  have hsec : impl_SecondsOf.f p.y p.m p.d p.h p.mn p.s = some (if ok6 p then (secs6 p, true) else (0, false)) := rfl
  refine Ev.step (fun k => impl_ReadHttpDate.j1.eq_2 _ _ _ _ _ _ _ k) (Ev.told hsec ?_)
  by_cases c : ok6 p
  · rw [if_pos c]
    refine Ev.pos rfl (Ev.told (impl_http _) ?_)
    by_cases a1 : httpT (secs6 p) = bytesOf s
    · have q : ok6 p ∧ (httpT (secs6 p) = bytesOf s ∨ longT (secs6 p) = bytesOf s ∨ lineT (secs6 p) = bytesOf s) := ⟨c, .inl a1⟩
      rw [if_pos q]; exact Ev.pos ((same_iff (httpT_byte _) s).mpr a1) (Ev.now _)
    · refine Ev.neg (fun q => a1 ((same_iff (httpT_byte _) s).mp q)) (Ev.bind (impl_long _) ?_)
      by_cases a2 : longT (secs6 p) = bytesOf s
      · have q : ok6 p ∧ (httpT (secs6 p) = bytesOf s ∨ longT (secs6 p) = bytesOf s ∨ lineT (secs6 p) = bytesOf s) := ⟨c, .inr (.inl a2)⟩
        rw [if_pos q]; exact Ev.pos ((same_iff (longT_byte _) s).mpr a2) (Ev.now _)
      · refine Ev.neg (fun q => a2 ((same_iff (longT_byte _) s).mp q)) (Ev.bind (impl_line _) ?_)
        by_cases a3 : lineT (secs6 p) = bytesOf s
        · have q : ok6 p ∧ (httpT (secs6 p) = bytesOf s ∨ longT (secs6 p) = bytesOf s ∨ lineT (secs6 p) = bytesOf s) := ⟨c, .inr (.inr a3)⟩
          rw [if_pos q]; exact Ev.pos ((same_iff (lineT_byte _) s).mpr a3) (Ev.now _)
        · have q : ¬ (ok6 p ∧ (httpT (secs6 p) = bytesOf s ∨ longT (secs6 p) = bytesOf s ∨ lineT (secs6 p) = bytesOf s)) := by
            rintro ⟨_, h | h | h⟩ <;> contradiction
          rw [if_neg q]; exact Ev.neg (fun q => a3 ((same_iff (lineT_byte _) s).mp q)) (Ev.now _)
  · rw [if_neg c, if_neg fun h => c h.1]
    exact Ev.neg (by simp) (Ev.now _)
theorem five_of {l : List Int} (h : l.length = 5) : ∃ a b c d e, l = [a, b, c, d, e] := by
  match l, h with
  | [a, b, c, d, e], _ => exact ⟨a, b, c, d, e, rfl⟩
theorem implD_no {l : List Int} (h : ¬ (numsL l none).length = 5) : implD l = (0, false) := by
  unfold implD; rw [if_neg fun c => h c.1]
theorem implD_yes {l : List Int} (h : (numsL l none).length = 5) : implD l = if ok6 (byNums l (numsL l none)) ∧ (httpT (secs6 (byNums l (numsL l none))) = l ∨ longT (secs6 (byNums l (numsL l none))) = l ∨ lineT (secs6 (byNums l (numsL l none))) = l) then (secs6 (byNums l (numsL l none)), true) else (0, false) := by
  unfold implD
  by_cases c : ok6 (byNums l (numsL l none)) ∧ (httpT (secs6 (byNums l (numsL l none))) = l ∨ longT (secs6 (byNums l (numsL l none))) = l ∨ lineT (secs6 (byNums l (numsL l none))) = l)
  · rw [if_pos c, if_pos ⟨h, c⟩]
  · rw [if_neg c, if_neg fun q => c q.2]
theorem idx_lt : ∀ (l : List Int) (c : Int), idxL l c < l.length ∨ l = [] 
  | [], _ => .inr rfl
  | x :: l, c => by
    left
    rcases idx_lt l c with h | h
    · simp only [idxL, List.length_cons]; split
      · omega
      · split <;> omega
    · subst h; simp only [idxL]; split
      · simp
      · simp
theorem impl_j0 (s : ByteArray) (h6 : 6 ≤ s.size) (h40 : s.size ≤ 40) : Ev (fun k => impl_ReadHttpDate.j0 k s false) (implD (bytesOf s)) := by
  refine Ev.step (fun k => impl_ReadHttpDate.j0.eq_2 _ _ k) (Ev.neg (by simp) (Ev.bind (nums_f s (by omega)) ?_))
  by_cases n5 : (numsL (bytesOf s) none).length = 5
  · rw [implD_yes n5]
    have bd := (nums_bd (bytesOf s)).1
    have hp := impl_j1 s (byNums (bytesOf s) (numsL (bytesOf s) none))
    have hlen := bytesOf_length s
    have hz : ∀ a : Nat, (s.extract a s.size).size ≤ 1048576 := by intro a; rw [← bytesOf_length, bytes_to_end, List.length_drop, bytesOf_length]; omega
    refine Ev.pos (by omega) (Ev.pos (by omega) ?_)
    have m3 := month_f (s.extract 3 s.size) (hz 3)
    rw [bytes_to_end] at m3
    refine Ev.bind m3 (Ev.told (idx_f s 44 (by decide)) ?_)
    obtain ⟨n0, n1, n2, n3, n4, en⟩ := five_of n5
    rw [en] at bd hp ⊢
    have b1 := bd n1 (by simp)
    by_cases c : 0 ≤ idxL (bytesOf s) 44
    · have hc : idxL (bytesOf s) 44 ≤ (s.size : Int) := by
        rcases idx_lt (bytesOf s) 44 with h | h
        · omega
        · rw [h] at hlen; simp at hlen; omega
      have mc := month_f (s.extract (idxL (bytesOf s) 44).toNat s.size) (hz _)
      rw [bytes_to_end] at mc
      have hby : byNums (bytesOf s) [n0, n1, n2, n3, n4] = ⟨if 0 ≤ idxL (bytesOf s) 45 then full2 n1 else n1, monthIn ((bytesOf s).drop (idxL (bytesOf s) 44).toNat), n0, n2, n3, n4⟩ := by simp only [byNums]; rw [if_pos c]
      refine Ev.pos c (Ev.pos c (Ev.pos hc (Ev.bind mc ?_)))
      refine Ev.pos (by simp) (Ev.pos (by simp) (Ev.pos (by simp) (Ev.pos (by simp) (Ev.pos (by simp) (Ev.told (idx_f s 45 (by decide)) ?_)))))
      rw [show rd [n0, n1, n2, n3, n4] 0 = n0 from rfl, show rd [n0, n1, n2, n3, n4] 1 = n1 from rfl, show rd [n0, n1, n2, n3, n4] 2 = n2 from rfl, show rd [n0, n1, n2, n3, n4] 3 = n3 from rfl, show rd [n0, n1, n2, n3, n4] 4 = n4 from rfl]
      rw [w64 (n := n1 + 1900) (by omega) (by omega), w64 (n := n1 + 1900 + 100) (by omega) (by omega)]
      by_cases d : 0 ≤ idxL (bytesOf s) 45
      · refine Ev.pos d ?_
        by_cases e : n1 + 1900 < 1970
        · refine Ev.pos e ?_
          rw [hby, if_pos d, show full2 n1 = n1 + 1900 + 100 by unfold full2; rw [if_pos e]] at hp
          rw [hby, if_pos d, show full2 n1 = n1 + 1900 + 100 by unfold full2; rw [if_pos e]]
          exact hp
        · refine Ev.neg e ?_
          rw [hby, if_pos d, show full2 n1 = n1 + 1900 by unfold full2; rw [if_neg e]] at hp
          rw [hby, if_pos d, show full2 n1 = n1 + 1900 by unfold full2; rw [if_neg e]]
          exact hp
      · refine Ev.neg d ?_
        rw [hby, if_neg d] at hp
        rw [hby, if_neg d]
        exact hp
    · have hby : byNums (bytesOf s) [n0, n1, n2, n3, n4] = ⟨n4, monthIn ((bytesOf s).drop 3), n0, n1, n2, n3⟩ := by simp only [byNums]; rw [if_neg c]
      rw [hby] at hp
      rw [hby]
      refine Ev.neg c ?_
      refine Ev.pos (by simp) (Ev.pos (by simp) (Ev.pos (by simp) (Ev.pos (by simp) (Ev.pos (by simp) ?_))))
      exact hp
  · rw [implD_no n5]
    exact Ev.neg (by omega) (Ev.now _)
theorem impl_rhd (s : ByteArray) : Ev (fun k => impl_ReadHttpDate.f k s) (rhd (bytesOf s)) := by
  have hlen := bytesOf_length s
  have bad : s.size < 6 ∨ 40 < s.size → rhd (bytesOf s) = (0, false) := by
    intro h
    refine rhd_no ?_
    intro t ht
    rcases lens ht with ⟨_, n⟩ | ⟨_, _, n1, n2⟩ | ⟨_, n⟩ <;> omega
  unfold impl_ReadHttpDate.f
  by_cases h6 : s.size < 6
  · rw [bad (.inl h6)]
    refine Ev.pos (by omega) (Ev.step (fun k => impl_ReadHttpDate.j0.eq_2 _ _ k) (Ev.pos rfl (Ev.now _)))
  · refine Ev.neg (by omega) ?_
    by_cases h40 : 40 < s.size
    · rw [bad (.inr h40), show decide ((s.size : Int) > 40) = true from decide_eq_true (by omega)]
      exact Ev.step (fun k => impl_ReadHttpDate.j0.eq_2 _ _ k) (Ev.pos rfl (Ev.now _))
    · rw [show decide ((s.size : Int) > 40) = false from decide_eq_false (by omega), ← implD_rhd (by intro q; rw [q] at hlen; simp at hlen; omega)]
      exact impl_j0 s (by omega) (by omega)

/-! The program's reader of records' dates -/
theorem warc_len (t : Int) : (warcL t).length = 20 := by
  simp only [warcL, clockL, List.length_append, padL_length, List.length_cons, List.length_nil]
theorem warcT_byte (x : Int) : ∀ y ∈ warcT x, 0 ≤ y ∧ y < 256 := by
  intro y hy
  unfold warcT at hy
  split at hy
  · simp only [warcL, clockL, List.mem_append, List.mem_singleton] at hy
    rcases hy with h | h | h | h | h | h | (h | h | h | h | h) | h
    all_goals first
      | (have := padL_digit _ _ y h; omega)
      | omega
  · cases hy
theorem warcT_iff (x : Int) (s : ByteArray) : (strOfNums (warcT x)).toList = s.toList ↔ warcT x = bytesOf s := by
  rw [toList_iff]
  constructor
  · rintro rfl; rw [bytes_strOf (warcT_byte x)]
  · intro h; rw [h, strOf_bytes]
def implR (l : List Int) : Int × Bool := if (readM (digs l)).2 = true then (if warcT (readM (digs l)).1 = l then ((readM (digs l)).1, true) else (0, false)) else (0, false)
theorem digs_more {l : List Int} {i : Nat} (h : i < l.length) : digs (l.take (i + 1)) = digs (l.take i) ++ (if 48 ≤ l.getD i 0 ∧ l.getD i 0 ≤ 57 then [l.getD i 0] else []) := by
  have e : l.take (i + 1) = l.take i ++ [l.getD i 0] := by
    rw [List.getD_eq_getElem?_getD, List.getElem?_eq_getElem h, Option.getD_some, List.take_add_one, List.getElem?_eq_getElem h]; rfl
  rw [e, digs_app]
  congr 1
  unfold digs
  generalize l.getD i 0 = x
  by_cases c : 48 ≤ x ∧ x ≤ 57
  · rw [if_pos c, List.filter_cons_of_pos (by simp [c.1, c.2])]; rfl
  · rw [if_neg c, List.filter_cons_of_neg (by simp; omega)]; rfl
theorem digs_byte (l : List Int) : ∀ y ∈ digs l, 0 ≤ y ∧ y < 256 := by
  intro y hy
  unfold digs at hy
  have := (List.mem_filter.mp hy).2
  simp at this; omega
theorem digs_len (l : List Int) : (digs l).length ≤ l.length := List.length_filter_le _ _
theorem impl_l0 (s : ByteArray) (hs : s.size ≤ 1048576) : ∀ (d i : Nat), i + d = s.size → Ev (fun k => impl_ReadWarcDate.l0 k s (digs ((bytesOf s).take i)) (i : Int)) (implR (bytesOf s))
  | 0, i, hd => by
    have e : (bytesOf s).take i = bytesOf s := List.take_of_length_le (by rw [bytesOf_length]; omega)
    rw [e]
    have hz := digs_len (bytesOf s)
    rw [bytesOf_length] at hz
    have hr : impl_ReadStamp.f (strOfNums (digs (bytesOf s))) = some (readM (digs (bytesOf s))) := by
      unfold impl_ReadStamp.f; rw [if_pos (by rw [size_strOf]; omega), bytes_strOf (digs_byte _)]
    refine Ev.step (fun k => impl_ReadWarcDate.l0.eq_2 _ _ _ k) (Ev.neg (by omega) (Ev.told hr ?_))
    unfold implR
    by_cases c : (readM (digs (bytesOf s))).2 = true
    · refine Ev.pos c (Ev.told (show impl_WarcDate.f _ = some (strOfNums (warcT _)) from rfl) ?_)
      rw [if_pos c]
      by_cases g : warcT (readM (digs (bytesOf s))).1 = bytesOf s
      · refine Ev.pos ((warcT_iff _ _).mpr g) ?_; rw [if_pos g]; exact Ev.now _
      · refine Ev.neg (fun q => g ((warcT_iff _ _).mp q)) ?_; rw [if_neg g]; exact Ev.now _
    · refine Ev.neg c ?_; rw [if_neg c]; exact Ev.now _
  | d + 1, i, hd => by
    have hil : i < (bytesOf s).length := by rw [bytesOf_length]; omega
    have hw : (wrap64 ((i : Int) + 1)) = ((i + 1 : Nat) : Int) := by rw [w64 (by omega) (by omega)]; omega
    have hz := digs_len ((bytesOf s).take i)
    have ih := impl_l0 s hs d (i + 1) (by omega)
    rw [digs_more hil] at ih
    refine Ev.step (fun k => impl_ReadWarcDate.l0.eq_2 _ _ _ k) (Ev.pos (by omega) (Ev.pos (by omega) (Ev.told (isd_f _) ?_)))
    rw [bt_nat, hw]
    by_cases g : 48 ≤ (bytesOf s).getD i 0 ∧ (bytesOf s).getD i 0 ≤ 57
    · rw [decide_eq_true g]; rw [if_pos g] at ih
      refine Ev.pos rfl (Ev.pos ?_ ih)
      rw [List.length_take] at hz; omega
    · rw [decide_eq_false g]; rw [if_neg g, List.append_nil] at ih
      exact Ev.neg (by simp) ih
theorem warc_read {t : Int} (ht : isT t) : Ev (fun k => impl_ReadWarcDate.f k (strOfNums (warcL t))) (t, true) := by
  have hb : ∀ y ∈ warcL t, 0 ≤ y ∧ y < 256 := by
    have := warcT_byte t
    unfold warcT at this; rw [if_pos ht] at this; exact this
  have hz : (strOfNums (warcL t)).size = 20 := by rw [size_strOf, warc_len]
  have hi : Ev (fun k => impl_ReadWarcDate.f k (strOfNums (warcL t))) (implR (bytesOf (strOfNums (warcL t)))) := impl_l0 (strOfNums (warcL t)) (by omega) (strOfNums (warcL t)).size 0 (by omega)
  rw [bytes_strOf hb] at hi
  have r : readM (digs (warcL t)) = (t, true) := by
    rw [digs_warc]; unfold readM; rw [if_pos (stamp_of ht).1, (stamp_of ht).2]
  have hr : implR (warcL t) = (t, true) := by
    unfold implR; rw [r, if_pos rfl, if_pos (by unfold warcT; rw [if_pos ht])]
  rw [hr] at hi; exact hi

theorem days_true : laws_days.f = some true := by decide +kernel
theorem strE {l : List Int} (h : l = []) : (strOfNums l).toList = ([] : List UInt8) := by subst h; rw [Lib.toList_data]; rfl
theorem longT_date {t : Int} (h : isT t) : longT t = [] ↔ 2069 < yr t := by
  unfold longT
  constructor
  · intro q
    by_cases c : yr t ≤ 2069
    · rw [if_pos ⟨h, c⟩] at q
      have a := long_length h; rw [q, List.length_nil] at a; omega
    · omega
  · intro c; rw [if_neg (by omega)]
theorem yr_late {t : Int} (h : isT t) : 2069 < yr t ↔ 3155760000 ≤ t := by
  obtain ⟨y0, y1, y2, y3⟩ := yr_fits h
  have e : dby 2070 = 36525 := by decide
  constructor
  · intro c
    have := dby_mono (show (2070 : Int) ≤ yr t by omega)
    omega
  · intro c
    by_cases d : yr t ≤ 2069
    · have := dby_mono (show yr t + 1 ≤ 2070 by omega)
      omega
    · omega
theorem rhd_text {t : Int} {l : List Int} (h : isText l t) : Ev (fun k => impl_ReadHttpDate.f k (strOfNums l)) (t, true) := by
  have hb : Bt l := by
    obtain ⟨ht, rfl | ⟨_, rfl⟩ | rfl⟩ := h
    · exact http_byte ht
    · exact long_byte ht
    · exact line_byte ht
  have := impl_rhd (strOfNums l)
  rw [bytes_strOf hb, rhd_yes h] at this; exact this
theorem FnDates : laws_FnDates.Pure := by
  intro b hl hb1 hw
  apply Ev.rounds
  have hb : Bs b := by unfold Bs; omega
  obtain ⟨h0, e0⟩ := draw_new hb
  obtain ⟨t, i1, h1, e1, t0, t1, _⟩ := draw_time hb 0 h0 (by omega)
  have ed : Ev (fun k => spec_DrawHttpDate.f k b) t := by unfold spec_DrawHttpDate.f; exact Ev.bind e0 (Ev.told e1 (Ev.now _))
  have fin : ∀ r : Bool, r = true → Ev (fun k => (laws_days.f).bind fun t => some t) r := fun r h => by rw [h]; exact Ev.told days_true (Ev.now _)
  unfold laws_FnDates.f
  refine Ev.bind ed ?_
  by_cases ht : isT t
  · have a0 : ¬ t < 0 := by have := ht.1; omega
    have a1 : ¬ t > 253402300799 := by have := ht.2; omega
    have q1 : httpT t = httpL t := by unfold httpT; rw [if_pos ht]
    have q2 : lineT t = lineL t := by unfold lineT; rw [if_pos ht]
    have q3 : warcT t = warcL t := by unfold warcT; rw [if_pos ht]
    have q4 : stampT' t = stampL t := by unfold stampT'; rw [if_pos ht]
    have rs : impl_ReadStamp.f (strOfNums (stampL t)) = some (t, true) := by
      unfold impl_ReadStamp.f
      rw [if_pos (by rw [size_strOf, stamp_length]; omega), bytes_strOf (fun y hy => by have := stamp_dig t y hy; omega)]
      unfold readM; rw [if_pos (stamp_of ht).1, (stamp_of ht).2]
    refine Ev.neg a0 ?_
    rw [decide_eq_false a1]
    refine Ev.step (fun k => laws_FnDates.j0.eq_2 _ _ k) (Ev.neg (by simp) (Ev.told (impl_http t) ?_))
    rw [q1]
    refine Ev.bind (rhd_text ⟨ht, .inl rfl⟩) (Ev.bind (impl_line t) ?_)
    rw [q2]
    refine Ev.bind (rhd_text ⟨ht, .inr (.inr rfl)⟩) (Ev.told (show impl_WarcDate.f t = some (strOfNums (warcT t)) from rfl) ?_)
    rw [q3]
    refine Ev.bind (warc_read ht) (Ev.told (show impl_Stamp.f t = some (strOfNums (stampT' t)) from rfl) ?_)
    rw [q4]
    refine Ev.told rs (Ev.pos rfl (Ev.pos rfl (Ev.pos rfl (Ev.pos rfl (Ev.pos rfl (Ev.pos rfl (Ev.pos rfl ?_)))))))
    rw [show (t != t) = false by simp]
    refine Ev.step (fun k => laws_FnDates.j1.eq_2 _ _ k) (Ev.neg (by simp) (Ev.bind (impl_long t) ?_))
    by_cases c : longT t = []
    · refine Ev.pos (strE c) (Ev.pos ((yr_late ht).mp ((longT_date ht).mp c)) (fin true rfl))
    · have cy : yr t ≤ 2069 := by
        by_cases d : yr t ≤ 2069
        · exact d
        · exact absurd ((longT_date ht).mpr (by omega)) c
      have q5 : longT t = longL t := by unfold longT; rw [if_pos ⟨ht, cy⟩]
      rw [q5] at c ⊢
      refine Ev.neg ?_ (Ev.bind (rhd_text ⟨ht, .inr (.inl ⟨cy, rfl⟩)⟩) (Ev.pos rfl (Ev.pos rfl (fin true rfl))))
      intro q
      have := congrArg List.length q
      rw [Lib.toList_data, strOfNums_data] at this
      simp at this
      exact c this
  · have e1 : httpT t = [] := by unfold httpT; rw [if_neg ht]
    have e2 : warcT t = [] := by unfold warcT; rw [if_neg ht]
    have e3 : stampT' t = [] := by unfold stampT'; rw [if_neg ht]
    have body : Ev (fun k => laws_FnDates.j0 k t true) true := by
      refine Ev.step (fun k => laws_FnDates.j0.eq_2 _ _ k) (Ev.pos rfl (Ev.told (impl_http t) (Ev.pos (strE e1) (Ev.told (show impl_WarcDate.f t = some (strOfNums (warcT t)) from rfl) (Ev.pos (strE e2) (Ev.told (show impl_Stamp.f t = some (strOfNums (stampT' t)) from rfl) (Ev.pos (strE e3) (fin true rfl))))))))
    by_cases c : t < 0
    · exact Ev.pos c body
    · refine Ev.neg c ?_
      rw [decide_eq_true (show t > 253402300799 by unfold isT at ht; omega)]
      exact body

end Go.Proofs.YtgjbhdfncappdaaDoor.Pure
