/- What the program's Stamp and WarcDate tell, as functions that the printed walks may call. No condition. -/
import Derived.Test.YtgjbhdfncappdaaDoorSecWalk
import Derived.Test.YtgjbhdfncappdaaDoorForItoa
import Derived.Test.YtgjbhdfncappdaaDoorHttps
namespace Go.Proofs.YtgjbhdfncappdaaDoor.Foreign
set_option linter.unusedVariables false
set_option linter.unusedSimpArgs false
open Go.RowKit Go.Proofs.YtgjbhdfncappdaaDoor.Dates Go.Proofs.YtgjbhdfncappdaaDoor.Pads Go.Proofs.YtgjbhdfncappdaaDoor.Formats Go.Proofs.YtgjbhdfncappdaaDoor.Https Go.Proofs.YtgjbhdfncappdaaDoorV.PrintWords Go.Proofs.YtgjbhdfncappdaaDoorV.PrintLast Go.Proofs.YtgjbhdfncappdaaDoorV.PrintMore
theorem digits_q (n : Int) (k : Nat) (r : ByteArray) (hr : Aside (strOfNums (padL k n) = r)) (h0 : 0 ≤ n) (h1 : n ≤ 9223372036854775807) (hk : k ≤ 100) (w : World) :
    Calls Tryd.prog 54 #[.int .i64 n, .int .i64 (k : Int)] w fun e w' => e = .returned (.string r) ∧ w' = w := (digits_c n k h0 h1 hk w).mono fun _ _ ⟨a, b⟩ => ⟨by rw [a, hr.out], b.symm⟩
set_option maxHeartbeats 2000000 in
theorem dateText_yes (t : Int) (ht : isT t) (p0 p1 p2 p3 p4 p5 : ByteArray) (z0 : p0.size ≤ 1) (z1 : p1.size ≤ 1) (z2 : p2.size ≤ 1) (z3 : p3.size ≤ 1) (z4 : p4.size ≤ 1) (z5 : p5.size ≤ 1) (w : World) :
    Calls Tryd.prog 41 #[.int .i64 t, .agg #[.string p0, .string p1, .string p2, .string p3, .string p4, .string p5]] w fun e w' => e = .returned (.string (strOfNums (padL 4 (yr t)) ++ p0 ++ strOfNums (padL 2 (mo t)) ++ p1 ++ strOfNums (padL 2 (da t)) ++ p2 ++ strOfNums (padL 2 (ho t)) ++ p3 ++ strOfNums (padL 2 (mi t)) ++ p4 ++ strOfNums (padL 2 (se t)) ++ p5)) ∧ Below w.heap.size w w' := by
  have HT : Aside (isT t) := ht
  obtain ⟨q1, q2, q3, q4, q5, q6⟩ := parts ht
  obtain ⟨s0, e0⟩ : ∃ s, strOfNums (padL 4 (yr t)) = s := ⟨_, rfl⟩
  obtain ⟨s1, e1⟩ : ∃ s, strOfNums (padL 2 (mo t)) = s := ⟨_, rfl⟩
  obtain ⟨s2, e2⟩ : ∃ s, strOfNums (padL 2 (da t)) = s := ⟨_, rfl⟩
  obtain ⟨s3, e3⟩ : ∃ s, strOfNums (padL 2 (ho t)) = s := ⟨_, rfl⟩
  obtain ⟨s4, e4⟩ : ∃ s, strOfNums (padL 2 (mi t)) = s := ⟨_, rfl⟩
  obtain ⟨s5, e5⟩ : ∃ s, strOfNums (padL 2 (se t)) = s := ⟨_, rfl⟩
  have y0 : s0.size = 4 := by rw [← e0, strOfNums_size, padL_length]
  have y1 : s1.size = 2 := by rw [← e1, strOfNums_size, padL_length]
  have y2 : s2.size = 2 := by rw [← e2, strOfNums_size, padL_length]
  have y3 : s3.size = 2 := by rw [← e3, strOfNums_size, padL_length]
  have y4 : s4.size = 2 := by rw [← e4, strOfNums_size, padL_length]
  have y5 : s5.size = 2 := by rw [← e5, strOfNums_size, padL_length]
  rw [e0, e1, e2, e3, e4, e5]
  have E0 : Aside (strOfNums (padL 4 (yr t)) = s0) := e0
  have E1 : Aside (strOfNums (padL 2 (mo t)) = s1) := e1
  have E2 : Aside (strOfNums (padL 2 (da t)) = s2) := e2
  have E3 : Aside (strOfNums (padL 2 (ho t)) = s3) := e3
  have E4 : Aside (strOfNums (padL 2 (mi t)) = s4) := e4
  have E5 : Aside (strOfNums (padL 2 (se t)) = s5) := e5
  clear e0 e1 e2 e3 e4 e5
  have u0 : ¬ 9223372036854775807 < s0.size + p0.size := by omega
  have u1 : ¬ 9223372036854775807 < s0.size + p0.size + s1.size := by omega
  have u2 : ¬ 9223372036854775807 < s0.size + p0.size + s1.size + p1.size := by omega
  have u3 : ¬ 9223372036854775807 < s0.size + p0.size + s1.size + p1.size + s2.size := by omega
  have u4 : ¬ 9223372036854775807 < s0.size + p0.size + s1.size + p1.size + s2.size + p2.size := by omega
  have u5 : ¬ 9223372036854775807 < s0.size + p0.size + s1.size + p1.size + s2.size + p2.size + s3.size := by omega
  have u6 : ¬ 9223372036854775807 < s0.size + p0.size + s1.size + p1.size + s2.size + p2.size + s3.size + p3.size := by omega
  have u7 : ¬ 9223372036854775807 < s0.size + p0.size + s1.size + p1.size + s2.size + p2.size + s3.size + p3.size + s4.size := by omega
  have u8 : ¬ 9223372036854775807 < s0.size + p0.size + s1.size + p1.size + s2.size + p2.size + s3.size + p3.size + s4.size + p4.size := by omega
  have u9 : ¬ 9223372036854775807 < s0.size + p0.size + s1.size + p1.size + s2.size + p2.size + s3.size + p3.size + s4.size + p4.size + s5.size := by omega
  have u10 : ¬ 9223372036854775807 < s0.size + p0.size + s1.size + p1.size + s2.size + p2.size + s3.size + p3.size + s4.size + p4.size + s5.size + p5.size := by omega
  clear y0 y1 y2 y3 y4 y5 z0 z1 z2 z3 z4 z5
  go_enter Tryd.func41, Tryd.ntmps41
  go_wp2_with (go_at_call 45; refine (isTime_yes t HT.out _).mono ?_; rintro e w' ⟨rfl, rfl⟩)
  refine (civilOf_c t HT.out _).mono ?_
  rintro e w1 ⟨rfl, hb⟩
  have HB : Aside (Below w.heap.size w w1) := (((Below.refl _ _).alloc (Nat.le_refl _) _).trans (hb.mono (by simp)))
  have hz := hb.size
  have hz1 : w.heap.size < w1.heap.size := by simp at hz; omega
  obtain ⟨hc, hf⟩ := bcell hb
  clear hb hz
  go_wp2
  go_quiet ((first
    | (go_at_call 54; with_reducible exact Calls.quiet_of_same (digits_q (yr t) 4 s0 E0 (by omega) (by omega) (by decide) _))
    | (go_at_call 54; with_reducible exact Calls.quiet_of_same (digits_q (mo t) 2 s1 E1 (by omega) (by omega) (by decide) _))
    | (go_at_call 54; with_reducible exact Calls.quiet_of_same (digits_q (da t) 2 s2 E2 (by omega) (by omega) (by decide) _))
    | (go_at_call 54; with_reducible exact Calls.quiet_of_same (digits_q (ho t) 2 s3 E3 (by omega) (by omega) (by decide) _))
    | (go_at_call 54; with_reducible exact Calls.quiet_of_same (digits_q (mi t) 2 s4 E4 (by omega) (by omega) (by decide) _))
    | (go_at_call 54; with_reducible exact Calls.quiet_of_same (digits_q (se t) 2 s5 E5 (by omega) (by omega) (by decide) _))))
  go_wp2
  go_ret
  exact ⟨rfl, below_drewN_ (HB.out.alloc (Nat.le_of_lt hz1) _) _⟩
theorem dateText_no (t : Int) (ht : ¬ isT t) (p0 p1 p2 p3 p4 p5 : ByteArray) (w : World) :
    Calls Tryd.prog 41 #[.int .i64 t, .agg #[.string p0, .string p1, .string p2, .string p3, .string p4, .string p5]] w fun e w' => e = .returned (.string ⟨#[]⟩) ∧ Below w.heap.size w w' := by
  go_enter Tryd.func41, Tryd.ntmps41
  go_wp2_with (go_at_call 45; refine (isTime_no t ht _).mono ?_; rintro e w' ⟨rfl, rfl⟩)
  go_ret
  exact ⟨rfl, (Below.refl _ _).alloc (Nat.le_refl _) _⟩
def impl_Stamp.f (t : Int) : Option ByteArray := some (strOfNums (stampT' t))
def impl_WarcDate.f (t : Int) : Option ByteArray := some (strOfNums (warcT t))
theorem impl_Stamp.calls (t : Int) (r : ByteArray) (w : World) (hf : impl_Stamp.f t = some r) :
    Calls Tryd.prog 15 #[.int .i64 t] w fun e w' => e = .returned (.string r) ∧ Below w.heap.size w w' := by
  obtain rfl := Option.some.inj hf
  by_cases ht : isT t
  · have hr : strOfNums (padL 4 (yr t)) ++ ⟨#[]⟩ ++ strOfNums (padL 2 (mo t)) ++ ⟨#[]⟩ ++ strOfNums (padL 2 (da t)) ++ ⟨#[]⟩ ++ strOfNums (padL 2 (ho t)) ++ ⟨#[]⟩ ++ strOfNums (padL 2 (mi t)) ++ ⟨#[]⟩ ++ strOfNums (padL 2 (se t)) ++ ⟨#[]⟩ = strOfNums (stampT' t) := by
      unfold stampT'; rw [if_pos ht]
      rw [show (⟨#[]⟩ : ByteArray) = strOfNums [] from rfl]
      simp only [str_append, List.append_nil, List.append_assoc, stampL]
    have HR : Aside (_ = _) := hr
    clear hr
    go_enter Tryd.func15, Tryd.ntmps15
    go_wp2_with (go_at_call 41; refine (dateText_yes t ht ⟨#[]⟩ ⟨#[]⟩ ⟨#[]⟩ ⟨#[]⟩ ⟨#[]⟩ ⟨#[]⟩ (by decide) (by decide) (by decide) (by decide) (by decide) (by decide) _).mono ?_; rintro e w1 ⟨rfl, hb⟩)
    go_ret
    exact ⟨ret_str HR.out, hb⟩
  · have hr : stampT' t = [] := if_neg ht
    rw [hr]; clear hr
    go_enter Tryd.func15, Tryd.ntmps15
    go_wp2_with (go_at_call 41; refine (dateText_no t ht ⟨#[]⟩ ⟨#[]⟩ ⟨#[]⟩ ⟨#[]⟩ ⟨#[]⟩ ⟨#[]⟩ _).mono ?_; rintro e w1 ⟨rfl, hb⟩)
    go_ret
    exact ⟨rfl, hb⟩
theorem impl_WarcDate.calls (t : Int) (r : ByteArray) (w : World) (hf : impl_WarcDate.f t = some r) :
    Calls Tryd.prog 17 #[.int .i64 t] w fun e w' => e = .returned (.string r) ∧ Below w.heap.size w w' := by
  obtain rfl := Option.some.inj hf
  by_cases ht : isT t
  · have hr : strOfNums (padL 4 (yr t)) ++ ⟨#[45]⟩ ++ strOfNums (padL 2 (mo t)) ++ ⟨#[45]⟩ ++ strOfNums (padL 2 (da t)) ++ ⟨#[84]⟩ ++ strOfNums (padL 2 (ho t)) ++ ⟨#[58]⟩ ++ strOfNums (padL 2 (mi t)) ++ ⟨#[58]⟩ ++ strOfNums (padL 2 (se t)) ++ ⟨#[90]⟩ = strOfNums (warcT t) := by
      unfold warcT; rw [if_pos ht]
      rw [show (⟨#[45]⟩ : ByteArray) = strOfNums [45] from rfl, show (⟨#[84]⟩ : ByteArray) = strOfNums [84] from rfl, show (⟨#[58]⟩ : ByteArray) = strOfNums [58] from rfl, show (⟨#[90]⟩ : ByteArray) = strOfNums [90] from rfl]
      simp only [str_append, List.append_nil, List.append_assoc, warcL, clockL]
    have HR : Aside (_ = _) := hr
    clear hr
    go_enter Tryd.func17, Tryd.ntmps17
    go_wp2_with (go_at_call 41; refine (dateText_yes t ht ⟨#[45]⟩ ⟨#[45]⟩ ⟨#[84]⟩ ⟨#[58]⟩ ⟨#[58]⟩ ⟨#[90]⟩ (by decide) (by decide) (by decide) (by decide) (by decide) (by decide) _).mono ?_; rintro e w1 ⟨rfl, hb⟩)
    go_ret
    exact ⟨ret_str HR.out, hb⟩
  · have hr : warcT t = [] := if_neg ht
    rw [hr]; clear hr
    go_enter Tryd.func17, Tryd.ntmps17
    go_wp2_with (go_at_call 41; refine (dateText_no t ht ⟨#[45]⟩ ⟨#[45]⟩ ⟨#[84]⟩ ⟨#[58]⟩ ⟨#[58]⟩ ⟨#[90]⟩ _).mono ?_; rintro e w1 ⟨rfl, hb⟩)
    go_ret
    exact ⟨rfl, hb⟩
end Go.Proofs.YtgjbhdfncappdaaDoor.Foreign
