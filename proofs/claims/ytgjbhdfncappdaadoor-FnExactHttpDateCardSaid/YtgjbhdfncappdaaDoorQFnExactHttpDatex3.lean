-- Written by a program of this session.
import Derived.Test.YtgjbhdfncappdaaDoorQFnExactHttpDatex0
import Derived.Test.YtgjbhdfncappdaaDoorQFnExactHttpDatex2
namespace Go.Proofs.YtgjbhdfncappdaaDoor.PFnExactHttpDate
open Go.Proofs.YtgjbhdfncappdaaDoor.Foreign
open Go.RowKit Go.Proofs.YtgjbhdfncappdaaDoorW.PrintWords Go.Proofs.YtgjbhdfncappdaaDoorW.PrintLast Go.Proofs.YtgjbhdfncappdaaDoorW.PrintMore
attribute [local go_sem] max2_int min2_int max_two min_two max_three min_three max_four min_four   -- for this text's walks alone
set_option linter.unusedVariables false
set_option linter.unusedSimpArgs false

/-! ### impl_HttpDate: function 27 -/
def impl_HttpDate.f (a0 : Int) : Option (ByteArray) := (impl_isTime.f a0).bind fun t140 => (if t140 = true then ((impl_civilOf.f a0).bind fun bt141 => ((impl_days.f).bind fun t148 => ((impl_Weekday.f a0).bind fun t151 => (if 0 ≤ t151 then (if t151 < (t148.length : Int) then (if 0 ≤ 3 then (if 3 ≤ ((rdOf ByteArray.empty t148 t151).size : Int) then (if ((rdOf ByteArray.empty t148 t151).extract 0 3).size + 2 ≤ 9223372036854775807 then ((impl_digits.f bt141.2.2.1 2).bind fun t153 => (if (((rdOf ByteArray.empty t148 t151).extract 0 3) ++ (⟨#[44, 32]⟩ : ByteArray)).size + t153.size ≤ 9223372036854775807 then (if ((((rdOf ByteArray.empty t148 t151).extract 0 3) ++ (⟨#[44, 32]⟩ : ByteArray)) ++ t153).size + 1 ≤ 9223372036854775807 then ((impl_months.f).bind fun t154 => (if 0 ≤ (wrap64 (bt141.2.1 - 1)) then (if (wrap64 (bt141.2.1 - 1)) < (t154.length : Int) then (if (((((rdOf ByteArray.empty t148 t151).extract 0 3) ++ (⟨#[44, 32]⟩ : ByteArray)) ++ t153) ++ (⟨#[32]⟩ : ByteArray)).size + (rdOf ByteArray.empty t154 (wrap64 (bt141.2.1 - 1))).size ≤ 9223372036854775807 then (if ((((((rdOf ByteArray.empty t148 t151).extract 0 3) ++ (⟨#[44, 32]⟩ : ByteArray)) ++ t153) ++ (⟨#[32]⟩ : ByteArray)) ++ (rdOf ByteArray.empty t154 (wrap64 (bt141.2.1 - 1)))).size + 1 ≤ 9223372036854775807 then ((impl_digits.f bt141.1 4).bind fun t158 => (if (((((((rdOf ByteArray.empty t148 t151).extract 0 3) ++ (⟨#[44, 32]⟩ : ByteArray)) ++ t153) ++ (⟨#[32]⟩ : ByteArray)) ++ (rdOf ByteArray.empty t154 (wrap64 (bt141.2.1 - 1)))) ++ (⟨#[32]⟩ : ByteArray)).size + t158.size ≤ 9223372036854775807 then (if ((((((((rdOf ByteArray.empty t148 t151).extract 0 3) ++ (⟨#[44, 32]⟩ : ByteArray)) ++ t153) ++ (⟨#[32]⟩ : ByteArray)) ++ (rdOf ByteArray.empty t154 (wrap64 (bt141.2.1 - 1)))) ++ (⟨#[32]⟩ : ByteArray)) ++ t158).size + 1 ≤ 9223372036854775807 then ((impl_clock.f bt141.1 bt141.2.1 bt141.2.2.1 bt141.2.2.2.1 bt141.2.2.2.2.1 bt141.2.2.2.2.2).bind fun t159 => (if (((((((((rdOf ByteArray.empty t148 t151).extract 0 3) ++ (⟨#[44, 32]⟩ : ByteArray)) ++ t153) ++ (⟨#[32]⟩ : ByteArray)) ++ (rdOf ByteArray.empty t154 (wrap64 (bt141.2.1 - 1)))) ++ (⟨#[32]⟩ : ByteArray)) ++ t158) ++ (⟨#[32]⟩ : ByteArray)).size + t159.size ≤ 9223372036854775807 then (if ((((((((((rdOf ByteArray.empty t148 t151).extract 0 3) ++ (⟨#[44, 32]⟩ : ByteArray)) ++ t153) ++ (⟨#[32]⟩ : ByteArray)) ++ (rdOf ByteArray.empty t154 (wrap64 (bt141.2.1 - 1)))) ++ (⟨#[32]⟩ : ByteArray)) ++ t158) ++ (⟨#[32]⟩ : ByteArray)) ++ t159).size + 4 ≤ 9223372036854775807 then (some (((((((((((rdOf ByteArray.empty t148 t151).extract 0 3) ++ (⟨#[44, 32]⟩ : ByteArray)) ++ t153) ++ (⟨#[32]⟩ : ByteArray)) ++ (rdOf ByteArray.empty t154 (wrap64 (bt141.2.1 - 1)))) ++ (⟨#[32]⟩ : ByteArray)) ++ t158) ++ (⟨#[32]⟩ : ByteArray)) ++ t159) ++ (⟨#[32, 71, 77, 84]⟩ : ByteArray))) else (none)) else (none))) else (none)) else (none))) else (none)) else (none)) else (none)) else (none))) else (none)) else (none))) else (none)) else (none)) else (none)) else (none)) else (none))))) else (some (⟨#[]⟩ : ByteArray)))
def impl_HttpDate.T4 : Bool × List (List Nat × List Nat) := (true, [([], []), ([], []), ([1, 0], [1]), ([0, 2], [0, 2]), ([3], [3]), ([4], [4]), ([5], [5]), ([], []), ([7], [7]), ([8, 2], [8]), ([6, 9], [6, 9]), ([10], [10]), ([9], []), ([], []), ([13], [13]), ([14], [14]), ([12, 15], [12, 15]), ([16], [16]), ([11, 17], [11, 17]), ([18], [18]), ([], []), ([20], [20]), ([21, 12], [21]), ([19, 22], [19, 22]), ([23], [23]), ([], []), ([25, 22], [25]), ([24, 26], [24, 26]), ([27], [27]), ([28, 26, 0, 1, 2, 3, 4, 5, 6, 7, 8, 9, 10, 11, 12, 13, 14, 15, 16, 17, 18, 19, 20, 21, 22, 23, 24, 25, 26, 27, 28], [28])])
def impl_HttpDate.B4 : List Nat := [0, 0, 3, 7, 15, 31, 63, 0, 128, 391, 1023, 2047, 903, 0, 8192, 24576, 62343, 127879, 262143, 524287, 0, 1048576, 3150727, 8388607, 16777215, 0, 40899463, 134217727, 268435455, 536870911]
theorem impl_HttpDate.tab4 : rtab .any (opsOf Tryd.f27 4) = impl_HttpDate.T4 := by kernel_rfl
theorem impl_HttpDate.bits4 : waitsOk impl_HttpDate.T4.2 impl_HttpDate.B4 = true := by kernel_rfl
set_option maxHeartbeats 8000000 in
set_option maxRecDepth 100000 in
theorem impl_HttpDate.calls (a0 : Int) (r : ByteArray) (w : World) (h : impl_HttpDate.f a0 = some r) :
  Calls Tryd.prog 27 #[.int .i64 a0] w fun e w' => e = .returned (.string r) ∧ Below w.heap.size w w' := by
 have hu30 := Tryd.underlying30
 have HB := Aside0.mk (Below.refl w.heap.size w)
 have H : ((impl_isTime.f a0).bind fun t140 => (if t140 = true then ((impl_civilOf.f a0).bind fun bt141 => ((impl_days.f).bind fun t148 => ((impl_Weekday.f a0).bind fun t151 => (if 0 ≤ t151 then (if t151 < (t148.length : Int) then (if 0 ≤ 3 then (if 3 ≤ ((rdOf ByteArray.empty t148 t151).size : Int) then (if ((rdOf ByteArray.empty t148 t151).extract 0 3).size + 2 ≤ 9223372036854775807 then ((impl_digits.f bt141.2.2.1 2).bind fun t153 => (if (((rdOf ByteArray.empty t148 t151).extract 0 3) ++ (⟨#[44, 32]⟩ : ByteArray)).size + t153.size ≤ 9223372036854775807 then (if ((((rdOf ByteArray.empty t148 t151).extract 0 3) ++ (⟨#[44, 32]⟩ : ByteArray)) ++ t153).size + 1 ≤ 9223372036854775807 then ((impl_months.f).bind fun t154 => (if 0 ≤ (wrap64 (bt141.2.1 - 1)) then (if (wrap64 (bt141.2.1 - 1)) < (t154.length : Int) then (if (((((rdOf ByteArray.empty t148 t151).extract 0 3) ++ (⟨#[44, 32]⟩ : ByteArray)) ++ t153) ++ (⟨#[32]⟩ : ByteArray)).size + (rdOf ByteArray.empty t154 (wrap64 (bt141.2.1 - 1))).size ≤ 9223372036854775807 then (if ((((((rdOf ByteArray.empty t148 t151).extract 0 3) ++ (⟨#[44, 32]⟩ : ByteArray)) ++ t153) ++ (⟨#[32]⟩ : ByteArray)) ++ (rdOf ByteArray.empty t154 (wrap64 (bt141.2.1 - 1)))).size + 1 ≤ 9223372036854775807 then ((impl_digits.f bt141.1 4).bind fun t158 => (if (((((((rdOf ByteArray.empty t148 t151).extract 0 3) ++ (⟨#[44, 32]⟩ : ByteArray)) ++ t153) ++ (⟨#[32]⟩ : ByteArray)) ++ (rdOf ByteArray.empty t154 (wrap64 (bt141.2.1 - 1)))) ++ (⟨#[32]⟩ : ByteArray)).size + t158.size ≤ 9223372036854775807 then (if ((((((((rdOf ByteArray.empty t148 t151).extract 0 3) ++ (⟨#[44, 32]⟩ : ByteArray)) ++ t153) ++ (⟨#[32]⟩ : ByteArray)) ++ (rdOf ByteArray.empty t154 (wrap64 (bt141.2.1 - 1)))) ++ (⟨#[32]⟩ : ByteArray)) ++ t158).size + 1 ≤ 9223372036854775807 then ((impl_clock.f bt141.1 bt141.2.1 bt141.2.2.1 bt141.2.2.2.1 bt141.2.2.2.2.1 bt141.2.2.2.2.2).bind fun t159 => (if (((((((((rdOf ByteArray.empty t148 t151).extract 0 3) ++ (⟨#[44, 32]⟩ : ByteArray)) ++ t153) ++ (⟨#[32]⟩ : ByteArray)) ++ (rdOf ByteArray.empty t154 (wrap64 (bt141.2.1 - 1)))) ++ (⟨#[32]⟩ : ByteArray)) ++ t158) ++ (⟨#[32]⟩ : ByteArray)).size + t159.size ≤ 9223372036854775807 then (if ((((((((((rdOf ByteArray.empty t148 t151).extract 0 3) ++ (⟨#[44, 32]⟩ : ByteArray)) ++ t153) ++ (⟨#[32]⟩ : ByteArray)) ++ (rdOf ByteArray.empty t154 (wrap64 (bt141.2.1 - 1)))) ++ (⟨#[32]⟩ : ByteArray)) ++ t158) ++ (⟨#[32]⟩ : ByteArray)) ++ t159).size + 4 ≤ 9223372036854775807 then (some (((((((((((rdOf ByteArray.empty t148 t151).extract 0 3) ++ (⟨#[44, 32]⟩ : ByteArray)) ++ t153) ++ (⟨#[32]⟩ : ByteArray)) ++ (rdOf ByteArray.empty t154 (wrap64 (bt141.2.1 - 1)))) ++ (⟨#[32]⟩ : ByteArray)) ++ t158) ++ (⟨#[32]⟩ : ByteArray)) ++ t159) ++ (⟨#[32, 71, 77, 84]⟩ : ByteArray))) else (none)) else (none))) else (none)) else (none))) else (none)) else (none)) else (none)) else (none))) else (none)) else (none))) else (none)) else (none)) else (none)) else (none)) else (none))))) else (some (⟨#[]⟩ : ByteArray)))) = some r := h
 clear h
 replace H := Option.bind_eq_some_iff.mp H
 obtain ⟨t140, A20, H⟩ := H
 replace H : (if t140 = true then ((impl_civilOf.f a0).bind fun bt141 => ((impl_days.f).bind fun t148 => ((impl_Weekday.f a0).bind fun t151 => (if 0 ≤ t151 then (if t151 < (t148.length : Int) then (if 0 ≤ 3 then (if 3 ≤ ((rdOf ByteArray.empty t148 t151).size : Int) then (if ((rdOf ByteArray.empty t148 t151).extract 0 3).size + 2 ≤ 9223372036854775807 then ((impl_digits.f bt141.2.2.1 2).bind fun t153 => (if (((rdOf ByteArray.empty t148 t151).extract 0 3) ++ (⟨#[44, 32]⟩ : ByteArray)).size + t153.size ≤ 9223372036854775807 then (if ((((rdOf ByteArray.empty t148 t151).extract 0 3) ++ (⟨#[44, 32]⟩ : ByteArray)) ++ t153).size + 1 ≤ 9223372036854775807 then ((impl_months.f).bind fun t154 => (if 0 ≤ (wrap64 (bt141.2.1 - 1)) then (if (wrap64 (bt141.2.1 - 1)) < (t154.length : Int) then (if (((((rdOf ByteArray.empty t148 t151).extract 0 3) ++ (⟨#[44, 32]⟩ : ByteArray)) ++ t153) ++ (⟨#[32]⟩ : ByteArray)).size + (rdOf ByteArray.empty t154 (wrap64 (bt141.2.1 - 1))).size ≤ 9223372036854775807 then (if ((((((rdOf ByteArray.empty t148 t151).extract 0 3) ++ (⟨#[44, 32]⟩ : ByteArray)) ++ t153) ++ (⟨#[32]⟩ : ByteArray)) ++ (rdOf ByteArray.empty t154 (wrap64 (bt141.2.1 - 1)))).size + 1 ≤ 9223372036854775807 then ((impl_digits.f bt141.1 4).bind fun t158 => (if (((((((rdOf ByteArray.empty t148 t151).extract 0 3) ++ (⟨#[44, 32]⟩ : ByteArray)) ++ t153) ++ (⟨#[32]⟩ : ByteArray)) ++ (rdOf ByteArray.empty t154 (wrap64 (bt141.2.1 - 1)))) ++ (⟨#[32]⟩ : ByteArray)).size + t158.size ≤ 9223372036854775807 then (if ((((((((rdOf ByteArray.empty t148 t151).extract 0 3) ++ (⟨#[44, 32]⟩ : ByteArray)) ++ t153) ++ (⟨#[32]⟩ : ByteArray)) ++ (rdOf ByteArray.empty t154 (wrap64 (bt141.2.1 - 1)))) ++ (⟨#[32]⟩ : ByteArray)) ++ t158).size + 1 ≤ 9223372036854775807 then ((impl_clock.f bt141.1 bt141.2.1 bt141.2.2.1 bt141.2.2.2.1 bt141.2.2.2.2.1 bt141.2.2.2.2.2).bind fun t159 => (if (((((((((rdOf ByteArray.empty t148 t151).extract 0 3) ++ (⟨#[44, 32]⟩ : ByteArray)) ++ t153) ++ (⟨#[32]⟩ : ByteArray)) ++ (rdOf ByteArray.empty t154 (wrap64 (bt141.2.1 - 1)))) ++ (⟨#[32]⟩ : ByteArray)) ++ t158) ++ (⟨#[32]⟩ : ByteArray)).size + t159.size ≤ 9223372036854775807 then (if ((((((((((rdOf ByteArray.empty t148 t151).extract 0 3) ++ (⟨#[44, 32]⟩ : ByteArray)) ++ t153) ++ (⟨#[32]⟩ : ByteArray)) ++ (rdOf ByteArray.empty t154 (wrap64 (bt141.2.1 - 1)))) ++ (⟨#[32]⟩ : ByteArray)) ++ t158) ++ (⟨#[32]⟩ : ByteArray)) ++ t159).size + 4 ≤ 9223372036854775807 then (some (((((((((((rdOf ByteArray.empty t148 t151).extract 0 3) ++ (⟨#[44, 32]⟩ : ByteArray)) ++ t153) ++ (⟨#[32]⟩ : ByteArray)) ++ (rdOf ByteArray.empty t154 (wrap64 (bt141.2.1 - 1)))) ++ (⟨#[32]⟩ : ByteArray)) ++ t158) ++ (⟨#[32]⟩ : ByteArray)) ++ t159) ++ (⟨#[32, 71, 77, 84]⟩ : ByteArray))) else (none)) else (none))) else (none)) else (none))) else (none)) else (none)) else (none)) else (none))) else (none)) else (none))) else (none)) else (none)) else (none)) else (none)) else (none))))) else (some (⟨#[]⟩ : ByteArray))) = some r := H
 have A2 := Aside0.mk A20
 clear A20
 by_cases c3 : t140 = true
 ·
  subst c3
  have H1 : ((impl_civilOf.f a0).bind fun bt141 => ((impl_days.f).bind fun t148 => ((impl_Weekday.f a0).bind fun t151 => (if 0 ≤ t151 then (if t151 < (t148.length : Int) then (if 0 ≤ 3 then (if 3 ≤ ((rdOf ByteArray.empty t148 t151).size : Int) then (if ((rdOf ByteArray.empty t148 t151).extract 0 3).size + 2 ≤ 9223372036854775807 then ((impl_digits.f bt141.2.2.1 2).bind fun t153 => (if (((rdOf ByteArray.empty t148 t151).extract 0 3) ++ (⟨#[44, 32]⟩ : ByteArray)).size + t153.size ≤ 9223372036854775807 then (if ((((rdOf ByteArray.empty t148 t151).extract 0 3) ++ (⟨#[44, 32]⟩ : ByteArray)) ++ t153).size + 1 ≤ 9223372036854775807 then ((impl_months.f).bind fun t154 => (if 0 ≤ (wrap64 (bt141.2.1 - 1)) then (if (wrap64 (bt141.2.1 - 1)) < (t154.length : Int) then (if (((((rdOf ByteArray.empty t148 t151).extract 0 3) ++ (⟨#[44, 32]⟩ : ByteArray)) ++ t153) ++ (⟨#[32]⟩ : ByteArray)).size + (rdOf ByteArray.empty t154 (wrap64 (bt141.2.1 - 1))).size ≤ 9223372036854775807 then (if ((((((rdOf ByteArray.empty t148 t151).extract 0 3) ++ (⟨#[44, 32]⟩ : ByteArray)) ++ t153) ++ (⟨#[32]⟩ : ByteArray)) ++ (rdOf ByteArray.empty t154 (wrap64 (bt141.2.1 - 1)))).size + 1 ≤ 9223372036854775807 then ((impl_digits.f bt141.1 4).bind fun t158 => (if (((((((rdOf ByteArray.empty t148 t151).extract 0 3) ++ (⟨#[44, 32]⟩ : ByteArray)) ++ t153) ++ (⟨#[32]⟩ : ByteArray)) ++ (rdOf ByteArray.empty t154 (wrap64 (bt141.2.1 - 1)))) ++ (⟨#[32]⟩ : ByteArray)).size + t158.size ≤ 9223372036854775807 then (if ((((((((rdOf ByteArray.empty t148 t151).extract 0 3) ++ (⟨#[44, 32]⟩ : ByteArray)) ++ t153) ++ (⟨#[32]⟩ : ByteArray)) ++ (rdOf ByteArray.empty t154 (wrap64 (bt141.2.1 - 1)))) ++ (⟨#[32]⟩ : ByteArray)) ++ t158).size + 1 ≤ 9223372036854775807 then ((impl_clock.f bt141.1 bt141.2.1 bt141.2.2.1 bt141.2.2.2.1 bt141.2.2.2.2.1 bt141.2.2.2.2.2).bind fun t159 => (if (((((((((rdOf ByteArray.empty t148 t151).extract 0 3) ++ (⟨#[44, 32]⟩ : ByteArray)) ++ t153) ++ (⟨#[32]⟩ : ByteArray)) ++ (rdOf ByteArray.empty t154 (wrap64 (bt141.2.1 - 1)))) ++ (⟨#[32]⟩ : ByteArray)) ++ t158) ++ (⟨#[32]⟩ : ByteArray)).size + t159.size ≤ 9223372036854775807 then (if ((((((((((rdOf ByteArray.empty t148 t151).extract 0 3) ++ (⟨#[44, 32]⟩ : ByteArray)) ++ t153) ++ (⟨#[32]⟩ : ByteArray)) ++ (rdOf ByteArray.empty t154 (wrap64 (bt141.2.1 - 1)))) ++ (⟨#[32]⟩ : ByteArray)) ++ t158) ++ (⟨#[32]⟩ : ByteArray)) ++ t159).size + 4 ≤ 9223372036854775807 then (some (((((((((((rdOf ByteArray.empty t148 t151).extract 0 3) ++ (⟨#[44, 32]⟩ : ByteArray)) ++ t153) ++ (⟨#[32]⟩ : ByteArray)) ++ (rdOf ByteArray.empty t154 (wrap64 (bt141.2.1 - 1)))) ++ (⟨#[32]⟩ : ByteArray)) ++ t158) ++ (⟨#[32]⟩ : ByteArray)) ++ t159) ++ (⟨#[32, 71, 77, 84]⟩ : ByteArray))) else (none)) else (none))) else (none)) else (none))) else (none)) else (none)) else (none)) else (none))) else (none)) else (none))) else (none)) else (none)) else (none)) else (none)) else (none))))) = some r := by rw [if_pos rfl] at H; exact H
  clear H
  have H := H1
  clear H1
  replace H := Option.bind_eq_some_iff.mp H
  obtain ⟨⟨t141, t142, t143, t144, t145, t146⟩, A40, H⟩ := H
  replace H : ((impl_days.f).bind fun t148 => ((impl_Weekday.f a0).bind fun t151 => (if 0 ≤ t151 then (if t151 < (t148.length : Int) then (if 0 ≤ 3 then (if 3 ≤ ((rdOf ByteArray.empty t148 t151).size : Int) then (if ((rdOf ByteArray.empty t148 t151).extract 0 3).size + 2 ≤ 9223372036854775807 then ((impl_digits.f t143 2).bind fun t153 => (if (((rdOf ByteArray.empty t148 t151).extract 0 3) ++ (⟨#[44, 32]⟩ : ByteArray)).size + t153.size ≤ 9223372036854775807 then (if ((((rdOf ByteArray.empty t148 t151).extract 0 3) ++ (⟨#[44, 32]⟩ : ByteArray)) ++ t153).size + 1 ≤ 9223372036854775807 then ((impl_months.f).bind fun t154 => (if 0 ≤ (wrap64 (t142 - 1)) then (if (wrap64 (t142 - 1)) < (t154.length : Int) then (if (((((rdOf ByteArray.empty t148 t151).extract 0 3) ++ (⟨#[44, 32]⟩ : ByteArray)) ++ t153) ++ (⟨#[32]⟩ : ByteArray)).size + (rdOf ByteArray.empty t154 (wrap64 (t142 - 1))).size ≤ 9223372036854775807 then (if ((((((rdOf ByteArray.empty t148 t151).extract 0 3) ++ (⟨#[44, 32]⟩ : ByteArray)) ++ t153) ++ (⟨#[32]⟩ : ByteArray)) ++ (rdOf ByteArray.empty t154 (wrap64 (t142 - 1)))).size + 1 ≤ 9223372036854775807 then ((impl_digits.f t141 4).bind fun t158 => (if (((((((rdOf ByteArray.empty t148 t151).extract 0 3) ++ (⟨#[44, 32]⟩ : ByteArray)) ++ t153) ++ (⟨#[32]⟩ : ByteArray)) ++ (rdOf ByteArray.empty t154 (wrap64 (t142 - 1)))) ++ (⟨#[32]⟩ : ByteArray)).size + t158.size ≤ 9223372036854775807 then (if ((((((((rdOf ByteArray.empty t148 t151).extract 0 3) ++ (⟨#[44, 32]⟩ : ByteArray)) ++ t153) ++ (⟨#[32]⟩ : ByteArray)) ++ (rdOf ByteArray.empty t154 (wrap64 (t142 - 1)))) ++ (⟨#[32]⟩ : ByteArray)) ++ t158).size + 1 ≤ 9223372036854775807 then ((impl_clock.f t141 t142 t143 t144 t145 t146).bind fun t159 => (if (((((((((rdOf ByteArray.empty t148 t151).extract 0 3) ++ (⟨#[44, 32]⟩ : ByteArray)) ++ t153) ++ (⟨#[32]⟩ : ByteArray)) ++ (rdOf ByteArray.empty t154 (wrap64 (t142 - 1)))) ++ (⟨#[32]⟩ : ByteArray)) ++ t158) ++ (⟨#[32]⟩ : ByteArray)).size + t159.size ≤ 9223372036854775807 then (if ((((((((((rdOf ByteArray.empty t148 t151).extract 0 3) ++ (⟨#[44, 32]⟩ : ByteArray)) ++ t153) ++ (⟨#[32]⟩ : ByteArray)) ++ (rdOf ByteArray.empty t154 (wrap64 (t142 - 1)))) ++ (⟨#[32]⟩ : ByteArray)) ++ t158) ++ (⟨#[32]⟩ : ByteArray)) ++ t159).size + 4 ≤ 9223372036854775807 then (some (((((((((((rdOf ByteArray.empty t148 t151).extract 0 3) ++ (⟨#[44, 32]⟩ : ByteArray)) ++ t153) ++ (⟨#[32]⟩ : ByteArray)) ++ (rdOf ByteArray.empty t154 (wrap64 (t142 - 1)))) ++ (⟨#[32]⟩ : ByteArray)) ++ t158) ++ (⟨#[32]⟩ : ByteArray)) ++ t159) ++ (⟨#[32, 71, 77, 84]⟩ : ByteArray))) else (none)) else (none))) else (none)) else (none))) else (none)) else (none)) else (none)) else (none))) else (none)) else (none))) else (none)) else (none)) else (none)) else (none)) else (none)))) = some r := H
  have A4 := Aside0.mk A40
  clear A40
  replace H := Option.bind_eq_some_iff.mp H
  obtain ⟨t148, A50, H⟩ := H
  replace H : ((impl_Weekday.f a0).bind fun t151 => (if 0 ≤ t151 then (if t151 < (t148.length : Int) then (if 0 ≤ 3 then (if 3 ≤ ((rdOf ByteArray.empty t148 t151).size : Int) then (if ((rdOf ByteArray.empty t148 t151).extract 0 3).size + 2 ≤ 9223372036854775807 then ((impl_digits.f t143 2).bind fun t153 => (if (((rdOf ByteArray.empty t148 t151).extract 0 3) ++ (⟨#[44, 32]⟩ : ByteArray)).size + t153.size ≤ 9223372036854775807 then (if ((((rdOf ByteArray.empty t148 t151).extract 0 3) ++ (⟨#[44, 32]⟩ : ByteArray)) ++ t153).size + 1 ≤ 9223372036854775807 then ((impl_months.f).bind fun t154 => (if 0 ≤ (wrap64 (t142 - 1)) then (if (wrap64 (t142 - 1)) < (t154.length : Int) then (if (((((rdOf ByteArray.empty t148 t151).extract 0 3) ++ (⟨#[44, 32]⟩ : ByteArray)) ++ t153) ++ (⟨#[32]⟩ : ByteArray)).size + (rdOf ByteArray.empty t154 (wrap64 (t142 - 1))).size ≤ 9223372036854775807 then (if ((((((rdOf ByteArray.empty t148 t151).extract 0 3) ++ (⟨#[44, 32]⟩ : ByteArray)) ++ t153) ++ (⟨#[32]⟩ : ByteArray)) ++ (rdOf ByteArray.empty t154 (wrap64 (t142 - 1)))).size + 1 ≤ 9223372036854775807 then ((impl_digits.f t141 4).bind fun t158 => (if (((((((rdOf ByteArray.empty t148 t151).extract 0 3) ++ (⟨#[44, 32]⟩ : ByteArray)) ++ t153) ++ (⟨#[32]⟩ : ByteArray)) ++ (rdOf ByteArray.empty t154 (wrap64 (t142 - 1)))) ++ (⟨#[32]⟩ : ByteArray)).size + t158.size ≤ 9223372036854775807 then (if ((((((((rdOf ByteArray.empty t148 t151).extract 0 3) ++ (⟨#[44, 32]⟩ : ByteArray)) ++ t153) ++ (⟨#[32]⟩ : ByteArray)) ++ (rdOf ByteArray.empty t154 (wrap64 (t142 - 1)))) ++ (⟨#[32]⟩ : ByteArray)) ++ t158).size + 1 ≤ 9223372036854775807 then ((impl_clock.f t141 t142 t143 t144 t145 t146).bind fun t159 => (if (((((((((rdOf ByteArray.empty t148 t151).extract 0 3) ++ (⟨#[44, 32]⟩ : ByteArray)) ++ t153) ++ (⟨#[32]⟩ : ByteArray)) ++ (rdOf ByteArray.empty t154 (wrap64 (t142 - 1)))) ++ (⟨#[32]⟩ : ByteArray)) ++ t158) ++ (⟨#[32]⟩ : ByteArray)).size + t159.size ≤ 9223372036854775807 then (if ((((((((((rdOf ByteArray.empty t148 t151).extract 0 3) ++ (⟨#[44, 32]⟩ : ByteArray)) ++ t153) ++ (⟨#[32]⟩ : ByteArray)) ++ (rdOf ByteArray.empty t154 (wrap64 (t142 - 1)))) ++ (⟨#[32]⟩ : ByteArray)) ++ t158) ++ (⟨#[32]⟩ : ByteArray)) ++ t159).size + 4 ≤ 9223372036854775807 then (some (((((((((((rdOf ByteArray.empty t148 t151).extract 0 3) ++ (⟨#[44, 32]⟩ : ByteArray)) ++ t153) ++ (⟨#[32]⟩ : ByteArray)) ++ (rdOf ByteArray.empty t154 (wrap64 (t142 - 1)))) ++ (⟨#[32]⟩ : ByteArray)) ++ t158) ++ (⟨#[32]⟩ : ByteArray)) ++ t159) ++ (⟨#[32, 71, 77, 84]⟩ : ByteArray))) else (none)) else (none))) else (none)) else (none))) else (none)) else (none)) else (none)) else (none))) else (none)) else (none))) else (none)) else (none)) else (none)) else (none)) else (none))) = some r := H
  have A5 := Aside0.mk A50
  clear A50
  replace H := Option.bind_eq_some_iff.mp H
  obtain ⟨t151, A60, H⟩ := H
  replace H : (if 0 ≤ t151 then (if t151 < (t148.length : Int) then (if 0 ≤ 3 then (if 3 ≤ ((rdOf ByteArray.empty t148 t151).size : Int) then (if ((rdOf ByteArray.empty t148 t151).extract 0 3).size + 2 ≤ 9223372036854775807 then ((impl_digits.f t143 2).bind fun t153 => (if (((rdOf ByteArray.empty t148 t151).extract 0 3) ++ (⟨#[44, 32]⟩ : ByteArray)).size + t153.size ≤ 9223372036854775807 then (if ((((rdOf ByteArray.empty t148 t151).extract 0 3) ++ (⟨#[44, 32]⟩ : ByteArray)) ++ t153).size + 1 ≤ 9223372036854775807 then ((impl_months.f).bind fun t154 => (if 0 ≤ (wrap64 (t142 - 1)) then (if (wrap64 (t142 - 1)) < (t154.length : Int) then (if (((((rdOf ByteArray.empty t148 t151).extract 0 3) ++ (⟨#[44, 32]⟩ : ByteArray)) ++ t153) ++ (⟨#[32]⟩ : ByteArray)).size + (rdOf ByteArray.empty t154 (wrap64 (t142 - 1))).size ≤ 9223372036854775807 then (if ((((((rdOf ByteArray.empty t148 t151).extract 0 3) ++ (⟨#[44, 32]⟩ : ByteArray)) ++ t153) ++ (⟨#[32]⟩ : ByteArray)) ++ (rdOf ByteArray.empty t154 (wrap64 (t142 - 1)))).size + 1 ≤ 9223372036854775807 then ((impl_digits.f t141 4).bind fun t158 => (if (((((((rdOf ByteArray.empty t148 t151).extract 0 3) ++ (⟨#[44, 32]⟩ : ByteArray)) ++ t153) ++ (⟨#[32]⟩ : ByteArray)) ++ (rdOf ByteArray.empty t154 (wrap64 (t142 - 1)))) ++ (⟨#[32]⟩ : ByteArray)).size + t158.size ≤ 9223372036854775807 then (if ((((((((rdOf ByteArray.empty t148 t151).extract 0 3) ++ (⟨#[44, 32]⟩ : ByteArray)) ++ t153) ++ (⟨#[32]⟩ : ByteArray)) ++ (rdOf ByteArray.empty t154 (wrap64 (t142 - 1)))) ++ (⟨#[32]⟩ : ByteArray)) ++ t158).size + 1 ≤ 9223372036854775807 then ((impl_clock.f t141 t142 t143 t144 t145 t146).bind fun t159 => (if (((((((((rdOf ByteArray.empty t148 t151).extract 0 3) ++ (⟨#[44, 32]⟩ : ByteArray)) ++ t153) ++ (⟨#[32]⟩ : ByteArray)) ++ (rdOf ByteArray.empty t154 (wrap64 (t142 - 1)))) ++ (⟨#[32]⟩ : ByteArray)) ++ t158) ++ (⟨#[32]⟩ : ByteArray)).size + t159.size ≤ 9223372036854775807 then (if ((((((((((rdOf ByteArray.empty t148 t151).extract 0 3) ++ (⟨#[44, 32]⟩ : ByteArray)) ++ t153) ++ (⟨#[32]⟩ : ByteArray)) ++ (rdOf ByteArray.empty t154 (wrap64 (t142 - 1)))) ++ (⟨#[32]⟩ : ByteArray)) ++ t158) ++ (⟨#[32]⟩ : ByteArray)) ++ t159).size + 4 ≤ 9223372036854775807 then (some (((((((((((rdOf ByteArray.empty t148 t151).extract 0 3) ++ (⟨#[44, 32]⟩ : ByteArray)) ++ t153) ++ (⟨#[32]⟩ : ByteArray)) ++ (rdOf ByteArray.empty t154 (wrap64 (t142 - 1)))) ++ (⟨#[32]⟩ : ByteArray)) ++ t158) ++ (⟨#[32]⟩ : ByteArray)) ++ t159) ++ (⟨#[32, 71, 77, 84]⟩ : ByteArray))) else (none)) else (none))) else (none)) else (none))) else (none)) else (none)) else (none)) else (none))) else (none)) else (none))) else (none)) else (none)) else (none)) else (none)) else (none)) = some r := H
  have A6 := Aside0.mk A60
  clear A60
  have c7 : 0 ≤ t151 := Classical.byContradiction fun h_ => by rw [if_neg h_] at H; exact absurd H (by simp)
  rw [if_pos c7] at H
  have c7b0 : decide (0 ≤ t151) = true := decide_eq_true c7
  clear c7
  have c8 : t151 < (t148.length : Int) := Classical.byContradiction fun h_ => by rw [if_neg h_] at H; exact absurd H (by simp)
  rw [if_pos c8] at H
  have c8b0 : decide (t151 < (t148.length : Int)) = true := decide_eq_true c8
  clear c8
  have c9 : 0 ≤ 3 := Classical.byContradiction fun h_ => by rw [if_neg h_] at H; exact absurd H (by simp)
  rw [if_pos c9] at H
  have c9b0 := eq_true c9
  have c9b1 : decide (0 ≤ 3) = true := decide_eq_true c9
  clear c9
  have c10 : 3 ≤ ((rdOf ByteArray.empty t148 t151).size : Int) := Classical.byContradiction fun h_ => by rw [if_neg h_] at H; exact absurd H (by simp)
  rw [if_pos c10] at H
  have c10b0 := eq_true c10
  have c10b1 : decide (3 ≤ ((rdOf ByteArray.empty t148 t151).size : Int)) = true := decide_eq_true c10
  clear c10
  have c11 : ((rdOf ByteArray.empty t148 t151).extract 0 3).size + 2 ≤ 9223372036854775807 := Classical.byContradiction fun h_ => by rw [if_neg h_] at H; exact absurd H (by simp)
  rw [if_pos c11] at H
  have c11b0 := eq_true c11
  have c11b1 : decide (((rdOf ByteArray.empty t148 t151).extract 0 3).size + 2 ≤ 9223372036854775807) = true := decide_eq_true c11
  try have c11b2 : (9223372036854775807 < ((rdOf ByteArray.empty t148 t151).extract 0 3).size + 2) = False := eq_false (Nat.not_lt.2 c11)
  (try (have c11v2 : (9223372036854775807 < min 3 (rdOf ByteArray.empty t148 t151).size + 2) = False := eq_false (by have h_ := c11; simp only [ByteArray.size_append, ByteArray.size_extract] at h_; omega)))
  replace H := Option.bind_eq_some_iff.mp H
  obtain ⟨t153, A120, H⟩ := H
  replace H : (if (((rdOf ByteArray.empty t148 t151).extract 0 3) ++ (⟨#[44, 32]⟩ : ByteArray)).size + t153.size ≤ 9223372036854775807 then (if ((((rdOf ByteArray.empty t148 t151).extract 0 3) ++ (⟨#[44, 32]⟩ : ByteArray)) ++ t153).size + 1 ≤ 9223372036854775807 then ((impl_months.f).bind fun t154 => (if 0 ≤ (wrap64 (t142 - 1)) then (if (wrap64 (t142 - 1)) < (t154.length : Int) then (if (((((rdOf ByteArray.empty t148 t151).extract 0 3) ++ (⟨#[44, 32]⟩ : ByteArray)) ++ t153) ++ (⟨#[32]⟩ : ByteArray)).size + (rdOf ByteArray.empty t154 (wrap64 (t142 - 1))).size ≤ 9223372036854775807 then (if ((((((rdOf ByteArray.empty t148 t151).extract 0 3) ++ (⟨#[44, 32]⟩ : ByteArray)) ++ t153) ++ (⟨#[32]⟩ : ByteArray)) ++ (rdOf ByteArray.empty t154 (wrap64 (t142 - 1)))).size + 1 ≤ 9223372036854775807 then ((impl_digits.f t141 4).bind fun t158 => (if (((((((rdOf ByteArray.empty t148 t151).extract 0 3) ++ (⟨#[44, 32]⟩ : ByteArray)) ++ t153) ++ (⟨#[32]⟩ : ByteArray)) ++ (rdOf ByteArray.empty t154 (wrap64 (t142 - 1)))) ++ (⟨#[32]⟩ : ByteArray)).size + t158.size ≤ 9223372036854775807 then (if ((((((((rdOf ByteArray.empty t148 t151).extract 0 3) ++ (⟨#[44, 32]⟩ : ByteArray)) ++ t153) ++ (⟨#[32]⟩ : ByteArray)) ++ (rdOf ByteArray.empty t154 (wrap64 (t142 - 1)))) ++ (⟨#[32]⟩ : ByteArray)) ++ t158).size + 1 ≤ 9223372036854775807 then ((impl_clock.f t141 t142 t143 t144 t145 t146).bind fun t159 => (if (((((((((rdOf ByteArray.empty t148 t151).extract 0 3) ++ (⟨#[44, 32]⟩ : ByteArray)) ++ t153) ++ (⟨#[32]⟩ : ByteArray)) ++ (rdOf ByteArray.empty t154 (wrap64 (t142 - 1)))) ++ (⟨#[32]⟩ : ByteArray)) ++ t158) ++ (⟨#[32]⟩ : ByteArray)).size + t159.size ≤ 9223372036854775807 then (if ((((((((((rdOf ByteArray.empty t148 t151).extract 0 3) ++ (⟨#[44, 32]⟩ : ByteArray)) ++ t153) ++ (⟨#[32]⟩ : ByteArray)) ++ (rdOf ByteArray.empty t154 (wrap64 (t142 - 1)))) ++ (⟨#[32]⟩ : ByteArray)) ++ t158) ++ (⟨#[32]⟩ : ByteArray)) ++ t159).size + 4 ≤ 9223372036854775807 then (some (((((((((((rdOf ByteArray.empty t148 t151).extract 0 3) ++ (⟨#[44, 32]⟩ : ByteArray)) ++ t153) ++ (⟨#[32]⟩ : ByteArray)) ++ (rdOf ByteArray.empty t154 (wrap64 (t142 - 1)))) ++ (⟨#[32]⟩ : ByteArray)) ++ t158) ++ (⟨#[32]⟩ : ByteArray)) ++ t159) ++ (⟨#[32, 71, 77, 84]⟩ : ByteArray))) else (none)) else (none))) else (none)) else (none))) else (none)) else (none)) else (none)) else (none))) else (none)) else (none)) = some r := H
  have A12 := Aside0.mk A120
  clear A120
  have c13 : (((rdOf ByteArray.empty t148 t151).extract 0 3) ++ (⟨#[44, 32]⟩ : ByteArray)).size + t153.size ≤ 9223372036854775807 := Classical.byContradiction fun h_ => by rw [if_neg h_] at H; exact absurd H (by simp)
  rw [if_pos c13] at H
  have c13b0 := eq_true c13
  have c13b1 : decide ((((rdOf ByteArray.empty t148 t151).extract 0 3) ++ (⟨#[44, 32]⟩ : ByteArray)).size + t153.size ≤ 9223372036854775807) = true := decide_eq_true c13
  try have c13b2 : (9223372036854775807 < (((rdOf ByteArray.empty t148 t151).extract 0 3) ++ (⟨#[44, 32]⟩ : ByteArray)).size + t153.size) = False := eq_false (Nat.not_lt.2 c13)
  (try (have c13v2 : (9223372036854775807 < (min 3 (rdOf ByteArray.empty t148 t151).size + 2) + t153.size) = False := eq_false (by have h_ := c13; simp only [ByteArray.size_append, ByteArray.size_extract, show (⟨#[44, 32]⟩ : ByteArray).size = 2 from rfl] at h_; omega)))
  (try (have c13y0 := c13b0; simp only [ByteArray.size_append] at c13y0))
  (try (have c13z0 := c13b0; simp only [ByteArray.size_append, Int.natCast_add] at c13z0))
  (try (have c13y1 := c13b1; simp only [ByteArray.size_append] at c13y1))
  (try (have c13z1 := c13b1; simp only [ByteArray.size_append, Int.natCast_add] at c13z1))
  have c14 : ((((rdOf ByteArray.empty t148 t151).extract 0 3) ++ (⟨#[44, 32]⟩ : ByteArray)) ++ t153).size + 1 ≤ 9223372036854775807 := Classical.byContradiction fun h_ => by rw [if_neg h_] at H; exact absurd H (by simp)
  rw [if_pos c14] at H
  have c14b0 := eq_true c14
  have c14b1 : decide (((((rdOf ByteArray.empty t148 t151).extract 0 3) ++ (⟨#[44, 32]⟩ : ByteArray)) ++ t153).size + 1 ≤ 9223372036854775807) = true := decide_eq_true c14
  try have c14b2 : (9223372036854775807 < ((((rdOf ByteArray.empty t148 t151).extract 0 3) ++ (⟨#[44, 32]⟩ : ByteArray)) ++ t153).size + 1) = False := eq_false (Nat.not_lt.2 c14)
  (try (have c14v2 : (9223372036854775807 < ((min 3 (rdOf ByteArray.empty t148 t151).size + 2) + t153.size) + 1) = False := eq_false (by have h_ := c14; simp only [ByteArray.size_append, ByteArray.size_extract, show (⟨#[44, 32]⟩ : ByteArray).size = 2 from rfl] at h_; omega)))
  (try (have c14y0 := c14b0; simp only [ByteArray.size_append] at c14y0))
  (try (have c14z0 := c14b0; simp only [ByteArray.size_append, Int.natCast_add] at c14z0))
  (try (have c14y1 := c14b1; simp only [ByteArray.size_append] at c14y1))
  (try (have c14z1 := c14b1; simp only [ByteArray.size_append, Int.natCast_add] at c14z1))
  replace H := Option.bind_eq_some_iff.mp H
  obtain ⟨t154, A150, H⟩ := H
  replace H : (if 0 ≤ (wrap64 (t142 - 1)) then (if (wrap64 (t142 - 1)) < (t154.length : Int) then (if (((((rdOf ByteArray.empty t148 t151).extract 0 3) ++ (⟨#[44, 32]⟩ : ByteArray)) ++ t153) ++ (⟨#[32]⟩ : ByteArray)).size + (rdOf ByteArray.empty t154 (wrap64 (t142 - 1))).size ≤ 9223372036854775807 then (if ((((((rdOf ByteArray.empty t148 t151).extract 0 3) ++ (⟨#[44, 32]⟩ : ByteArray)) ++ t153) ++ (⟨#[32]⟩ : ByteArray)) ++ (rdOf ByteArray.empty t154 (wrap64 (t142 - 1)))).size + 1 ≤ 9223372036854775807 then ((impl_digits.f t141 4).bind fun t158 => (if (((((((rdOf ByteArray.empty t148 t151).extract 0 3) ++ (⟨#[44, 32]⟩ : ByteArray)) ++ t153) ++ (⟨#[32]⟩ : ByteArray)) ++ (rdOf ByteArray.empty t154 (wrap64 (t142 - 1)))) ++ (⟨#[32]⟩ : ByteArray)).size + t158.size ≤ 9223372036854775807 then (if ((((((((rdOf ByteArray.empty t148 t151).extract 0 3) ++ (⟨#[44, 32]⟩ : ByteArray)) ++ t153) ++ (⟨#[32]⟩ : ByteArray)) ++ (rdOf ByteArray.empty t154 (wrap64 (t142 - 1)))) ++ (⟨#[32]⟩ : ByteArray)) ++ t158).size + 1 ≤ 9223372036854775807 then ((impl_clock.f t141 t142 t143 t144 t145 t146).bind fun t159 => (if (((((((((rdOf ByteArray.empty t148 t151).extract 0 3) ++ (⟨#[44, 32]⟩ : ByteArray)) ++ t153) ++ (⟨#[32]⟩ : ByteArray)) ++ (rdOf ByteArray.empty t154 (wrap64 (t142 - 1)))) ++ (⟨#[32]⟩ : ByteArray)) ++ t158) ++ (⟨#[32]⟩ : ByteArray)).size + t159.size ≤ 9223372036854775807 then (if ((((((((((rdOf ByteArray.empty t148 t151).extract 0 3) ++ (⟨#[44, 32]⟩ : ByteArray)) ++ t153) ++ (⟨#[32]⟩ : ByteArray)) ++ (rdOf ByteArray.empty t154 (wrap64 (t142 - 1)))) ++ (⟨#[32]⟩ : ByteArray)) ++ t158) ++ (⟨#[32]⟩ : ByteArray)) ++ t159).size + 4 ≤ 9223372036854775807 then (some (((((((((((rdOf ByteArray.empty t148 t151).extract 0 3) ++ (⟨#[44, 32]⟩ : ByteArray)) ++ t153) ++ (⟨#[32]⟩ : ByteArray)) ++ (rdOf ByteArray.empty t154 (wrap64 (t142 - 1)))) ++ (⟨#[32]⟩ : ByteArray)) ++ t158) ++ (⟨#[32]⟩ : ByteArray)) ++ t159) ++ (⟨#[32, 71, 77, 84]⟩ : ByteArray))) else (none)) else (none))) else (none)) else (none))) else (none)) else (none)) else (none)) else (none)) = some r := H
  have A15 := Aside0.mk A150
  clear A150
  obtain ⟨ji16, hji16⟩ : ∃ j_ : Int, (wrap64 (t142 - 1)) = j_ := ⟨_, rfl⟩
  replace H : (if 0 ≤ (ji16) then (if (ji16) < (t154.length : Int) then (if (((((rdOf ByteArray.empty t148 t151).extract 0 3) ++ (⟨#[44, 32]⟩ : ByteArray)) ++ t153) ++ (⟨#[32]⟩ : ByteArray)).size + (rdOf ByteArray.empty t154 (ji16)).size ≤ 9223372036854775807 then (if ((((((rdOf ByteArray.empty t148 t151).extract 0 3) ++ (⟨#[44, 32]⟩ : ByteArray)) ++ t153) ++ (⟨#[32]⟩ : ByteArray)) ++ (rdOf ByteArray.empty t154 (ji16))).size + 1 ≤ 9223372036854775807 then ((impl_digits.f t141 4).bind fun t158 => (if (((((((rdOf ByteArray.empty t148 t151).extract 0 3) ++ (⟨#[44, 32]⟩ : ByteArray)) ++ t153) ++ (⟨#[32]⟩ : ByteArray)) ++ (rdOf ByteArray.empty t154 (ji16))) ++ (⟨#[32]⟩ : ByteArray)).size + t158.size ≤ 9223372036854775807 then (if ((((((((rdOf ByteArray.empty t148 t151).extract 0 3) ++ (⟨#[44, 32]⟩ : ByteArray)) ++ t153) ++ (⟨#[32]⟩ : ByteArray)) ++ (rdOf ByteArray.empty t154 (ji16))) ++ (⟨#[32]⟩ : ByteArray)) ++ t158).size + 1 ≤ 9223372036854775807 then ((impl_clock.f t141 t142 t143 t144 t145 t146).bind fun t159 => (if (((((((((rdOf ByteArray.empty t148 t151).extract 0 3) ++ (⟨#[44, 32]⟩ : ByteArray)) ++ t153) ++ (⟨#[32]⟩ : ByteArray)) ++ (rdOf ByteArray.empty t154 (ji16))) ++ (⟨#[32]⟩ : ByteArray)) ++ t158) ++ (⟨#[32]⟩ : ByteArray)).size + t159.size ≤ 9223372036854775807 then (if ((((((((((rdOf ByteArray.empty t148 t151).extract 0 3) ++ (⟨#[44, 32]⟩ : ByteArray)) ++ t153) ++ (⟨#[32]⟩ : ByteArray)) ++ (rdOf ByteArray.empty t154 (ji16))) ++ (⟨#[32]⟩ : ByteArray)) ++ t158) ++ (⟨#[32]⟩ : ByteArray)) ++ t159).size + 4 ≤ 9223372036854775807 then (some (((((((((((rdOf ByteArray.empty t148 t151).extract 0 3) ++ (⟨#[44, 32]⟩ : ByteArray)) ++ t153) ++ (⟨#[32]⟩ : ByteArray)) ++ (rdOf ByteArray.empty t154 (ji16))) ++ (⟨#[32]⟩ : ByteArray)) ++ t158) ++ (⟨#[32]⟩ : ByteArray)) ++ t159) ++ (⟨#[32, 71, 77, 84]⟩ : ByteArray))) else (none)) else (none))) else (none)) else (none))) else (none)) else (none)) else (none)) else (none)) = some r := by first | (rw [hji16] at H; exact H) | (simp only [hji16] at H ⊢; exact H)
  (try rw [hji16] at A2)
  (try rw [hji16] at A4)
  (try rw [hji16] at A5)
  (try rw [hji16] at A6)
  (try rw [hji16] at A12)
  (try rw [hji16] at A15)
  have hji16w : (IntKind.i64.wrap (t142 - 1)) = ji16 := (i64_w _).trans hji16
  have c17 : 0 ≤ (ji16) := Classical.byContradiction fun h_ => by rw [if_neg h_] at H; exact absurd H (by simp)
  rw [if_pos c17] at H
  have c17b0 : decide (0 ≤ (ji16)) = true := decide_eq_true c17
  clear c17
  have c18 : (ji16) < (t154.length : Int) := Classical.byContradiction fun h_ => by rw [if_neg h_] at H; exact absurd H (by simp)
  rw [if_pos c18] at H
  have c18b0 : decide ((ji16) < (t154.length : Int)) = true := decide_eq_true c18
  clear c18
  have c19 : (((((rdOf ByteArray.empty t148 t151).extract 0 3) ++ (⟨#[44, 32]⟩ : ByteArray)) ++ t153) ++ (⟨#[32]⟩ : ByteArray)).size + (rdOf ByteArray.empty t154 (ji16)).size ≤ 9223372036854775807 := Classical.byContradiction fun h_ => by rw [if_neg h_] at H; exact absurd H (by simp)
  rw [if_pos c19] at H
  have c19b0 := eq_true c19
  have c19b1 : decide ((((((rdOf ByteArray.empty t148 t151).extract 0 3) ++ (⟨#[44, 32]⟩ : ByteArray)) ++ t153) ++ (⟨#[32]⟩ : ByteArray)).size + (rdOf ByteArray.empty t154 (ji16)).size ≤ 9223372036854775807) = true := decide_eq_true c19
  try have c19b2 : (9223372036854775807 < (((((rdOf ByteArray.empty t148 t151).extract 0 3) ++ (⟨#[44, 32]⟩ : ByteArray)) ++ t153) ++ (⟨#[32]⟩ : ByteArray)).size + (rdOf ByteArray.empty t154 (ji16)).size) = False := eq_false (Nat.not_lt.2 c19)
  (try (have c19v2 : (9223372036854775807 < (((min 3 (rdOf ByteArray.empty t148 t151).size + 2) + t153.size) + 1) + (rdOf ByteArray.empty t154 (ji16)).size) = False := eq_false (by have h_ := c19; simp only [ByteArray.size_append, ByteArray.size_extract, show (⟨#[32]⟩ : ByteArray).size = 1 from rfl, show (⟨#[44, 32]⟩ : ByteArray).size = 2 from rfl] at h_; omega)))
  (try (have c19y0 := c19b0; simp only [ByteArray.size_append] at c19y0))
  (try (have c19z0 := c19b0; simp only [ByteArray.size_append, Int.natCast_add] at c19z0))
  (try (have c19y1 := c19b1; simp only [ByteArray.size_append] at c19y1))
  (try (have c19z1 := c19b1; simp only [ByteArray.size_append, Int.natCast_add] at c19z1))
  have c20 : ((((((rdOf ByteArray.empty t148 t151).extract 0 3) ++ (⟨#[44, 32]⟩ : ByteArray)) ++ t153) ++ (⟨#[32]⟩ : ByteArray)) ++ (rdOf ByteArray.empty t154 (ji16))).size + 1 ≤ 9223372036854775807 := Classical.byContradiction fun h_ => by rw [if_neg h_] at H; exact absurd H (by simp)
  rw [if_pos c20] at H
  have c20b0 := eq_true c20
  have c20b1 : decide (((((((rdOf ByteArray.empty t148 t151).extract 0 3) ++ (⟨#[44, 32]⟩ : ByteArray)) ++ t153) ++ (⟨#[32]⟩ : ByteArray)) ++ (rdOf ByteArray.empty t154 (ji16))).size + 1 ≤ 9223372036854775807) = true := decide_eq_true c20
  try have c20b2 : (9223372036854775807 < ((((((rdOf ByteArray.empty t148 t151).extract 0 3) ++ (⟨#[44, 32]⟩ : ByteArray)) ++ t153) ++ (⟨#[32]⟩ : ByteArray)) ++ (rdOf ByteArray.empty t154 (ji16))).size + 1) = False := eq_false (Nat.not_lt.2 c20)
  (try (have c20v2 : (9223372036854775807 < ((((min 3 (rdOf ByteArray.empty t148 t151).size + 2) + t153.size) + 1) + (rdOf ByteArray.empty t154 (ji16)).size) + 1) = False := eq_false (by have h_ := c20; simp only [ByteArray.size_append, ByteArray.size_extract, show (⟨#[32]⟩ : ByteArray).size = 1 from rfl, show (⟨#[44, 32]⟩ : ByteArray).size = 2 from rfl] at h_; omega)))
  (try (have c20y0 := c20b0; simp only [ByteArray.size_append] at c20y0))
  (try (have c20z0 := c20b0; simp only [ByteArray.size_append, Int.natCast_add] at c20z0))
  (try (have c20y1 := c20b1; simp only [ByteArray.size_append] at c20y1))
  (try (have c20z1 := c20b1; simp only [ByteArray.size_append, Int.natCast_add] at c20z1))
  replace H := Option.bind_eq_some_iff.mp H
  obtain ⟨t158, A210, H⟩ := H
  replace H : (if (((((((rdOf ByteArray.empty t148 t151).extract 0 3) ++ (⟨#[44, 32]⟩ : ByteArray)) ++ t153) ++ (⟨#[32]⟩ : ByteArray)) ++ (rdOf ByteArray.empty t154 (ji16))) ++ (⟨#[32]⟩ : ByteArray)).size + t158.size ≤ 9223372036854775807 then (if ((((((((rdOf ByteArray.empty t148 t151).extract 0 3) ++ (⟨#[44, 32]⟩ : ByteArray)) ++ t153) ++ (⟨#[32]⟩ : ByteArray)) ++ (rdOf ByteArray.empty t154 (ji16))) ++ (⟨#[32]⟩ : ByteArray)) ++ t158).size + 1 ≤ 9223372036854775807 then ((impl_clock.f t141 t142 t143 t144 t145 t146).bind fun t159 => (if (((((((((rdOf ByteArray.empty t148 t151).extract 0 3) ++ (⟨#[44, 32]⟩ : ByteArray)) ++ t153) ++ (⟨#[32]⟩ : ByteArray)) ++ (rdOf ByteArray.empty t154 (ji16))) ++ (⟨#[32]⟩ : ByteArray)) ++ t158) ++ (⟨#[32]⟩ : ByteArray)).size + t159.size ≤ 9223372036854775807 then (if ((((((((((rdOf ByteArray.empty t148 t151).extract 0 3) ++ (⟨#[44, 32]⟩ : ByteArray)) ++ t153) ++ (⟨#[32]⟩ : ByteArray)) ++ (rdOf ByteArray.empty t154 (ji16))) ++ (⟨#[32]⟩ : ByteArray)) ++ t158) ++ (⟨#[32]⟩ : ByteArray)) ++ t159).size + 4 ≤ 9223372036854775807 then (some (((((((((((rdOf ByteArray.empty t148 t151).extract 0 3) ++ (⟨#[44, 32]⟩ : ByteArray)) ++ t153) ++ (⟨#[32]⟩ : ByteArray)) ++ (rdOf ByteArray.empty t154 (ji16))) ++ (⟨#[32]⟩ : ByteArray)) ++ t158) ++ (⟨#[32]⟩ : ByteArray)) ++ t159) ++ (⟨#[32, 71, 77, 84]⟩ : ByteArray))) else (none)) else (none))) else (none)) else (none)) = some r := H
  have A21 := Aside0.mk A210
  clear A210
  have c22 : (((((((rdOf ByteArray.empty t148 t151).extract 0 3) ++ (⟨#[44, 32]⟩ : ByteArray)) ++ t153) ++ (⟨#[32]⟩ : ByteArray)) ++ (rdOf ByteArray.empty t154 (ji16))) ++ (⟨#[32]⟩ : ByteArray)).size + t158.size ≤ 9223372036854775807 := Classical.byContradiction fun h_ => by rw [if_neg h_] at H; exact absurd H (by simp)
  rw [if_pos c22] at H
  have c22b0 := eq_true c22
  have c22b1 : decide ((((((((rdOf ByteArray.empty t148 t151).extract 0 3) ++ (⟨#[44, 32]⟩ : ByteArray)) ++ t153) ++ (⟨#[32]⟩ : ByteArray)) ++ (rdOf ByteArray.empty t154 (ji16))) ++ (⟨#[32]⟩ : ByteArray)).size + t158.size ≤ 9223372036854775807) = true := decide_eq_true c22
  try have c22b2 : (9223372036854775807 < (((((((rdOf ByteArray.empty t148 t151).extract 0 3) ++ (⟨#[44, 32]⟩ : ByteArray)) ++ t153) ++ (⟨#[32]⟩ : ByteArray)) ++ (rdOf ByteArray.empty t154 (ji16))) ++ (⟨#[32]⟩ : ByteArray)).size + t158.size) = False := eq_false (Nat.not_lt.2 c22)
  (try (have c22v2 : (9223372036854775807 < (((((min 3 (rdOf ByteArray.empty t148 t151).size + 2) + t153.size) + 1) + (rdOf ByteArray.empty t154 (ji16)).size) + 1) + t158.size) = False := eq_false (by have h_ := c22; simp only [ByteArray.size_append, ByteArray.size_extract, show (⟨#[32]⟩ : ByteArray).size = 1 from rfl, show (⟨#[44, 32]⟩ : ByteArray).size = 2 from rfl] at h_; omega)))
  (try (have c22y0 := c22b0; simp only [ByteArray.size_append] at c22y0))
  (try (have c22z0 := c22b0; simp only [ByteArray.size_append, Int.natCast_add] at c22z0))
  (try (have c22y1 := c22b1; simp only [ByteArray.size_append] at c22y1))
  (try (have c22z1 := c22b1; simp only [ByteArray.size_append, Int.natCast_add] at c22z1))
  have c23 : ((((((((rdOf ByteArray.empty t148 t151).extract 0 3) ++ (⟨#[44, 32]⟩ : ByteArray)) ++ t153) ++ (⟨#[32]⟩ : ByteArray)) ++ (rdOf ByteArray.empty t154 (ji16))) ++ (⟨#[32]⟩ : ByteArray)) ++ t158).size + 1 ≤ 9223372036854775807 := Classical.byContradiction fun h_ => by rw [if_neg h_] at H; exact absurd H (by simp)
  rw [if_pos c23] at H
  have c23b0 := eq_true c23
  have c23b1 : decide (((((((((rdOf ByteArray.empty t148 t151).extract 0 3) ++ (⟨#[44, 32]⟩ : ByteArray)) ++ t153) ++ (⟨#[32]⟩ : ByteArray)) ++ (rdOf ByteArray.empty t154 (ji16))) ++ (⟨#[32]⟩ : ByteArray)) ++ t158).size + 1 ≤ 9223372036854775807) = true := decide_eq_true c23
  try have c23b2 : (9223372036854775807 < ((((((((rdOf ByteArray.empty t148 t151).extract 0 3) ++ (⟨#[44, 32]⟩ : ByteArray)) ++ t153) ++ (⟨#[32]⟩ : ByteArray)) ++ (rdOf ByteArray.empty t154 (ji16))) ++ (⟨#[32]⟩ : ByteArray)) ++ t158).size + 1) = False := eq_false (Nat.not_lt.2 c23)
  (try (have c23v2 : (9223372036854775807 < ((((((min 3 (rdOf ByteArray.empty t148 t151).size + 2) + t153.size) + 1) + (rdOf ByteArray.empty t154 (ji16)).size) + 1) + t158.size) + 1) = False := eq_false (by have h_ := c23; simp only [ByteArray.size_append, ByteArray.size_extract, show (⟨#[32]⟩ : ByteArray).size = 1 from rfl, show (⟨#[44, 32]⟩ : ByteArray).size = 2 from rfl] at h_; omega)))
  (try (have c23y0 := c23b0; simp only [ByteArray.size_append] at c23y0))
  (try (have c23z0 := c23b0; simp only [ByteArray.size_append, Int.natCast_add] at c23z0))
  (try (have c23y1 := c23b1; simp only [ByteArray.size_append] at c23y1))
  (try (have c23z1 := c23b1; simp only [ByteArray.size_append, Int.natCast_add] at c23z1))
  replace H := Option.bind_eq_some_iff.mp H
  obtain ⟨t159, A240, H⟩ := H
  replace H : (if (((((((((rdOf ByteArray.empty t148 t151).extract 0 3) ++ (⟨#[44, 32]⟩ : ByteArray)) ++ t153) ++ (⟨#[32]⟩ : ByteArray)) ++ (rdOf ByteArray.empty t154 (ji16))) ++ (⟨#[32]⟩ : ByteArray)) ++ t158) ++ (⟨#[32]⟩ : ByteArray)).size + t159.size ≤ 9223372036854775807 then (if ((((((((((rdOf ByteArray.empty t148 t151).extract 0 3) ++ (⟨#[44, 32]⟩ : ByteArray)) ++ t153) ++ (⟨#[32]⟩ : ByteArray)) ++ (rdOf ByteArray.empty t154 (ji16))) ++ (⟨#[32]⟩ : ByteArray)) ++ t158) ++ (⟨#[32]⟩ : ByteArray)) ++ t159).size + 4 ≤ 9223372036854775807 then (some (((((((((((rdOf ByteArray.empty t148 t151).extract 0 3) ++ (⟨#[44, 32]⟩ : ByteArray)) ++ t153) ++ (⟨#[32]⟩ : ByteArray)) ++ (rdOf ByteArray.empty t154 (ji16))) ++ (⟨#[32]⟩ : ByteArray)) ++ t158) ++ (⟨#[32]⟩ : ByteArray)) ++ t159) ++ (⟨#[32, 71, 77, 84]⟩ : ByteArray))) else (none)) else (none)) = some r := H
  have A24 := Aside0.mk A240
  clear A240
  have c25 : (((((((((rdOf ByteArray.empty t148 t151).extract 0 3) ++ (⟨#[44, 32]⟩ : ByteArray)) ++ t153) ++ (⟨#[32]⟩ : ByteArray)) ++ (rdOf ByteArray.empty t154 (ji16))) ++ (⟨#[32]⟩ : ByteArray)) ++ t158) ++ (⟨#[32]⟩ : ByteArray)).size + t159.size ≤ 9223372036854775807 := Classical.byContradiction fun h_ => by rw [if_neg h_] at H; exact absurd H (by simp)
  rw [if_pos c25] at H
  have c25b0 := eq_true c25
  have c25b1 : decide ((((((((((rdOf ByteArray.empty t148 t151).extract 0 3) ++ (⟨#[44, 32]⟩ : ByteArray)) ++ t153) ++ (⟨#[32]⟩ : ByteArray)) ++ (rdOf ByteArray.empty t154 (ji16))) ++ (⟨#[32]⟩ : ByteArray)) ++ t158) ++ (⟨#[32]⟩ : ByteArray)).size + t159.size ≤ 9223372036854775807) = true := decide_eq_true c25
  try have c25b2 : (9223372036854775807 < (((((((((rdOf ByteArray.empty t148 t151).extract 0 3) ++ (⟨#[44, 32]⟩ : ByteArray)) ++ t153) ++ (⟨#[32]⟩ : ByteArray)) ++ (rdOf ByteArray.empty t154 (ji16))) ++ (⟨#[32]⟩ : ByteArray)) ++ t158) ++ (⟨#[32]⟩ : ByteArray)).size + t159.size) = False := eq_false (Nat.not_lt.2 c25)
  (try (have c25v2 : (9223372036854775807 < (((((((min 3 (rdOf ByteArray.empty t148 t151).size + 2) + t153.size) + 1) + (rdOf ByteArray.empty t154 (ji16)).size) + 1) + t158.size) + 1) + t159.size) = False := eq_false (by have h_ := c25; simp only [ByteArray.size_append, ByteArray.size_extract, show (⟨#[32]⟩ : ByteArray).size = 1 from rfl, show (⟨#[44, 32]⟩ : ByteArray).size = 2 from rfl] at h_; omega)))
  (try (have c25y0 := c25b0; simp only [ByteArray.size_append] at c25y0))
  (try (have c25z0 := c25b0; simp only [ByteArray.size_append, Int.natCast_add] at c25z0))
  (try (have c25y1 := c25b1; simp only [ByteArray.size_append] at c25y1))
  (try (have c25z1 := c25b1; simp only [ByteArray.size_append, Int.natCast_add] at c25z1))
  have c26 : ((((((((((rdOf ByteArray.empty t148 t151).extract 0 3) ++ (⟨#[44, 32]⟩ : ByteArray)) ++ t153) ++ (⟨#[32]⟩ : ByteArray)) ++ (rdOf ByteArray.empty t154 (ji16))) ++ (⟨#[32]⟩ : ByteArray)) ++ t158) ++ (⟨#[32]⟩ : ByteArray)) ++ t159).size + 4 ≤ 9223372036854775807 := Classical.byContradiction fun h_ => by rw [if_neg h_] at H; exact absurd H (by simp)
  rw [if_pos c26] at H
  have c26b0 := eq_true c26
  have c26b1 : decide (((((((((((rdOf ByteArray.empty t148 t151).extract 0 3) ++ (⟨#[44, 32]⟩ : ByteArray)) ++ t153) ++ (⟨#[32]⟩ : ByteArray)) ++ (rdOf ByteArray.empty t154 (ji16))) ++ (⟨#[32]⟩ : ByteArray)) ++ t158) ++ (⟨#[32]⟩ : ByteArray)) ++ t159).size + 4 ≤ 9223372036854775807) = true := decide_eq_true c26
  try have c26b2 : (9223372036854775807 < ((((((((((rdOf ByteArray.empty t148 t151).extract 0 3) ++ (⟨#[44, 32]⟩ : ByteArray)) ++ t153) ++ (⟨#[32]⟩ : ByteArray)) ++ (rdOf ByteArray.empty t154 (ji16))) ++ (⟨#[32]⟩ : ByteArray)) ++ t158) ++ (⟨#[32]⟩ : ByteArray)) ++ t159).size + 4) = False := eq_false (Nat.not_lt.2 c26)
  (try (have c26v2 : (9223372036854775807 < ((((((((min 3 (rdOf ByteArray.empty t148 t151).size + 2) + t153.size) + 1) + (rdOf ByteArray.empty t154 (ji16)).size) + 1) + t158.size) + 1) + t159.size) + 4) = False := eq_false (by have h_ := c26; simp only [ByteArray.size_append, ByteArray.size_extract, show (⟨#[32]⟩ : ByteArray).size = 1 from rfl, show (⟨#[44, 32]⟩ : ByteArray).size = 2 from rfl] at h_; omega)))
  (try (have c26y0 := c26b0; simp only [ByteArray.size_append] at c26y0))
  (try (have c26z0 := c26b0; simp only [ByteArray.size_append, Int.natCast_add] at c26z0))
  (try (have c26y1 := c26b1; simp only [ByteArray.size_append] at c26y1))
  (try (have c26z1 := c26b1; simp only [ByteArray.size_append, Int.natCast_add] at c26z1))
  obtain rfl := Option.some.inj H
  go_enter Tryd.func27, Tryd.ntmps27
  try go_wp2_with (first | ((with_reducible refine gate_callee (f := 45) rfl ?_); refine goesL_ (some 5) rfl rfl Tryd.func45 (by kernel_rfl) rfl #[.int .i64 a0] rfl (by (try simp only [List.map_toArray, List.map_cons, List.map_nil]); first | done | rfl | (simp only [List.length_drop, List.length_take]; rfl)) ?_; (with_reducible refine (impl_isTime.calls a0 true _ A2.out).mono ?_); rintro e w' ⟨rfl, ⟨nd, rfl⟩⟩; refine ⟨_, rfl, ?_⟩) | ((with_reducible refine gate_callee (f := 46) rfl ?_); refine goesL_ (some 8) rfl rfl Tryd.func46 (by kernel_rfl) rfl #[.int .i64 a0] rfl (by (try simp only [List.map_toArray, List.map_cons, List.map_nil]); first | done | rfl | (simp only [List.length_drop, List.length_take]; rfl)) ?_; (with_reducible refine (impl_civilOf.calls a0 t141 t142 t143 t144 t145 t146 _ A4.out).mono ?_); rintro e w27 ⟨rfl, hb⟩; refine ⟨_, rfl, ?_⟩; have n0_ := Aside0.mk (below_step (by repeat (first | (with_reducible first | exact HB.out | apply below_alloc | apply pw_below_drewN | apply below_drew1) | exact HB.out)) hb); clear HB; have HB := n0_; clear n0_; (try clear hb); (try clear hb2); (try clear hk); (try clear hi)) | ((with_reducible refine gate_dst (N := 3) rfl ?_); refine box_event ?hg (N := 3) ?hd (cs := #[.int .i64 0, .int .i64 0, .int .i64 0, .int .i64 0, .int .i64 0, .int .i64 0]) (t := 30) ?hr ?_; (case hd => rfl); (case hg => rfl); (case hr => first | (go_simp; done) | (go_simp; rfl)); intro gb147 hg w28 hbox hb; have n0_ := Aside0.mk (below_step (by repeat (first | (with_reducible first | exact HB.out | apply below_alloc | apply pw_below_drewN | apply below_drew1) | exact HB.out)) hb); have n1_ := Aside0.mk (hbox); have n2_ := Aside0.mk ((by rw [hg]; exact (below_size (by repeat (first | (with_reducible first | exact HB.out | apply below_alloc | apply pw_below_drewN | apply below_drew1) | exact HB.out))) : w.heap.size ≤ gb147)); have n3_ := Aside0.mk ((by rw [hg]; exact (below_size (by repeat (first | (with_reducible first | exact HB.out | apply below_alloc | apply pw_below_drewN | apply below_drew1) | exact HB.out))) : w.heap.size ≤ gb147)); clear HB; have HB := n0_; have BK147 := n1_; have GW147 := n2_; have GE147 := n3_; clear n0_ n1_ n2_ n3_; clear hb hbox hg; have hcz29_0 : w28.cell? ⟨gb147, 0, none⟩ = some (.int .i64 0) := (blk_cell BK147.out 0).trans rfl; have hcz29_1 : w28.cell? ⟨gb147, 1, none⟩ = some (.int .i64 0) := (blk_cell BK147.out 1).trans rfl; have hcz29_2 : w28.cell? ⟨gb147, 2, none⟩ = some (.int .i64 0) := (blk_cell BK147.out 2).trans rfl; have hcz29_3 : w28.cell? ⟨gb147, 3, none⟩ = some (.int .i64 0) := (blk_cell BK147.out 3).trans rfl; have hcz29_4 : w28.cell? ⟨gb147, 4, none⟩ = some (.int .i64 0) := (blk_cell BK147.out 4).trans rfl; have hcz29_5 : w28.cell? ⟨gb147, 5, none⟩ = some (.int .i64 0) := (blk_cell BK147.out 5).trans rfl; have hfz29_0 := blk_frozen BK147.out 0; have hfz29_1 := blk_frozen BK147.out 1; have hfz29_2 := blk_frozen BK147.out 2; have hfz29_3 := blk_frozen BK147.out 3; have hfz29_4 := blk_frozen BK147.out 4; have hfz29_5 := blk_frozen BK147.out 5))
  have n0_ : Aside0 (((((((w28.setCell ⟨gb147, 0, none⟩ (.int .i64 t141)).setCell ⟨gb147, 1, none⟩ (.int .i64 t142)).setCell ⟨gb147, 2, none⟩ (.int .i64 t143)).setCell ⟨gb147, 3, none⟩ (.int .i64 t144)).setCell ⟨gb147, 4, none⟩ (.int .i64 t145)).setCell ⟨gb147, 5, none⟩ (.int .i64 t146)).heap[gb147]? = some (.cells #[.int .i64 t141, .int .i64 t142, .int .i64 t143, .int .i64 t144, .int .i64 t145, .int .i64 t146] 30 (0, 0))) := ⟨by (with_reducible repeat (first | refine blk_drewN ?_ _ | refine blk_drew ?_ | refine blk_alloc ?_ _)); refine blk_put (cs := #[.int .i64 t141, .int .i64 t142, .int .i64 t143, .int .i64 t144, .int .i64 t145, .int .i64 0]) ?_ 5 _ rfl; (with_reducible repeat (first | refine blk_drewN ?_ _ | refine blk_drew ?_ | refine blk_alloc ?_ _)); refine blk_put (cs := #[.int .i64 t141, .int .i64 t142, .int .i64 t143, .int .i64 t144, .int .i64 0, .int .i64 0]) ?_ 4 _ rfl; (with_reducible repeat (first | refine blk_drewN ?_ _ | refine blk_drew ?_ | refine blk_alloc ?_ _)); refine blk_put (cs := #[.int .i64 t141, .int .i64 t142, .int .i64 t143, .int .i64 0, .int .i64 0, .int .i64 0]) ?_ 3 _ rfl; (with_reducible repeat (first | refine blk_drewN ?_ _ | refine blk_drew ?_ | refine blk_alloc ?_ _)); refine blk_put (cs := #[.int .i64 t141, .int .i64 t142, .int .i64 0, .int .i64 0, .int .i64 0, .int .i64 0]) ?_ 2 _ rfl; (with_reducible repeat (first | refine blk_drewN ?_ _ | refine blk_drew ?_ | refine blk_alloc ?_ _)); refine blk_put (cs := #[.int .i64 t141, .int .i64 0, .int .i64 0, .int .i64 0, .int .i64 0, .int .i64 0]) ?_ 1 _ rfl; (with_reducible repeat (first | refine blk_drewN ?_ _ | refine blk_drew ?_ | refine blk_alloc ?_ _)); refine blk_put (cs := #[.int .i64 0, .int .i64 0, .int .i64 0, .int .i64 0, .int .i64 0, .int .i64 0]) ?_ 0 _ rfl; (with_reducible repeat (first | refine blk_drewN ?_ _ | refine blk_drew ?_ | refine blk_alloc ?_ _)); exact BK147.out⟩
  have n1_ : Aside0 (Below w.heap.size w ((((((w28.setCell ⟨gb147, 0, none⟩ (.int .i64 t141)).setCell ⟨gb147, 1, none⟩ (.int .i64 t142)).setCell ⟨gb147, 2, none⟩ (.int .i64 t143)).setCell ⟨gb147, 3, none⟩ (.int .i64 t144)).setCell ⟨gb147, 4, none⟩ (.int .i64 t145)).setCell ⟨gb147, 5, none⟩ (.int .i64 t146))) := ⟨by repeat (first | (with_reducible first | exact HB.out | apply below_alloc | apply pw_below_drewN | apply below_drew1 | refine below_set ?_ GE147.out) | exact HB.out)⟩
  (try clear BK147)
  (try clear HB)
  generalize ((((((w28.setCell ⟨gb147, 0, none⟩ (.int .i64 t141)).setCell ⟨gb147, 1, none⟩ (.int .i64 t142)).setCell ⟨gb147, 2, none⟩ (.int .i64 t143)).setCell ⟨gb147, 3, none⟩ (.int .i64 t144)).setCell ⟨gb147, 4, none⟩ (.int .i64 t145)).setCell ⟨gb147, 5, none⟩ (.int .i64 t146)) = w30 at n0_ n1_ ⊢
  have BK147 := n0_
  have HB := n1_
  clear n0_ n1_
  have n0_ := Aside0.mk (blk_drew BK147.out)
  have n1_ := Aside0.mk (below_drew1 HB.out)
  clear BK147
  clear HB
  have BK147 := n0_
  have HB := n1_
  clear n0_ n1_
  refine start_ (n := 30) (S := fun w' => w'.cell? ⟨gb147, 0, none⟩ = some (.int .i64 t141) ∧ w'.cell? ⟨gb147, 1, none⟩ = some (.int .i64 t142) ∧ w'.cell? ⟨gb147, 2, none⟩ = some (.int .i64 t143) ∧ w'.cell? ⟨gb147, 3, none⟩ = some (.int .i64 t144) ∧ w'.cell? ⟨gb147, 4, none⟩ = some (.int .i64 t145) ∧ w'.cell? ⟨gb147, 5, none⟩ = some (.int .i64 t146) ∧ True ∧ True) (ds := []) #[false, false, false, false, false, false, false, false, false, false, false, false, false, false, false, false, false, false, false, false, false, false, false, false, false, false, false, false, false, false] (by kernel_rfl) rfl rfl ⟨(blk_cell BK147.out 0).trans rfl, (blk_cell BK147.out 1).trans rfl, (blk_cell BK147.out 2).trans rfl, (blk_cell BK147.out 3).trans rfl, (blk_cell BK147.out 4).trans rfl, (blk_cell BK147.out 5).trans rfl, trivial, trivial⟩ (fun hHeld => ?_); refine with_tabW impl_HttpDate.tab4 impl_HttpDate.bits4 (fun HT_ HW_ => ?_)
  generalize w30.drew = w31 at BK147 HB hHeld ⊢
  refine pure_ (i := 1) (N := some 10) (v := ?_) (a' := ?_) #[false, true, false, false, false, false, false, false, false, false, false, false, false, false, false, false, false, false, false, false, false, false, false, false, false, false, false, false, false, false] rfl rfl (any_of HT_.out (by kernel_rfl)) (fun _ _ _ h => h) (Or.inl ⟨by rfl, ?_⟩) ?_ ?_
  rotate_left
  ·
   intro w'
   go_simp
   with_reducible rfl
  rotate_left
  ·
   simp only [Act.put, List.setIfInBounds_toArray, List.set_cons_zero, List.set_cons_succ, i64_w, i32_w]
   rfl
  refine pure_ (i := 7) (N := some 16) (v := ?_) (a' := ?_) #[false, true, false, false, false, false, false, true, false, false, false, false, false, false, false, false, false, false, false, false, false, false, false, false, false, false, false, false, false, false] rfl rfl (any_of HT_.out (by kernel_rfl)) (fun _ _ _ h => h) (Or.inl ⟨by rfl, ?_⟩) ?_ ?_
  rotate_left
  ·
   intro w'
   go_simp
   with_reducible rfl
  rotate_left
  ·
   simp only [Act.put, List.setIfInBounds_toArray, List.set_cons_zero, List.set_cons_succ, i64_w, i32_w]
   rfl
  refine pure_ (i := 13) (N := some 22) (v := ?_) (a' := ?_) #[false, true, false, false, false, false, false, true, false, false, false, false, false, true, false, false, false, false, false, false, false, false, false, false, false, false, false, false, false, false] rfl rfl (any_of HT_.out (by kernel_rfl)) (fun _ _ _ h => h) (Or.inl ⟨by rfl, ?_⟩) ?_ ?_
  rotate_left
  ·
   intro w'
   go_simp
   with_reducible rfl
  rotate_left
  ·
   simp only [Act.put, List.setIfInBounds_toArray, List.set_cons_zero, List.set_cons_succ, i64_w, i32_w]
   rfl
  refine pure_ (i := 20) (N := some 29) (v := ?_) (a' := ?_) #[false, true, false, false, false, false, false, true, false, false, false, false, false, true, false, false, false, false, false, false, true, false, false, false, false, false, false, false, false, false] rfl rfl (any_of HT_.out (by kernel_rfl)) (fun _ _ _ h => h) (Or.inl ⟨by rfl, ?_⟩) ?_ ?_
  rotate_left
  ·
   intro w'
   go_simp
   with_reducible rfl
  rotate_left
  ·
   simp only [Act.put, List.setIfInBounds_toArray, List.set_cons_zero, List.set_cons_succ, i64_w, i32_w]
   rfl
  refine take_ (i := 8) (N := some 17) (v := ?_) (a' := ?_) #[false, true, false, false, false, false, false, true, true, false, false, false, false, true, false, false, false, false, false, false, true, false, false, false, false, false, false, false, false, false] rfl rfl (take_ofW HT_.out HW_.out (by kernel_rfl)) (fun _ _ _ h => h) (Or.inl ⟨by rfl, ?_⟩) hHeld ?_ ?_
  rotate_left
  ·
   rintro w' ⟨s0, s1, s2, s3, s4, s5, s6, s7⟩
   go_simp
   with_reducible rfl
  rotate_left
  ·
   simp only [Act.put, List.setIfInBounds_toArray, List.set_cons_zero, List.set_cons_succ, i64_w, i32_w]
   rfl
  refine take_ (i := 14) (N := some 23) (v := ?_) (a' := ?_) #[false, true, false, false, false, false, false, true, true, false, false, false, false, true, true, false, false, false, false, false, true, false, false, false, false, false, false, false, false, false] rfl rfl (take_ofW HT_.out HW_.out (by kernel_rfl)) (fun _ _ _ h => h) (Or.inl ⟨by rfl, ?_⟩) hHeld ?_ ?_
  rotate_left
  ·
   rintro w' ⟨s0, s1, s2, s3, s4, s5, s6, s7⟩
   go_simp
   with_reducible rfl
  rotate_left
  ·
   simp only [Act.put, List.setIfInBounds_toArray, List.set_cons_zero, List.set_cons_succ, i64_w, i32_w]
   rfl
  refine pure_ (i := 15) (N := some 24) (v := ?_) (a' := ?_) #[false, true, false, false, false, false, false, true, true, false, false, false, false, true, true, true, false, false, false, false, true, false, false, false, false, false, false, false, false, false] rfl rfl (any_of HT_.out (by kernel_rfl)) (fun _ _ _ h => h) (Or.inl ⟨by rfl, ?_⟩) ?_ ?_
  rotate_left
  ·
   intro w'
   go_simp
   with_reducible rfl
  rotate_left
  ·
   simp only [Act.put, List.setIfInBounds_toArray, List.set_cons_zero, List.set_cons_succ, i64_w, i32_w]
   rfl
  refine take_ (i := 21) (N := some 30) (v := ?_) (a' := ?_) #[false, true, false, false, false, false, false, true, true, false, false, false, false, true, true, true, false, false, false, false, true, true, false, false, false, false, false, false, false, false] rfl rfl (take_ofW HT_.out HW_.out (by kernel_rfl)) (fun _ _ _ h => h) (Or.inl ⟨by rfl, ?_⟩) hHeld ?_ ?_
  rotate_left
  ·
   rintro w' ⟨s0, s1, s2, s3, s4, s5, s6, s7⟩
   go_simp
   with_reducible rfl
  rotate_left
  ·
   simp only [Act.put, List.setIfInBounds_toArray, List.set_cons_zero, List.set_cons_succ, i64_w, i32_w]
   rfl
  refine take_ (i := 25) (N := some 34) (v := ?_) (a' := ?_) #[false, true, false, false, false, false, false, true, true, false, false, false, false, true, true, true, false, false, false, false, true, true, false, false, false, true, false, false, false, false] rfl rfl (take_ofW HT_.out HW_.out (by kernel_rfl)) (fun _ _ _ h => h) (Or.inl ⟨by rfl, ?_⟩) hHeld ?_ ?_
  rotate_left
  ·
   rintro w' ⟨s0, s1, s2, s3, s4, s5, s6, s7⟩
   go_simp
   with_reducible rfl
  rotate_left
  ·
   simp only [Act.put, List.setIfInBounds_toArray, List.set_cons_zero, List.set_cons_succ, i64_w, i32_w]
   rfl
  refine one_ (i := 0) (N := some 9) #[true, true, false, false, false, false, false, true, true, false, false, false, false, true, true, true, false, false, false, false, true, true, false, false, false, true, false, false, false, false] rfl rfl (one_of HT_.out (by kernel_rfl)) (by decide) (fun K hK => ?_)
  refine goes_ Tryd.func53 (by kernel_rfl) rfl #[] (by rfl) rfl rfl (by (try simp only [List.map_toArray, List.map_cons, List.map_nil]); first | done | rfl | (simp only [List.length_drop, List.length_take]; rfl)) ?_
  with_reducible refine (impl_days.calls  t148 _ A5.out).mono ?_
  rintro e w32 ⟨v149, rfl, ho0, hb⟩
  refine ⟨_, rfl, ?_⟩
  have n0_ := Aside0.mk (Kd.R_lower ho0 (below_size (by repeat (first | (with_reducible first | exact HB.out | apply below_alloc | apply pw_below_drewN | apply below_drew1 | refine below_set ?_ GE147.out) | exact HB.out))))
  have n1_ := Aside0.mk (blk_below (g := gb147) (o := .cells #[.int .i64 t141, .int .i64 t142, .int .i64 t143, .int .i64 t144, .int .i64 t145, .int .i64 t146] 30 (0, 0)) (by (with_reducible repeat (first | refine blk_drewN ?_ _ | refine blk_drew ?_ | refine blk_alloc ?_ _)); exact BK147.out) hb)
  have n2_ := Aside0.mk (below_step (by repeat (first | (with_reducible first | exact HB.out | apply below_alloc | apply pw_below_drewN | apply below_drew1 | refine below_set ?_ GE147.out) | exact HB.out)) hb)
  clear BK147
  clear HB
  have HO150 := n0_
  have BK147 := n1_
  have HB := n2_
  clear n0_ n1_ n2_
  (try clear hb)
  (try clear hb2)
  (try clear hk)
  (try clear hi)
  (try clear ho0)
  refine hK.out _ _ ⟨(blk_cell BK147.out 0).trans rfl, (blk_cell BK147.out 1).trans rfl, (blk_cell BK147.out 2).trans rfl, (blk_cell BK147.out 3).trans rfl, (blk_cell BK147.out 4).trans rfl, (blk_cell BK147.out 5).trans rfl, trivial, trivial⟩ (fun hHeld => ?_)
  clear hK K
  refine norm_ (a' := ?_) ?_ ?_
  rotate_left
  ·
   show Act.put _ (some 9) _ = _
   simp only [Act.put, List.setIfInBounds_toArray, List.set_cons_zero, List.set_cons_succ, i64_w, i32_w]
   rfl
  refine one_ (i := 2) (N := some 11) #[true, true, true, false, false, false, false, true, true, false, false, false, false, true, true, true, false, false, false, false, true, true, false, false, false, true, false, false, false, false] rfl rfl (one_of HT_.out (by kernel_rfl)) (by decide) (fun K hK => ?_)
  refine goes_ Tryd.func23 (by kernel_rfl) rfl #[.int .i64 a0] (by rfl) rfl rfl (by (try simp only [List.map_toArray, List.map_cons, List.map_nil]); first | done | rfl | (simp only [List.length_drop, List.length_take]; rfl)) ?_
  with_reducible refine (impl_Weekday.calls a0 t151 _ A6.out).mono ?_
  rintro e w' ⟨rfl, ⟨nd, rfl⟩⟩
  refine ⟨_, rfl, ?_⟩
  obtain ⟨Ao33, co33, eo33⟩ := Kd.R_slice HO150.out
  (first | subst eo33 | (injection eo33 with f1_ f2_ f3_; have f4_ := f1_.symm; have f5_ := f3_.symm; clear f1_ f2_ f3_; subst f4_; subst f5_))
  have p152 : 0 ≤ (t151 : Int) := of_decide_eq_true (by first | (with_reducible assumption) | assumption)
  have q152 : t151 < (t148.length : Int) := of_decide_eq_true (by first | (with_reducible assumption) | assumption)
  obtain ⟨ad152, e152, hx152_0⟩ := Kd.at_string (Kd.R_reads' HO150.out).2.2 t151 p152 q152
  cases e152
  replace p152 := eq_true p152
  replace q152 := eq_true q152
  refine hK.out _ _ ⟨(blk_cell BK147.out 0).trans rfl, (blk_cell BK147.out 1).trans rfl, (blk_cell BK147.out 2).trans rfl, (blk_cell BK147.out 3).trans rfl, (blk_cell BK147.out 4).trans rfl, (blk_cell BK147.out 5).trans rfl, trivial, trivial⟩ (fun hHeld => ?_)
  clear hK K
  refine norm_ (a' := ?_) ?_ ?_
  rotate_left
  ·
   show Act.put _ (some 11) _ = _
   simp only [Act.put, List.setIfInBounds_toArray, List.set_cons_zero, List.set_cons_succ, i64_w, i32_w]
   rfl
  refine grow_ (S' := fun w' => w'.cell? ⟨gb147, 0, none⟩ = some (.int .i64 t141) ∧ w'.cell? ⟨gb147, 1, none⟩ = some (.int .i64 t142) ∧ w'.cell? ⟨gb147, 2, none⟩ = some (.int .i64 t143) ∧ w'.cell? ⟨gb147, 3, none⟩ = some (.int .i64 t144) ∧ w'.cell? ⟨gb147, 4, none⟩ = some (.int .i64 t145) ∧ w'.cell? ⟨gb147, 5, none⟩ = some (.int .i64 t146) ∧ w'.cell? (ad152.add (t151).toNat) = some (.string (rdOf ByteArray.empty t148 t151)) ∧ True) (fun w' h_ => ⟨h_.1, h_.2.1, h_.2.2.1, h_.2.2.2.1, h_.2.2.2.2.1, h_.2.2.2.2.2.1, trivial, trivial⟩) ⟨hHeld.1, hHeld.2.1, hHeld.2.2.1, hHeld.2.2.2.1, hHeld.2.2.2.2.1, hHeld.2.2.2.2.2.1, hx152_0, trivial⟩ (fun hHeld => ?_)
  refine pure_ (i := 3) (N := some 12) (v := ?_) (a' := ?_) #[true, true, true, true, false, false, false, true, true, false, false, false, false, true, true, true, false, false, false, false, true, true, false, false, false, true, false, false, false, false] rfl rfl (any_of HT_.out (by kernel_rfl)) (fun _ _ _ h => h) (Or.inl ⟨by rfl, ?_⟩) ?_ ?_
  rotate_left
  ·
   intro w'
   go_simp
   with_reducible rfl
  rotate_left
  ·
   simp only [Act.put, List.setIfInBounds_toArray, List.set_cons_zero, List.set_cons_succ, i64_w, i32_w]
   rfl
  refine take_ (i := 4) (N := some 13) (v := ?_) (a' := ?_) #[true, true, true, true, true, false, false, true, true, false, false, false, false, true, true, true, false, false, false, false, true, true, false, false, false, true, false, false, false, false] rfl rfl (take_ofW HT_.out HW_.out (by kernel_rfl)) (fun _ _ _ h => h) (Or.inl ⟨by rfl, ?_⟩) hHeld ?_ ?_
  rotate_left
  ·
   rintro w' ⟨s0, s1, s2, s3, s4, s5, s6, s7⟩
   go_simp
   with_reducible rfl
  rotate_left
  ·
   simp only [Act.put, List.setIfInBounds_toArray, List.set_cons_zero, List.set_cons_succ, i64_w, i32_w]
   rfl
  refine pure_ (i := 5) (N := some 14) (v := ?_) (a' := ?_) #[true, true, true, true, true, true, false, true, true, false, false, false, false, true, true, true, false, false, false, false, true, true, false, false, false, true, false, false, false, false] rfl rfl (any_of HT_.out (by kernel_rfl)) (fun _ _ _ h => h) (Or.inl ⟨by rfl, ?_⟩) ?_ ?_
  rotate_left
  ·
   intro w'
   go_simp
   with_reducible rfl
  rotate_left
  ·
   simp only [Act.put, List.setIfInBounds_toArray, List.set_cons_zero, List.set_cons_succ, i64_w, i32_w]
   rfl
  refine pure_ (i := 6) (N := some 15) (v := ?_) (a' := ?_) #[true, true, true, true, true, true, true, true, true, false, false, false, false, true, true, true, false, false, false, false, true, true, false, false, false, true, false, false, false, false] rfl rfl (any_of HT_.out (by kernel_rfl)) (fun _ _ _ h => h) (Or.inl ⟨by rfl, ?_⟩) ?_ ?_
  rotate_left
  ·
   intro w'
   go_simp
   with_reducible rfl
  rotate_left
  ·
   simp only [Act.put, List.setIfInBounds_toArray, List.set_cons_zero, List.set_cons_succ, i64_w, i32_w]
   rfl
  refine one_ (i := 9) (N := some 18) #[true, true, true, true, true, true, true, true, true, true, false, false, false, true, true, true, false, false, false, false, true, true, false, false, false, true, false, false, false, false] rfl rfl (one_of HT_.out (by kernel_rfl)) (by decide) (fun K hK => ?_)
  refine goes_ Tryd.func54 (by kernel_rfl) rfl #[.int .i64 t143, .int .i64 2] (by rfl) rfl rfl (by (try simp only [List.map_toArray, List.map_cons, List.map_nil]); first | done | rfl | (simp only [List.length_drop, List.length_take]; rfl)) ?_
  with_reducible refine (impl_digits.calls t143 2 t153 _ A12.out).mono ?_
  rintro e w' ⟨rfl, ⟨nd, rfl⟩⟩
  refine ⟨_, rfl, ?_⟩
  refine hK.out _ _ ⟨(blk_cell BK147.out 0).trans rfl, (blk_cell BK147.out 1).trans rfl, (blk_cell BK147.out 2).trans rfl, (blk_cell BK147.out 3).trans rfl, (blk_cell BK147.out 4).trans rfl, (blk_cell BK147.out 5).trans rfl, hHeld.2.2.2.2.2.2.1, trivial⟩ (fun hHeld => ?_)
  clear hK K
  refine norm_ (a' := ?_) ?_ ?_
  rotate_left
  ·
   show Act.put _ (some 18) _ = _
   simp only [Act.put, List.setIfInBounds_toArray, List.set_cons_zero, List.set_cons_succ, i64_w, i32_w]
   rfl
  refine pure_ (i := 10) (N := some 19) (v := ?_) (a' := ?_) #[true, true, true, true, true, true, true, true, true, true, true, false, false, true, true, true, false, false, false, false, true, true, false, false, false, true, false, false, false, false] rfl rfl (any_of HT_.out (by kernel_rfl)) (fun _ _ _ h => h) (Or.inl ⟨by rfl, ?_⟩) ?_ ?_
  rotate_left
  ·
   intro w'
   go_simp
   with_reducible rfl
  rotate_left
  ·
   simp only [Act.put, List.setIfInBounds_toArray, List.set_cons_zero, List.set_cons_succ, i64_w, i32_w]
   rfl
  refine pure_ (i := 11) (N := some 20) (v := ?_) (a' := ?_) #[true, true, true, true, true, true, true, true, true, true, true, true, false, true, true, true, false, false, false, false, true, true, false, false, false, true, false, false, false, false] rfl rfl (any_of HT_.out (by kernel_rfl)) (fun _ _ _ h => h) (Or.inl ⟨by rfl, ?_⟩) ?_ ?_
  rotate_left
  ·
   intro w'
   go_simp
   with_reducible rfl
  rotate_left
  ·
   simp only [Act.put, List.setIfInBounds_toArray, List.set_cons_zero, List.set_cons_succ, i64_w, i32_w]
   rfl
  refine one_ (i := 12) (N := some 21) #[true, true, true, true, true, true, true, true, true, true, true, true, true, true, true, true, false, false, false, false, true, true, false, false, false, true, false, false, false, false] rfl rfl (one_of HT_.out (by kernel_rfl)) (by decide) (fun K hK => ?_)
  refine goes_ Tryd.func55 (by kernel_rfl) rfl #[] (by rfl) rfl rfl (by (try simp only [List.map_toArray, List.map_cons, List.map_nil]); first | done | rfl | (simp only [List.length_drop, List.length_take]; rfl)) ?_
  with_reducible refine (impl_months.calls  t154 _ A15.out).mono ?_
  rintro e w34 ⟨v155, rfl, ho0, hb⟩
  have HS6_ := (hb.cell (World.block_lt_of_cell? _ _ (hHeld.2.2.2.2.2.2.1))).trans (hHeld.2.2.2.2.2.2.1)
  refine ⟨_, rfl, ?_⟩
  have n0_ := Aside0.mk (Kd.R_elder' (by (with_reducible repeat (first | apply Kd.R_alloc | apply Kd.R_drewN | apply Kd.R_drew)); exact HO150.out) (Kd.R_base ho0) hb)
  have n1_ := Aside0.mk (Kd.R_lower (Kd.R_new' ho0 (Kd.R_lt (by (with_reducible repeat (first | apply Kd.R_alloc | apply Kd.R_drewN | apply Kd.R_drew)); exact HO150.out))) (below_size (by repeat (first | (with_reducible first | exact HB.out | apply below_alloc | apply pw_below_drewN | apply below_drew1 | refine below_set ?_ GE147.out) | exact HB.out))))
  have n2_ := Aside0.mk (blk_below (g := gb147) (o := .cells #[.int .i64 t141, .int .i64 t142, .int .i64 t143, .int .i64 t144, .int .i64 t145, .int .i64 t146] 30 (0, 0)) (by (with_reducible repeat (first | refine blk_drewN ?_ _ | refine blk_drew ?_ | refine blk_alloc ?_ _)); exact BK147.out) hb)
  have n3_ := Aside0.mk (below_step (by repeat (first | (with_reducible first | exact HB.out | apply below_alloc | apply pw_below_drewN | apply below_drew1 | refine below_set ?_ GE147.out) | exact HB.out)) hb)
  clear HO150
  clear BK147
  clear HB
  have HO150 := n0_
  have HO156 := n1_
  have BK147 := n2_
  have HB := n3_
  clear n0_ n1_ n2_ n3_
  (try clear hb)
  (try clear hb2)
  (try clear hk)
  (try clear hi)
  (try clear ho0)
  obtain ⟨Ao35, co35, eo35⟩ := Kd.R_slice HO156.out
  (first | subst eo35 | (injection eo35 with f1_ f2_ f3_; have f4_ := f1_.symm; have f5_ := f3_.symm; clear f1_ f2_ f3_; subst f4_; subst f5_))
  have p157 : 0 ≤ ((ji16) : Int) := of_decide_eq_true (by first | (with_reducible assumption) | assumption)
  have q157 : (ji16) < (t154.length : Int) := of_decide_eq_true (by first | (with_reducible assumption) | assumption)
  obtain ⟨ad157, e157, hx157_0⟩ := Kd.at_string (Kd.R_reads' HO156.out).2.2 (ji16) p157 q157
  cases e157
  replace p157 := eq_true p157
  replace q157 := eq_true q157
  refine hK.out _ _ ⟨(blk_cell BK147.out 0).trans rfl, (blk_cell BK147.out 1).trans rfl, (blk_cell BK147.out 2).trans rfl, (blk_cell BK147.out 3).trans rfl, (blk_cell BK147.out 4).trans rfl, (blk_cell BK147.out 5).trans rfl, HS6_, trivial⟩ (fun hHeld => ?_)
  clear hK K
  refine norm_ (a' := ?_) ?_ ?_
  rotate_left
  ·
   show Act.put _ (some 21) _ = _
   simp only [Act.put, List.setIfInBounds_toArray, List.set_cons_zero, List.set_cons_succ, i64_w, i32_w]
   rfl
  refine grow_ (S' := fun w' => w'.cell? ⟨gb147, 0, none⟩ = some (.int .i64 t141) ∧ w'.cell? ⟨gb147, 1, none⟩ = some (.int .i64 t142) ∧ w'.cell? ⟨gb147, 2, none⟩ = some (.int .i64 t143) ∧ w'.cell? ⟨gb147, 3, none⟩ = some (.int .i64 t144) ∧ w'.cell? ⟨gb147, 4, none⟩ = some (.int .i64 t145) ∧ w'.cell? ⟨gb147, 5, none⟩ = some (.int .i64 t146) ∧ w'.cell? (ad152.add (t151).toNat) = some (.string (rdOf ByteArray.empty t148 t151)) ∧ w'.cell? (ad157.add ((ji16)).toNat) = some (.string (rdOf ByteArray.empty t154 (ji16)))) (fun w' h_ => ⟨h_.1, h_.2.1, h_.2.2.1, h_.2.2.2.1, h_.2.2.2.2.1, h_.2.2.2.2.2.1, h_.2.2.2.2.2.2.1, trivial⟩) ⟨hHeld.1, hHeld.2.1, hHeld.2.2.1, hHeld.2.2.2.1, hHeld.2.2.2.2.1, hHeld.2.2.2.2.2.1, hHeld.2.2.2.2.2.2.1, hx157_0⟩ (fun hHeld => ?_)
  refine pure_ (i := 16) (N := some 25) (v := ?_) (a' := ?_) #[true, true, true, true, true, true, true, true, true, true, true, true, true, true, true, true, true, false, false, false, true, true, false, false, false, true, false, false, false, false] rfl rfl (any_of HT_.out (by kernel_rfl)) (fun _ _ _ h => h) (Or.inl ⟨by rfl, ?_⟩) ?_ ?_
  rotate_left
  ·
   intro w'
   go_simp
   with_reducible rfl
  rotate_left
  ·
   simp only [Act.put, List.setIfInBounds_toArray, List.set_cons_zero, List.set_cons_succ, i64_w, i32_w]
   rfl
  refine take_ (i := 17) (N := some 26) (v := ?_) (a' := ?_) #[true, true, true, true, true, true, true, true, true, true, true, true, true, true, true, true, true, true, false, false, true, true, false, false, false, true, false, false, false, false] rfl rfl (take_ofW HT_.out HW_.out (by kernel_rfl)) (fun _ _ _ h => h) (Or.inl ⟨by rfl, ?_⟩) hHeld ?_ ?_
  rotate_left
  ·
   rintro w' ⟨s0, s1, s2, s3, s4, s5, s6, s7⟩
   go_simp
   with_reducible rfl
  rotate_left
  ·
   simp only [Act.put, List.setIfInBounds_toArray, List.set_cons_zero, List.set_cons_succ, i64_w, i32_w]
   rfl
  refine pure_ (i := 18) (N := some 27) (v := ?_) (a' := ?_) #[true, true, true, true, true, true, true, true, true, true, true, true, true, true, true, true, true, true, true, false, true, true, false, false, false, true, false, false, false, false] rfl rfl (any_of HT_.out (by kernel_rfl)) (fun _ _ _ h => h) (Or.inl ⟨by rfl, ?_⟩) ?_ ?_
  rotate_left
  ·
   intro w'
   go_simp
   with_reducible rfl
  rotate_left
  ·
   simp only [Act.put, List.setIfInBounds_toArray, List.set_cons_zero, List.set_cons_succ, i64_w, i32_w]
   rfl
  refine pure_ (i := 19) (N := some 28) (v := ?_) (a' := ?_) #[true, true, true, true, true, true, true, true, true, true, true, true, true, true, true, true, true, true, true, true, true, true, false, false, false, true, false, false, false, false] rfl rfl (any_of HT_.out (by kernel_rfl)) (fun _ _ _ h => h) (Or.inl ⟨by rfl, ?_⟩) ?_ ?_
  rotate_left
  ·
   intro w'
   go_simp
   with_reducible rfl
  rotate_left
  ·
   simp only [Act.put, List.setIfInBounds_toArray, List.set_cons_zero, List.set_cons_succ, i64_w, i32_w]
   rfl
  refine one_ (i := 22) (N := some 31) #[true, true, true, true, true, true, true, true, true, true, true, true, true, true, true, true, true, true, true, true, true, true, true, false, false, true, false, false, false, false] rfl rfl (one_of HT_.out (by kernel_rfl)) (by decide) (fun K hK => ?_)
  refine goes_ Tryd.func54 (by kernel_rfl) rfl #[.int .i64 t141, .int .i64 4] (by rfl) rfl rfl (by (try simp only [List.map_toArray, List.map_cons, List.map_nil]); first | done | rfl | (simp only [List.length_drop, List.length_take]; rfl)) ?_
  with_reducible refine (impl_digits.calls t141 4 t158 _ A21.out).mono ?_
  rintro e w' ⟨rfl, ⟨nd, rfl⟩⟩
  refine ⟨_, rfl, ?_⟩
  refine hK.out _ _ ⟨(blk_cell BK147.out 0).trans rfl, (blk_cell BK147.out 1).trans rfl, (blk_cell BK147.out 2).trans rfl, (blk_cell BK147.out 3).trans rfl, (blk_cell BK147.out 4).trans rfl, (blk_cell BK147.out 5).trans rfl, hHeld.2.2.2.2.2.2.1, hHeld.2.2.2.2.2.2.2⟩ (fun hHeld => ?_)
  clear hK K
  refine norm_ (a' := ?_) ?_ ?_
  rotate_left
  ·
   show Act.put _ (some 31) _ = _
   simp only [Act.put, List.setIfInBounds_toArray, List.set_cons_zero, List.set_cons_succ, i64_w, i32_w]
   rfl
  refine pure_ (i := 23) (N := some 32) (v := ?_) (a' := ?_) #[true, true, true, true, true, true, true, true, true, true, true, true, true, true, true, true, true, true, true, true, true, true, true, true, false, true, false, false, false, false] rfl rfl (any_of HT_.out (by kernel_rfl)) (fun _ _ _ h => h) (Or.inl ⟨by rfl, ?_⟩) ?_ ?_
  rotate_left
  ·
   intro w'
   go_simp
   with_reducible rfl
  rotate_left
  ·
   simp only [Act.put, List.setIfInBounds_toArray, List.set_cons_zero, List.set_cons_succ, i64_w, i32_w]
   rfl
  refine pure_ (i := 24) (N := some 33) (v := ?_) (a' := ?_) #[true, true, true, true, true, true, true, true, true, true, true, true, true, true, true, true, true, true, true, true, true, true, true, true, true, true, false, false, false, false] rfl rfl (any_of HT_.out (by kernel_rfl)) (fun _ _ _ h => h) (Or.inl ⟨by rfl, ?_⟩) ?_ ?_
  rotate_left
  ·
   intro w'
   go_simp
   with_reducible rfl
  rotate_left
  ·
   simp only [Act.put, List.setIfInBounds_toArray, List.set_cons_zero, List.set_cons_succ, i64_w, i32_w]
   rfl
  refine one_ (i := 26) (N := some 35) #[true, true, true, true, true, true, true, true, true, true, true, true, true, true, true, true, true, true, true, true, true, true, true, true, true, true, true, false, false, false] rfl rfl (one_of HT_.out (by kernel_rfl)) (by decide) (fun K hK => ?_)
  refine goes_ Tryd.func56 (by kernel_rfl) rfl #[.agg #[.int .i64 t141, .int .i64 t142, .int .i64 t143, .int .i64 t144, .int .i64 t145, .int .i64 t146]] (by rfl) rfl rfl (by (try simp only [List.map_toArray, List.map_cons, List.map_nil]); first | done | rfl | (simp only [List.length_drop, List.length_take]; rfl)) ?_
  with_reducible refine (impl_clock.calls t141 t142 t143 t144 t145 t146 t159 _ A24.out).mono ?_
  rintro e w36 ⟨rfl, hb⟩
  have HS6_ := (hb.cell (World.block_lt_of_cell? _ _ (hHeld.2.2.2.2.2.2.1))).trans (hHeld.2.2.2.2.2.2.1)
  have HS7_ := (hb.cell (World.block_lt_of_cell? _ _ (hHeld.2.2.2.2.2.2.2))).trans (hHeld.2.2.2.2.2.2.2)
  refine ⟨_, rfl, ?_⟩
  have n0_ := Aside0.mk (Kd.R_below (by (with_reducible repeat (first | apply Kd.R_alloc | apply Kd.R_drewN | apply Kd.R_drew)); exact HO150.out) hb)
  have n1_ := Aside0.mk (Kd.R_below (by (with_reducible repeat (first | apply Kd.R_alloc | apply Kd.R_drewN | apply Kd.R_drew)); exact HO156.out) hb)
  have n2_ := Aside0.mk (blk_below (g := gb147) (o := .cells #[.int .i64 t141, .int .i64 t142, .int .i64 t143, .int .i64 t144, .int .i64 t145, .int .i64 t146] 30 (0, 0)) (by (with_reducible repeat (first | refine blk_drewN ?_ _ | refine blk_drew ?_ | refine blk_alloc ?_ _)); exact BK147.out) hb)
  have n3_ := Aside0.mk (below_step (by repeat (first | (with_reducible first | exact HB.out | apply below_alloc | apply pw_below_drewN | apply below_drew1 | refine below_set ?_ GE147.out) | exact HB.out)) hb)
  clear HO150
  clear HO156
  clear BK147
  clear HB
  have HO150 := n0_
  have HO156 := n1_
  have BK147 := n2_
  have HB := n3_
  clear n0_ n1_ n2_ n3_
  (try clear hb)
  (try clear hb2)
  (try clear hk)
  (try clear hi)
  refine hK.out _ _ ⟨(blk_cell BK147.out 0).trans rfl, (blk_cell BK147.out 1).trans rfl, (blk_cell BK147.out 2).trans rfl, (blk_cell BK147.out 3).trans rfl, (blk_cell BK147.out 4).trans rfl, (blk_cell BK147.out 5).trans rfl, HS6_, HS7_⟩ (fun hHeld => ?_)
  clear hK K
  refine norm_ (a' := ?_) ?_ ?_
  rotate_left
  ·
   show Act.put _ (some 35) _ = _
   simp only [Act.put, List.setIfInBounds_toArray, List.set_cons_zero, List.set_cons_succ, i64_w, i32_w]
   rfl
  refine pure_ (i := 27) (N := some 36) (v := ?_) (a' := ?_) #[true, true, true, true, true, true, true, true, true, true, true, true, true, true, true, true, true, true, true, true, true, true, true, true, true, true, true, true, false, false] rfl rfl (any_of HT_.out (by kernel_rfl)) (fun _ _ _ h => h) (Or.inl ⟨by rfl, ?_⟩) ?_ ?_
  rotate_left
  ·
   intro w'
   go_simp
   with_reducible rfl
  rotate_left
  ·
   simp only [Act.put, List.setIfInBounds_toArray, List.set_cons_zero, List.set_cons_succ, i64_w, i32_w]
   rfl
  refine pure_ (i := 28) (N := some 37) (v := ?_) (a' := ?_) #[true, true, true, true, true, true, true, true, true, true, true, true, true, true, true, true, true, true, true, true, true, true, true, true, true, true, true, true, true, false] rfl rfl (any_of HT_.out (by kernel_rfl)) (fun _ _ _ h => h) (Or.inl ⟨by rfl, ?_⟩) ?_ ?_
  rotate_left
  ·
   intro w'
   go_simp
   with_reducible rfl
  rotate_left
  ·
   simp only [Act.put, List.setIfInBounds_toArray, List.set_cons_zero, List.set_cons_succ, i64_w, i32_w]
   rfl
  refine pure_ (i := 29) (N := some 2) (v := ?_) (a' := ?_) #[true, true, true, true, true, true, true, true, true, true, true, true, true, true, true, true, true, true, true, true, true, true, true, true, true, true, true, true, true, true] rfl rfl (any_of HT_.out (by kernel_rfl)) (fun _ _ _ h => h) (Or.inl ⟨by rfl, ?_⟩) ?_ ?_
  rotate_left
  ·
   intro w'
   go_simp
   with_reducible rfl
  rotate_left
  ·
   simp only [Act.put, List.setIfInBounds_toArray, List.set_cons_zero, List.set_cons_succ, i64_w, i32_w]
   rfl
  refine done_ (done_of HT_.out (by kernel_rfl)) ?_
  try go_wp2
  go_ret
  exact ⟨by first | rfl | (simp [errW_none, errW_some] <;> rfl) | (simp only [← hji16]; first | rfl | (simp [errW_none, errW_some] <;> rfl)) | (simp [*, errW_none, errW_some] <;> rfl), by repeat (first | (with_reducible first | exact HB.out | apply below_alloc | apply pw_below_drewN | apply below_drew1 | refine below_set ?_ GE147.out) | exact HB.out)⟩
 ·
  replace c3 := Bool.eq_false_iff.mpr c3
  subst c3
  have H1 : (some (⟨#[]⟩ : ByteArray)) = some r := by rw [if_neg (show ¬ (false = true) by decide)] at H; exact H
  clear H
  have H := H1
  clear H1
  obtain rfl := Option.some.inj H
  go_enter Tryd.func27, Tryd.ntmps27
  go_wp2_with (first | ((with_reducible refine gate_callee (f := 45) rfl ?_); refine goesL_ (some 5) rfl rfl Tryd.func45 (by kernel_rfl) rfl #[.int .i64 a0] rfl (by (try simp only [List.map_toArray, List.map_cons, List.map_nil]); first | done | rfl | (simp only [List.length_drop, List.length_take]; rfl)) ?_; (with_reducible refine (impl_isTime.calls a0 false _ A2.out).mono ?_); rintro e w' ⟨rfl, ⟨nd, rfl⟩⟩; refine ⟨_, rfl, ?_⟩))
  go_ret
  exact ⟨by first | rfl | (simp [errW_none, errW_some] <;> rfl) | (simp [*, errW_none, errW_some] <;> rfl), by repeat (first | (with_reducible first | exact HB.out | apply below_alloc | apply pw_below_drewN | apply below_drew1) | exact HB.out)⟩

/-! ### laws_FnExactHttpDate: function 7 -/
def laws_FnExactHttpDate.f (k : Nat) (a0 : Int) : Option (Bool) := (spec_HttpDate.f k a0).bind fun t160 => ((impl_HttpDate.f a0).bind fun t161 => (if t161.toList = t160.toList then (some true) else (some false)))
theorem laws_FnExactHttpDate.mono : ∀ a0 k, LeO (laws_FnExactHttpDate.f k a0) (laws_FnExactHttpDate.f (k + 1) a0) := by
 intro a0 k
 unfold laws_FnExactHttpDate.f
 repeat' first
   | (with_reducible exact spec_HttpDate.mono _ _)
   | (with_reducible exact LeO.refl _)
   | (with_reducible exact LeO.none _)
   | (with_reducible refine LeO.ite ?_ ?_)
   | (with_reducible refine LeO.bind ?_ (fun _ => ?_))
   | exact spec_HttpDate.mono _ _
   | exact LeO.none _
   | refine LeO.ite ?_ ?_
   | refine LeO.bind ?_ (fun _ => ?_)
set_option maxHeartbeats 8000000 in
set_option maxRecDepth 100000 in
theorem laws_FnExactHttpDate.calls (k : Nat) (a0 : Int) (r : Bool) (w : World) (h : laws_FnExactHttpDate.f k a0 = some r) :
  Calls Tryd.prog 7 #[.int .i64 a0] w fun e w' => e = .returned (.bool r) ∧ Below w.heap.size w w' := by
 have HB := Aside0.mk (Below.refl w.heap.size w)
 have H : ((spec_HttpDate.f k a0).bind fun t160 => ((impl_HttpDate.f a0).bind fun t161 => (if t161.toList = t160.toList then (some true) else (some false)))) = some r := h
 clear h
 replace H := Option.bind_eq_some_iff.mp H
 obtain ⟨t160, A20, H⟩ := H
 replace H : ((impl_HttpDate.f a0).bind fun t161 => (if t161.toList = t160.toList then (some true) else (some false))) = some r := H
 have A2 := Aside0.mk A20
 clear A20
 replace H := Option.bind_eq_some_iff.mp H
 obtain ⟨t161, A30, H⟩ := H
 replace H : (if t161.toList = t160.toList then (some true) else (some false)) = some r := H
 have A3 := Aside0.mk A30
 clear A30
 by_cases c4 : t161.toList = t160.toList
 ·
  rw [if_pos c4] at H
  have c4b0 : (t161.toList == t160.toList) = true := beq_iff_eq.mpr c4
  have c4b1 : (t161.toList != t160.toList) = false := bne_eq_false_iff_eq.mpr c4
  clear c4
  obtain rfl := Option.some.inj H
  go_enter Tryd.func7, Tryd.ntmps7
  go_wp2_with (first | ((with_reducible refine gate_callee (f := 26) rfl ?_); refine goesL_ (some 6) rfl rfl Tryd.func26 (by kernel_rfl) rfl #[.int .i64 a0] rfl (by (try simp only [List.map_toArray, List.map_cons, List.map_nil]); first | done | rfl | (simp only [List.length_drop, List.length_take]; rfl)) ?_; (with_reducible refine (spec_HttpDate.calls k a0 t160 _ A2.out).mono ?_); rintro e w5 ⟨rfl, hb⟩; refine ⟨_, rfl, ?_⟩; have n0_ := Aside0.mk (below_step (by repeat (first | (with_reducible first | exact HB.out | apply below_alloc | apply pw_below_drewN | apply below_drew1) | exact HB.out)) hb); clear HB; have HB := n0_; clear n0_; (try clear hb); (try clear hb2); (try clear hk); (try clear hi)) | ((with_reducible refine gate_callee (f := 27) rfl ?_); refine goesL_ (some 8) rfl rfl Tryd.func27 (by kernel_rfl) rfl #[.int .i64 a0] rfl (by (try simp only [List.map_toArray, List.map_cons, List.map_nil]); first | done | rfl | (simp only [List.length_drop, List.length_take]; rfl)) ?_; (with_reducible refine (impl_HttpDate.calls a0 t161 _ A3.out).mono ?_); rintro e w6 ⟨rfl, hb⟩; refine ⟨_, rfl, ?_⟩; have n0_ := Aside0.mk (below_step (by repeat (first | (with_reducible first | exact HB.out | apply below_alloc | apply pw_below_drewN | apply below_drew1) | exact HB.out)) hb); clear HB; have HB := n0_; clear n0_; (try clear hb); (try clear hb2); (try clear hk); (try clear hi)))
  go_ret
  exact ⟨by first | rfl | (simp [errW_none, errW_some] <;> rfl) | (simp [*, errW_none, errW_some] <;> rfl), by repeat (first | (with_reducible first | exact HB.out | apply below_alloc | apply pw_below_drewN | apply below_drew1) | exact HB.out)⟩
 ·
  rw [if_neg c4] at H
  have c4b0 : (t161.toList == t160.toList) = false := beq_eq_false_iff_ne.mpr c4
  have c4b1 : (t161.toList != t160.toList) = true := bne_iff_ne.mpr c4
  obtain rfl := Option.some.inj H
  go_enter Tryd.func7, Tryd.ntmps7
  go_wp2_with (first | ((with_reducible refine gate_callee (f := 26) rfl ?_); refine goesL_ (some 6) rfl rfl Tryd.func26 (by kernel_rfl) rfl #[.int .i64 a0] rfl (by (try simp only [List.map_toArray, List.map_cons, List.map_nil]); first | done | rfl | (simp only [List.length_drop, List.length_take]; rfl)) ?_; (with_reducible refine (spec_HttpDate.calls k a0 t160 _ A2.out).mono ?_); rintro e w7 ⟨rfl, hb⟩; refine ⟨_, rfl, ?_⟩; have n0_ := Aside0.mk (below_step (by repeat (first | (with_reducible first | exact HB.out | apply below_alloc | apply pw_below_drewN | apply below_drew1) | exact HB.out)) hb); clear HB; have HB := n0_; clear n0_; (try clear hb); (try clear hb2); (try clear hk); (try clear hi)) | ((with_reducible refine gate_callee (f := 27) rfl ?_); refine goesL_ (some 8) rfl rfl Tryd.func27 (by kernel_rfl) rfl #[.int .i64 a0] rfl (by (try simp only [List.map_toArray, List.map_cons, List.map_nil]); first | done | rfl | (simp only [List.length_drop, List.length_take]; rfl)) ?_; (with_reducible refine (impl_HttpDate.calls a0 t161 _ A3.out).mono ?_); rintro e w8 ⟨rfl, hb⟩; refine ⟨_, rfl, ?_⟩; have n0_ := Aside0.mk (below_step (by repeat (first | (with_reducible first | exact HB.out | apply below_alloc | apply pw_below_drewN | apply below_drew1) | exact HB.out)) hb); clear HB; have HB := n0_; clear n0_; (try clear hb); (try clear hb2); (try clear hk); (try clear hi)))
  go_ret
  exact ⟨by first | rfl | (simp [errW_none, errW_some] <;> rfl) | (simp [*, errW_none, errW_some] <;> rfl), by repeat (first | (with_reducible first | exact HB.out | apply below_alloc | apply pw_below_drewN | apply below_drew1) | exact HB.out)⟩

/-- THE ONE PURE STATEMENT of laws_FnExactHttpDate: yours. -/
def laws_FnExactHttpDate.Pure : Prop := ∀ (a0 : Int), (Lit.int .i64 a0).wf = true → ∃ k, laws_FnExactHttpDate.f k a0 = some true
theorem laws_FnExactHttpDate.walk (P : laws_FnExactHttpDate.Pure) (a0 : Int) (w : World) (w0 : (Lit.int .i64 a0).wf = true) :
  Calls Tryd.prog 7 #[.int .i64 a0] w fun e w' => e = .returned (.bool true) ∧ Below w.heap.size w w' := by
 obtain ⟨k, h⟩ := P a0 w0
 refine (laws_FnExactHttpDate.calls k a0 true w h).mono ?_
 rintro e w' ⟨rfl, hd⟩
 exact ⟨rfl, hd⟩

end Go.Proofs.YtgjbhdfncappdaaDoor.PFnExactHttpDate
