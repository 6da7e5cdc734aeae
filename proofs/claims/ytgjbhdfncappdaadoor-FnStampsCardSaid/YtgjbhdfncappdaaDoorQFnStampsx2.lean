-- Written by a program of this session.
import Derived.Test.YtgjbhdfncappdaaDoorQFnStampsx0
import Derived.Test.YtgjbhdfncappdaaDoorQFnStampsx1
namespace Go.Proofs.YtgjbhdfncappdaaDoor.PFnStamps
open Go.Proofs.YtgjbhdfncappdaaDoor.Foreign
open Go.RowKit Go.Proofs.YtgjbhdfncappdaaDoorW.PrintWords Go.Proofs.YtgjbhdfncappdaaDoorW.PrintLast Go.Proofs.YtgjbhdfncappdaaDoorW.PrintMore
attribute [local go_sem] max2_int min2_int max_two min_two max_three min_three max_four min_four   -- for this text's walks alone
set_option linter.unusedVariables false
set_option linter.unusedSimpArgs false

/-! ### impl_HttpDate: function 27 -/
def impl_HttpDate.f (a0 : Int) : Option (ByteArray) := (impl_isTime.f a0).bind fun t170 => (if t170 = true then ((impl_civilOf.f a0).bind fun bt171 => ((impl_days.f).bind fun t178 => ((impl_Weekday.f a0).bind fun t181 => (if 0 ≤ t181 then (if t181 < (t178.length : Int) then (if 0 ≤ 3 then (if 3 ≤ ((rdOf ByteArray.empty t178 t181).size : Int) then (if ((rdOf ByteArray.empty t178 t181).extract 0 3).size + 2 ≤ 9223372036854775807 then ((impl_digits.f bt171.2.2.1 2).bind fun t183 => (if (((rdOf ByteArray.empty t178 t181).extract 0 3) ++ (⟨#[44, 32]⟩ : ByteArray)).size + t183.size ≤ 9223372036854775807 then (if ((((rdOf ByteArray.empty t178 t181).extract 0 3) ++ (⟨#[44, 32]⟩ : ByteArray)) ++ t183).size + 1 ≤ 9223372036854775807 then ((impl_months.f).bind fun t184 => (if 0 ≤ (wrap64 (bt171.2.1 - 1)) then (if (wrap64 (bt171.2.1 - 1)) < (t184.length : Int) then (if (((((rdOf ByteArray.empty t178 t181).extract 0 3) ++ (⟨#[44, 32]⟩ : ByteArray)) ++ t183) ++ (⟨#[32]⟩ : ByteArray)).size + (rdOf ByteArray.empty t184 (wrap64 (bt171.2.1 - 1))).size ≤ 9223372036854775807 then (if ((((((rdOf ByteArray.empty t178 t181).extract 0 3) ++ (⟨#[44, 32]⟩ : ByteArray)) ++ t183) ++ (⟨#[32]⟩ : ByteArray)) ++ (rdOf ByteArray.empty t184 (wrap64 (bt171.2.1 - 1)))).size + 1 ≤ 9223372036854775807 then ((impl_digits.f bt171.1 4).bind fun t188 => (if (((((((rdOf ByteArray.empty t178 t181).extract 0 3) ++ (⟨#[44, 32]⟩ : ByteArray)) ++ t183) ++ (⟨#[32]⟩ : ByteArray)) ++ (rdOf ByteArray.empty t184 (wrap64 (bt171.2.1 - 1)))) ++ (⟨#[32]⟩ : ByteArray)).size + t188.size ≤ 9223372036854775807 then (if ((((((((rdOf ByteArray.empty t178 t181).extract 0 3) ++ (⟨#[44, 32]⟩ : ByteArray)) ++ t183) ++ (⟨#[32]⟩ : ByteArray)) ++ (rdOf ByteArray.empty t184 (wrap64 (bt171.2.1 - 1)))) ++ (⟨#[32]⟩ : ByteArray)) ++ t188).size + 1 ≤ 9223372036854775807 then ((impl_clock.f bt171.1 bt171.2.1 bt171.2.2.1 bt171.2.2.2.1 bt171.2.2.2.2.1 bt171.2.2.2.2.2).bind fun t189 => (if (((((((((rdOf ByteArray.empty t178 t181).extract 0 3) ++ (⟨#[44, 32]⟩ : ByteArray)) ++ t183) ++ (⟨#[32]⟩ : ByteArray)) ++ (rdOf ByteArray.empty t184 (wrap64 (bt171.2.1 - 1)))) ++ (⟨#[32]⟩ : ByteArray)) ++ t188) ++ (⟨#[32]⟩ : ByteArray)).size + t189.size ≤ 9223372036854775807 then (if ((((((((((rdOf ByteArray.empty t178 t181).extract 0 3) ++ (⟨#[44, 32]⟩ : ByteArray)) ++ t183) ++ (⟨#[32]⟩ : ByteArray)) ++ (rdOf ByteArray.empty t184 (wrap64 (bt171.2.1 - 1)))) ++ (⟨#[32]⟩ : ByteArray)) ++ t188) ++ (⟨#[32]⟩ : ByteArray)) ++ t189).size + 4 ≤ 9223372036854775807 then (some (((((((((((rdOf ByteArray.empty t178 t181).extract 0 3) ++ (⟨#[44, 32]⟩ : ByteArray)) ++ t183) ++ (⟨#[32]⟩ : ByteArray)) ++ (rdOf ByteArray.empty t184 (wrap64 (bt171.2.1 - 1)))) ++ (⟨#[32]⟩ : ByteArray)) ++ t188) ++ (⟨#[32]⟩ : ByteArray)) ++ t189) ++ (⟨#[32, 71, 77, 84]⟩ : ByteArray))) else (none)) else (none))) else (none)) else (none))) else (none)) else (none)) else (none)) else (none))) else (none)) else (none))) else (none)) else (none)) else (none)) else (none)) else (none))))) else (some (⟨#[]⟩ : ByteArray)))
def impl_HttpDate.T4 : Bool × List (List Nat × List Nat) := (true, [([], []), ([], []), ([1, 0], [1]), ([0, 2], [0, 2]), ([3], [3]), ([4], [4]), ([5], [5]), ([], []), ([7], [7]), ([8, 2], [8]), ([6, 9], [6, 9]), ([10], [10]), ([9], []), ([], []), ([13], [13]), ([14], [14]), ([12, 15], [12, 15]), ([16], [16]), ([11, 17], [11, 17]), ([18], [18]), ([], []), ([20], [20]), ([21, 12], [21]), ([19, 22], [19, 22]), ([23], [23]), ([], []), ([25, 22], [25]), ([24, 26], [24, 26]), ([27], [27]), ([28, 26, 0, 1, 2, 3, 4, 5, 6, 7, 8, 9, 10, 11, 12, 13, 14, 15, 16, 17, 18, 19, 20, 21, 22, 23, 24, 25, 26, 27, 28], [28])])
def impl_HttpDate.B4 : List Nat := [0, 0, 3, 7, 15, 31, 63, 0, 128, 391, 1023, 2047, 903, 0, 8192, 24576, 62343, 127879, 262143, 524287, 0, 1048576, 3150727, 8388607, 16777215, 0, 40899463, 134217727, 268435455, 536870911]
theorem impl_HttpDate.tab4 : rtab .any (opsOf Tryd.f27 4) = impl_HttpDate.T4 := by kernel_rfl
theorem impl_HttpDate.bits4 : waitsOk impl_HttpDate.T4.2 impl_HttpDate.B4 = true := by kernel_rfl
set_option maxHeartbeats 8000000 in
set_option maxRecDepth 100000 in
theorem impl_HttpDate.calls (a0 : Int) (r : ByteArray) (w : World) (h : impl_HttpDate.f a0 = some r) :
  Calls Tryd.prog 27 #[.int .i64 a0] w fun e w' => e = .returned (.string r) ∧ Below w.heap.size w w' := by
 have hu30 := Tryd.underlying30
 have HB := Aside0.mk (Below.refl w.heap.size w)
 have H : ((impl_isTime.f a0).bind fun t170 => (if t170 = true then ((impl_civilOf.f a0).bind fun bt171 => ((impl_days.f).bind fun t178 => ((impl_Weekday.f a0).bind fun t181 => (if 0 ≤ t181 then (if t181 < (t178.length : Int) then (if 0 ≤ 3 then (if 3 ≤ ((rdOf ByteArray.empty t178 t181).size : Int) then (if ((rdOf ByteArray.empty t178 t181).extract 0 3).size + 2 ≤ 9223372036854775807 then ((impl_digits.f bt171.2.2.1 2).bind fun t183 => (if (((rdOf ByteArray.empty t178 t181).extract 0 3) ++ (⟨#[44, 32]⟩ : ByteArray)).size + t183.size ≤ 9223372036854775807 then (if ((((rdOf ByteArray.empty t178 t181).extract 0 3) ++ (⟨#[44, 32]⟩ : ByteArray)) ++ t183).size + 1 ≤ 9223372036854775807 then ((impl_months.f).bind fun t184 => (if 0 ≤ (wrap64 (bt171.2.1 - 1)) then (if (wrap64 (bt171.2.1 - 1)) < (t184.length : Int) then (if (((((rdOf ByteArray.empty t178 t181).extract 0 3) ++ (⟨#[44, 32]⟩ : ByteArray)) ++ t183) ++ (⟨#[32]⟩ : ByteArray)).size + (rdOf ByteArray.empty t184 (wrap64 (bt171.2.1 - 1))).size ≤ 9223372036854775807 then (if ((((((rdOf ByteArray.empty t178 t181).extract 0 3) ++ (⟨#[44, 32]⟩ : ByteArray)) ++ t183) ++ (⟨#[32]⟩ : ByteArray)) ++ (rdOf ByteArray.empty t184 (wrap64 (bt171.2.1 - 1)))).size + 1 ≤ 9223372036854775807 then ((impl_digits.f bt171.1 4).bind fun t188 => (if (((((((rdOf ByteArray.empty t178 t181).extract 0 3) ++ (⟨#[44, 32]⟩ : ByteArray)) ++ t183) ++ (⟨#[32]⟩ : ByteArray)) ++ (rdOf ByteArray.empty t184 (wrap64 (bt171.2.1 - 1)))) ++ (⟨#[32]⟩ : ByteArray)).size + t188.size ≤ 9223372036854775807 then (if ((((((((rdOf ByteArray.empty t178 t181).extract 0 3) ++ (⟨#[44, 32]⟩ : ByteArray)) ++ t183) ++ (⟨#[32]⟩ : ByteArray)) ++ (rdOf ByteArray.empty t184 (wrap64 (bt171.2.1 - 1)))) ++ (⟨#[32]⟩ : ByteArray)) ++ t188).size + 1 ≤ 9223372036854775807 then ((impl_clock.f bt171.1 bt171.2.1 bt171.2.2.1 bt171.2.2.2.1 bt171.2.2.2.2.1 bt171.2.2.2.2.2).bind fun t189 => (if (((((((((rdOf ByteArray.empty t178 t181).extract 0 3) ++ (⟨#[44, 32]⟩ : ByteArray)) ++ t183) ++ (⟨#[32]⟩ : ByteArray)) ++ (rdOf ByteArray.empty t184 (wrap64 (bt171.2.1 - 1)))) ++ (⟨#[32]⟩ : ByteArray)) ++ t188) ++ (⟨#[32]⟩ : ByteArray)).size + t189.size ≤ 9223372036854775807 then (if ((((((((((rdOf ByteArray.empty t178 t181).extract 0 3) ++ (⟨#[44, 32]⟩ : ByteArray)) ++ t183) ++ (⟨#[32]⟩ : ByteArray)) ++ (rdOf ByteArray.empty t184 (wrap64 (bt171.2.1 - 1)))) ++ (⟨#[32]⟩ : ByteArray)) ++ t188) ++ (⟨#[32]⟩ : ByteArray)) ++ t189).size + 4 ≤ 9223372036854775807 then (some (((((((((((rdOf ByteArray.empty t178 t181).extract 0 3) ++ (⟨#[44, 32]⟩ : ByteArray)) ++ t183) ++ (⟨#[32]⟩ : ByteArray)) ++ (rdOf ByteArray.empty t184 (wrap64 (bt171.2.1 - 1)))) ++ (⟨#[32]⟩ : ByteArray)) ++ t188) ++ (⟨#[32]⟩ : ByteArray)) ++ t189) ++ (⟨#[32, 71, 77, 84]⟩ : ByteArray))) else (none)) else (none))) else (none)) else (none))) else (none)) else (none)) else (none)) else (none))) else (none)) else (none))) else (none)) else (none)) else (none)) else (none)) else (none))))) else (some (⟨#[]⟩ : ByteArray)))) = some r := h
 clear h
 replace H := Option.bind_eq_some_iff.mp H
 obtain ⟨t170, A20, H⟩ := H
 replace H : (if t170 = true then ((impl_civilOf.f a0).bind fun bt171 => ((impl_days.f).bind fun t178 => ((impl_Weekday.f a0).bind fun t181 => (if 0 ≤ t181 then (if t181 < (t178.length : Int) then (if 0 ≤ 3 then (if 3 ≤ ((rdOf ByteArray.empty t178 t181).size : Int) then (if ((rdOf ByteArray.empty t178 t181).extract 0 3).size + 2 ≤ 9223372036854775807 then ((impl_digits.f bt171.2.2.1 2).bind fun t183 => (if (((rdOf ByteArray.empty t178 t181).extract 0 3) ++ (⟨#[44, 32]⟩ : ByteArray)).size + t183.size ≤ 9223372036854775807 then (if ((((rdOf ByteArray.empty t178 t181).extract 0 3) ++ (⟨#[44, 32]⟩ : ByteArray)) ++ t183).size + 1 ≤ 9223372036854775807 then ((impl_months.f).bind fun t184 => (if 0 ≤ (wrap64 (bt171.2.1 - 1)) then (if (wrap64 (bt171.2.1 - 1)) < (t184.length : Int) then (if (((((rdOf ByteArray.empty t178 t181).extract 0 3) ++ (⟨#[44, 32]⟩ : ByteArray)) ++ t183) ++ (⟨#[32]⟩ : ByteArray)).size + (rdOf ByteArray.empty t184 (wrap64 (bt171.2.1 - 1))).size ≤ 9223372036854775807 then (if ((((((rdOf ByteArray.empty t178 t181).extract 0 3) ++ (⟨#[44, 32]⟩ : ByteArray)) ++ t183) ++ (⟨#[32]⟩ : ByteArray)) ++ (rdOf ByteArray.empty t184 (wrap64 (bt171.2.1 - 1)))).size + 1 ≤ 9223372036854775807 then ((impl_digits.f bt171.1 4).bind fun t188 => (if (((((((rdOf ByteArray.empty t178 t181).extract 0 3) ++ (⟨#[44, 32]⟩ : ByteArray)) ++ t183) ++ (⟨#[32]⟩ : ByteArray)) ++ (rdOf ByteArray.empty t184 (wrap64 (bt171.2.1 - 1)))) ++ (⟨#[32]⟩ : ByteArray)).size + t188.size ≤ 9223372036854775807 then (if ((((((((rdOf ByteArray.empty t178 t181).extract 0 3) ++ (⟨#[44, 32]⟩ : ByteArray)) ++ t183) ++ (⟨#[32]⟩ : ByteArray)) ++ (rdOf ByteArray.empty t184 (wrap64 (bt171.2.1 - 1)))) ++ (⟨#[32]⟩ : ByteArray)) ++ t188).size + 1 ≤ 9223372036854775807 then ((impl_clock.f bt171.1 bt171.2.1 bt171.2.2.1 bt171.2.2.2.1 bt171.2.2.2.2.1 bt171.2.2.2.2.2).bind fun t189 => (if (((((((((rdOf ByteArray.empty t178 t181).extract 0 3) ++ (⟨#[44, 32]⟩ : ByteArray)) ++ t183) ++ (⟨#[32]⟩ : ByteArray)) ++ (rdOf ByteArray.empty t184 (wrap64 (bt171.2.1 - 1)))) ++ (⟨#[32]⟩ : ByteArray)) ++ t188) ++ (⟨#[32]⟩ : ByteArray)).size + t189.size ≤ 9223372036854775807 then (if ((((((((((rdOf ByteArray.empty t178 t181).extract 0 3) ++ (⟨#[44, 32]⟩ : ByteArray)) ++ t183) ++ (⟨#[32]⟩ : ByteArray)) ++ (rdOf ByteArray.empty t184 (wrap64 (bt171.2.1 - 1)))) ++ (⟨#[32]⟩ : ByteArray)) ++ t188) ++ (⟨#[32]⟩ : ByteArray)) ++ t189).size + 4 ≤ 9223372036854775807 then (some (((((((((((rdOf ByteArray.empty t178 t181).extract 0 3) ++ (⟨#[44, 32]⟩ : ByteArray)) ++ t183) ++ (⟨#[32]⟩ : ByteArray)) ++ (rdOf ByteArray.empty t184 (wrap64 (bt171.2.1 - 1)))) ++ (⟨#[32]⟩ : ByteArray)) ++ t188) ++ (⟨#[32]⟩ : ByteArray)) ++ t189) ++ (⟨#[32, 71, 77, 84]⟩ : ByteArray))) else (none)) else (none))) else (none)) else (none))) else (none)) else (none)) else (none)) else (none))) else (none)) else (none))) else (none)) else (none)) else (none)) else (none)) else (none))))) else (some (⟨#[]⟩ : ByteArray))) = some r := H
 have A2 := Aside0.mk A20
 clear A20
 by_cases c3 : t170 = true
 ·
  subst c3
  have H1 : ((impl_civilOf.f a0).bind fun bt171 => ((impl_days.f).bind fun t178 => ((impl_Weekday.f a0).bind fun t181 => (if 0 ≤ t181 then (if t181 < (t178.length : Int) then (if 0 ≤ 3 then (if 3 ≤ ((rdOf ByteArray.empty t178 t181).size : Int) then (if ((rdOf ByteArray.empty t178 t181).extract 0 3).size + 2 ≤ 9223372036854775807 then ((impl_digits.f bt171.2.2.1 2).bind fun t183 => (if (((rdOf ByteArray.empty t178 t181).extract 0 3) ++ (⟨#[44, 32]⟩ : ByteArray)).size + t183.size ≤ 9223372036854775807 then (if ((((rdOf ByteArray.empty t178 t181).extract 0 3) ++ (⟨#[44, 32]⟩ : ByteArray)) ++ t183).size + 1 ≤ 9223372036854775807 then ((impl_months.f).bind fun t184 => (if 0 ≤ (wrap64 (bt171.2.1 - 1)) then (if (wrap64 (bt171.2.1 - 1)) < (t184.length : Int) then (if (((((rdOf ByteArray.empty t178 t181).extract 0 3) ++ (⟨#[44, 32]⟩ : ByteArray)) ++ t183) ++ (⟨#[32]⟩ : ByteArray)).size + (rdOf ByteArray.empty t184 (wrap64 (bt171.2.1 - 1))).size ≤ 9223372036854775807 then (if ((((((rdOf ByteArray.empty t178 t181).extract 0 3) ++ (⟨#[44, 32]⟩ : ByteArray)) ++ t183) ++ (⟨#[32]⟩ : ByteArray)) ++ (rdOf ByteArray.empty t184 (wrap64 (bt171.2.1 - 1)))).size + 1 ≤ 9223372036854775807 then ((impl_digits.f bt171.1 4).bind fun t188 => (if (((((((rdOf ByteArray.empty t178 t181).extract 0 3) ++ (⟨#[44, 32]⟩ : ByteArray)) ++ t183) ++ (⟨#[32]⟩ : ByteArray)) ++ (rdOf ByteArray.empty t184 (wrap64 (bt171.2.1 - 1)))) ++ (⟨#[32]⟩ : ByteArray)).size + t188.size ≤ 9223372036854775807 then (if ((((((((rdOf ByteArray.empty t178 t181).extract 0 3) ++ (⟨#[44, 32]⟩ : ByteArray)) ++ t183) ++ (⟨#[32]⟩ : ByteArray)) ++ (rdOf ByteArray.empty t184 (wrap64 (bt171.2.1 - 1)))) ++ (⟨#[32]⟩ : ByteArray)) ++ t188).size + 1 ≤ 9223372036854775807 then ((impl_clock.f bt171.1 bt171.2.1 bt171.2.2.1 bt171.2.2.2.1 bt171.2.2.2.2.1 bt171.2.2.2.2.2).bind fun t189 => (if (((((((((rdOf ByteArray.empty t178 t181).extract 0 3) ++ (⟨#[44, 32]⟩ : ByteArray)) ++ t183) ++ (⟨#[32]⟩ : ByteArray)) ++ (rdOf ByteArray.empty t184 (wrap64 (bt171.2.1 - 1)))) ++ (⟨#[32]⟩ : ByteArray)) ++ t188) ++ (⟨#[32]⟩ : ByteArray)).size + t189.size ≤ 9223372036854775807 then (if ((((((((((rdOf ByteArray.empty t178 t181).extract 0 3) ++ (⟨#[44, 32]⟩ : ByteArray)) ++ t183) ++ (⟨#[32]⟩ : ByteArray)) ++ (rdOf ByteArray.empty t184 (wrap64 (bt171.2.1 - 1)))) ++ (⟨#[32]⟩ : ByteArray)) ++ t188) ++ (⟨#[32]⟩ : ByteArray)) ++ t189).size + 4 ≤ 9223372036854775807 then (some (((((((((((rdOf ByteArray.empty t178 t181).extract 0 3) ++ (⟨#[44, 32]⟩ : ByteArray)) ++ t183) ++ (⟨#[32]⟩ : ByteArray)) ++ (rdOf ByteArray.empty t184 (wrap64 (bt171.2.1 - 1)))) ++ (⟨#[32]⟩ : ByteArray)) ++ t188) ++ (⟨#[32]⟩ : ByteArray)) ++ t189) ++ (⟨#[32, 71, 77, 84]⟩ : ByteArray))) else (none)) else (none))) else (none)) else (none))) else (none)) else (none)) else (none)) else (none))) else (none)) else (none))) else (none)) else (none)) else (none)) else (none)) else (none))))) = some r := by rw [if_pos rfl] at H; exact H
  clear H
  have H := H1
  clear H1
  replace H := Option.bind_eq_some_iff.mp H
  obtain ⟨⟨t171, t172, t173, t174, t175, t176⟩, A40, H⟩ := H
  replace H : ((impl_days.f).bind fun t178 => ((impl_Weekday.f a0).bind fun t181 => (if 0 ≤ t181 then (if t181 < (t178.length : Int) then (if 0 ≤ 3 then (if 3 ≤ ((rdOf ByteArray.empty t178 t181).size : Int) then (if ((rdOf ByteArray.empty t178 t181).extract 0 3).size + 2 ≤ 9223372036854775807 then ((impl_digits.f t173 2).bind fun t183 => (if (((rdOf ByteArray.empty t178 t181).extract 0 3) ++ (⟨#[44, 32]⟩ : ByteArray)).size + t183.size ≤ 9223372036854775807 then (if ((((rdOf ByteArray.empty t178 t181).extract 0 3) ++ (⟨#[44, 32]⟩ : ByteArray)) ++ t183).size + 1 ≤ 9223372036854775807 then ((impl_months.f).bind fun t184 => (if 0 ≤ (wrap64 (t172 - 1)) then (if (wrap64 (t172 - 1)) < (t184.length : Int) then (if (((((rdOf ByteArray.empty t178 t181).extract 0 3) ++ (⟨#[44, 32]⟩ : ByteArray)) ++ t183) ++ (⟨#[32]⟩ : ByteArray)).size + (rdOf ByteArray.empty t184 (wrap64 (t172 - 1))).size ≤ 9223372036854775807 then (if ((((((rdOf ByteArray.empty t178 t181).extract 0 3) ++ (⟨#[44, 32]⟩ : ByteArray)) ++ t183) ++ (⟨#[32]⟩ : ByteArray)) ++ (rdOf ByteArray.empty t184 (wrap64 (t172 - 1)))).size + 1 ≤ 9223372036854775807 then ((impl_digits.f t171 4).bind fun t188 => (if (((((((rdOf ByteArray.empty t178 t181).extract 0 3) ++ (⟨#[44, 32]⟩ : ByteArray)) ++ t183) ++ (⟨#[32]⟩ : ByteArray)) ++ (rdOf ByteArray.empty t184 (wrap64 (t172 - 1)))) ++ (⟨#[32]⟩ : ByteArray)).size + t188.size ≤ 9223372036854775807 then (if ((((((((rdOf ByteArray.empty t178 t181).extract 0 3) ++ (⟨#[44, 32]⟩ : ByteArray)) ++ t183) ++ (⟨#[32]⟩ : ByteArray)) ++ (rdOf ByteArray.empty t184 (wrap64 (t172 - 1)))) ++ (⟨#[32]⟩ : ByteArray)) ++ t188).size + 1 ≤ 9223372036854775807 then ((impl_clock.f t171 t172 t173 t174 t175 t176).bind fun t189 => (if (((((((((rdOf ByteArray.empty t178 t181).extract 0 3) ++ (⟨#[44, 32]⟩ : ByteArray)) ++ t183) ++ (⟨#[32]⟩ : ByteArray)) ++ (rdOf ByteArray.empty t184 (wrap64 (t172 - 1)))) ++ (⟨#[32]⟩ : ByteArray)) ++ t188) ++ (⟨#[32]⟩ : ByteArray)).size + t189.size ≤ 9223372036854775807 then (if ((((((((((rdOf ByteArray.empty t178 t181).extract 0 3) ++ (⟨#[44, 32]⟩ : ByteArray)) ++ t183) ++ (⟨#[32]⟩ : ByteArray)) ++ (rdOf ByteArray.empty t184 (wrap64 (t172 - 1)))) ++ (⟨#[32]⟩ : ByteArray)) ++ t188) ++ (⟨#[32]⟩ : ByteArray)) ++ t189).size + 4 ≤ 9223372036854775807 then (some (((((((((((rdOf ByteArray.empty t178 t181).extract 0 3) ++ (⟨#[44, 32]⟩ : ByteArray)) ++ t183) ++ (⟨#[32]⟩ : ByteArray)) ++ (rdOf ByteArray.empty t184 (wrap64 (t172 - 1)))) ++ (⟨#[32]⟩ : ByteArray)) ++ t188) ++ (⟨#[32]⟩ : ByteArray)) ++ t189) ++ (⟨#[32, 71, 77, 84]⟩ : ByteArray))) else (none)) else (none))) else (none)) else (none))) else (none)) else (none)) else (none)) else (none))) else (none)) else (none))) else (none)) else (none)) else (none)) else (none)) else (none)))) = some r := H
  have A4 := Aside0.mk A40
  clear A40
  replace H := Option.bind_eq_some_iff.mp H
  obtain ⟨t178, A50, H⟩ := H
  replace H : ((impl_Weekday.f a0).bind fun t181 => (if 0 ≤ t181 then (if t181 < (t178.length : Int) then (if 0 ≤ 3 then (if 3 ≤ ((rdOf ByteArray.empty t178 t181).size : Int) then (if ((rdOf ByteArray.empty t178 t181).extract 0 3).size + 2 ≤ 9223372036854775807 then ((impl_digits.f t173 2).bind fun t183 => (if (((rdOf ByteArray.empty t178 t181).extract 0 3) ++ (⟨#[44, 32]⟩ : ByteArray)).size + t183.size ≤ 9223372036854775807 then (if ((((rdOf ByteArray.empty t178 t181).extract 0 3) ++ (⟨#[44, 32]⟩ : ByteArray)) ++ t183).size + 1 ≤ 9223372036854775807 then ((impl_months.f).bind fun t184 => (if 0 ≤ (wrap64 (t172 - 1)) then (if (wrap64 (t172 - 1)) < (t184.length : Int) then (if (((((rdOf ByteArray.empty t178 t181).extract 0 3) ++ (⟨#[44, 32]⟩ : ByteArray)) ++ t183) ++ (⟨#[32]⟩ : ByteArray)).size + (rdOf ByteArray.empty t184 (wrap64 (t172 - 1))).size ≤ 9223372036854775807 then (if ((((((rdOf ByteArray.empty t178 t181).extract 0 3) ++ (⟨#[44, 32]⟩ : ByteArray)) ++ t183) ++ (⟨#[32]⟩ : ByteArray)) ++ (rdOf ByteArray.empty t184 (wrap64 (t172 - 1)))).size + 1 ≤ 9223372036854775807 then ((impl_digits.f t171 4).bind fun t188 => (if (((((((rdOf ByteArray.empty t178 t181).extract 0 3) ++ (⟨#[44, 32]⟩ : ByteArray)) ++ t183) ++ (⟨#[32]⟩ : ByteArray)) ++ (rdOf ByteArray.empty t184 (wrap64 (t172 - 1)))) ++ (⟨#[32]⟩ : ByteArray)).size + t188.size ≤ 9223372036854775807 then (if ((((((((rdOf ByteArray.empty t178 t181).extract 0 3) ++ (⟨#[44, 32]⟩ : ByteArray)) ++ t183) ++ (⟨#[32]⟩ : ByteArray)) ++ (rdOf ByteArray.empty t184 (wrap64 (t172 - 1)))) ++ (⟨#[32]⟩ : ByteArray)) ++ t188).size + 1 ≤ 9223372036854775807 then ((impl_clock.f t171 t172 t173 t174 t175 t176).bind fun t189 => (if (((((((((rdOf ByteArray.empty t178 t181).extract 0 3) ++ (⟨#[44, 32]⟩ : ByteArray)) ++ t183) ++ (⟨#[32]⟩ : ByteArray)) ++ (rdOf ByteArray.empty t184 (wrap64 (t172 - 1)))) ++ (⟨#[32]⟩ : ByteArray)) ++ t188) ++ (⟨#[32]⟩ : ByteArray)).size + t189.size ≤ 9223372036854775807 then (if ((((((((((rdOf ByteArray.empty t178 t181).extract 0 3) ++ (⟨#[44, 32]⟩ : ByteArray)) ++ t183) ++ (⟨#[32]⟩ : ByteArray)) ++ (rdOf ByteArray.empty t184 (wrap64 (t172 - 1)))) ++ (⟨#[32]⟩ : ByteArray)) ++ t188) ++ (⟨#[32]⟩ : ByteArray)) ++ t189).size + 4 ≤ 9223372036854775807 then (some (((((((((((rdOf ByteArray.empty t178 t181).extract 0 3) ++ (⟨#[44, 32]⟩ : ByteArray)) ++ t183) ++ (⟨#[32]⟩ : ByteArray)) ++ (rdOf ByteArray.empty t184 (wrap64 (t172 - 1)))) ++ (⟨#[32]⟩ : ByteArray)) ++ t188) ++ (⟨#[32]⟩ : ByteArray)) ++ t189) ++ (⟨#[32, 71, 77, 84]⟩ : ByteArray))) else (none)) else (none))) else (none)) else (none))) else (none)) else (none)) else (none)) else (none))) else (none)) else (none))) else (none)) else (none)) else (none)) else (none)) else (none))) = some r := H
  have A5 := Aside0.mk A50
  clear A50
  replace H := Option.bind_eq_some_iff.mp H
  obtain ⟨t181, A60, H⟩ := H
  replace H : (if 0 ≤ t181 then (if t181 < (t178.length : Int) then (if 0 ≤ 3 then (if 3 ≤ ((rdOf ByteArray.empty t178 t181).size : Int) then (if ((rdOf ByteArray.empty t178 t181).extract 0 3).size + 2 ≤ 9223372036854775807 then ((impl_digits.f t173 2).bind fun t183 => (if (((rdOf ByteArray.empty t178 t181).extract 0 3) ++ (⟨#[44, 32]⟩ : ByteArray)).size + t183.size ≤ 9223372036854775807 then (if ((((rdOf ByteArray.empty t178 t181).extract 0 3) ++ (⟨#[44, 32]⟩ : ByteArray)) ++ t183).size + 1 ≤ 9223372036854775807 then ((impl_months.f).bind fun t184 => (if 0 ≤ (wrap64 (t172 - 1)) then (if (wrap64 (t172 - 1)) < (t184.length : Int) then (if (((((rdOf ByteArray.empty t178 t181).extract 0 3) ++ (⟨#[44, 32]⟩ : ByteArray)) ++ t183) ++ (⟨#[32]⟩ : ByteArray)).size + (rdOf ByteArray.empty t184 (wrap64 (t172 - 1))).size ≤ 9223372036854775807 then (if ((((((rdOf ByteArray.empty t178 t181).extract 0 3) ++ (⟨#[44, 32]⟩ : ByteArray)) ++ t183) ++ (⟨#[32]⟩ : ByteArray)) ++ (rdOf ByteArray.empty t184 (wrap64 (t172 - 1)))).size + 1 ≤ 9223372036854775807 then ((impl_digits.f t171 4).bind fun t188 => (if (((((((rdOf ByteArray.empty t178 t181).extract 0 3) ++ (⟨#[44, 32]⟩ : ByteArray)) ++ t183) ++ (⟨#[32]⟩ : ByteArray)) ++ (rdOf ByteArray.empty t184 (wrap64 (t172 - 1)))) ++ (⟨#[32]⟩ : ByteArray)).size + t188.size ≤ 9223372036854775807 then (if ((((((((rdOf ByteArray.empty t178 t181).extract 0 3) ++ (⟨#[44, 32]⟩ : ByteArray)) ++ t183) ++ (⟨#[32]⟩ : ByteArray)) ++ (rdOf ByteArray.empty t184 (wrap64 (t172 - 1)))) ++ (⟨#[32]⟩ : ByteArray)) ++ t188).size + 1 ≤ 9223372036854775807 then ((impl_clock.f t171 t172 t173 t174 t175 t176).bind fun t189 => (if (((((((((rdOf ByteArray.empty t178 t181).extract 0 3) ++ (⟨#[44, 32]⟩ : ByteArray)) ++ t183) ++ (⟨#[32]⟩ : ByteArray)) ++ (rdOf ByteArray.empty t184 (wrap64 (t172 - 1)))) ++ (⟨#[32]⟩ : ByteArray)) ++ t188) ++ (⟨#[32]⟩ : ByteArray)).size + t189.size ≤ 9223372036854775807 then (if ((((((((((rdOf ByteArray.empty t178 t181).extract 0 3) ++ (⟨#[44, 32]⟩ : ByteArray)) ++ t183) ++ (⟨#[32]⟩ : ByteArray)) ++ (rdOf ByteArray.empty t184 (wrap64 (t172 - 1)))) ++ (⟨#[32]⟩ : ByteArray)) ++ t188) ++ (⟨#[32]⟩ : ByteArray)) ++ t189).size + 4 ≤ 9223372036854775807 then (some (((((((((((rdOf ByteArray.empty t178 t181).extract 0 3) ++ (⟨#[44, 32]⟩ : ByteArray)) ++ t183) ++ (⟨#[32]⟩ : ByteArray)) ++ (rdOf ByteArray.empty t184 (wrap64 (t172 - 1)))) ++ (⟨#[32]⟩ : ByteArray)) ++ t188) ++ (⟨#[32]⟩ : ByteArray)) ++ t189) ++ (⟨#[32, 71, 77, 84]⟩ : ByteArray))) else (none)) else (none))) else (none)) else (none))) else (none)) else (none)) else (none)) else (none))) else (none)) else (none))) else (none)) else (none)) else (none)) else (none)) else (none)) = some r := H
  have A6 := Aside0.mk A60
  clear A60
  have c7 : 0 ≤ t181 := Classical.byContradiction fun h_ => by rw [if_neg h_] at H; exact absurd H (by simp)
  rw [if_pos c7] at H
  have c7b0 : decide (0 ≤ t181) = true := decide_eq_true c7
  clear c7
  have c8 : t181 < (t178.length : Int) := Classical.byContradiction fun h_ => by rw [if_neg h_] at H; exact absurd H (by simp)
  rw [if_pos c8] at H
  have c8b0 : decide (t181 < (t178.length : Int)) = true := decide_eq_true c8
  clear c8
  have c9 : 0 ≤ 3 := Classical.byContradiction fun h_ => by rw [if_neg h_] at H; exact absurd H (by simp)
  rw [if_pos c9] at H
  have c9b0 := eq_true c9
  have c9b1 : decide (0 ≤ 3) = true := decide_eq_true c9
  clear c9
  have c10 : 3 ≤ ((rdOf ByteArray.empty t178 t181).size : Int) := Classical.byContradiction fun h_ => by rw [if_neg h_] at H; exact absurd H (by simp)
  rw [if_pos c10] at H
  have c10b0 := eq_true c10
  have c10b1 : decide (3 ≤ ((rdOf ByteArray.empty t178 t181).size : Int)) = true := decide_eq_true c10
  clear c10
  have c11 : ((rdOf ByteArray.empty t178 t181).extract 0 3).size + 2 ≤ 9223372036854775807 := Classical.byContradiction fun h_ => by rw [if_neg h_] at H; exact absurd H (by simp)
  rw [if_pos c11] at H
  have c11b0 := eq_true c11
  have c11b1 : decide (((rdOf ByteArray.empty t178 t181).extract 0 3).size + 2 ≤ 9223372036854775807) = true := decide_eq_true c11
  try have c11b2 : (9223372036854775807 < ((rdOf ByteArray.empty t178 t181).extract 0 3).size + 2) = False := eq_false (Nat.not_lt.2 c11)
  (try (have c11v2 : (9223372036854775807 < min 3 (rdOf ByteArray.empty t178 t181).size + 2) = False := eq_false (by have h_ := c11; simp only [ByteArray.size_append, ByteArray.size_extract] at h_; omega)))
  replace H := Option.bind_eq_some_iff.mp H
  obtain ⟨t183, A120, H⟩ := H
  replace H : (if (((rdOf ByteArray.empty t178 t181).extract 0 3) ++ (⟨#[44, 32]⟩ : ByteArray)).size + t183.size ≤ 9223372036854775807 then (if ((((rdOf ByteArray.empty t178 t181).extract 0 3) ++ (⟨#[44, 32]⟩ : ByteArray)) ++ t183).size + 1 ≤ 9223372036854775807 then ((impl_months.f).bind fun t184 => (if 0 ≤ (wrap64 (t172 - 1)) then (if (wrap64 (t172 - 1)) < (t184.length : Int) then (if (((((rdOf ByteArray.empty t178 t181).extract 0 3) ++ (⟨#[44, 32]⟩ : ByteArray)) ++ t183) ++ (⟨#[32]⟩ : ByteArray)).size + (rdOf ByteArray.empty t184 (wrap64 (t172 - 1))).size ≤ 9223372036854775807 then (if ((((((rdOf ByteArray.empty t178 t181).extract 0 3) ++ (⟨#[44, 32]⟩ : ByteArray)) ++ t183) ++ (⟨#[32]⟩ : ByteArray)) ++ (rdOf ByteArray.empty t184 (wrap64 (t172 - 1)))).size + 1 ≤ 9223372036854775807 then ((impl_digits.f t171 4).bind fun t188 => (if (((((((rdOf ByteArray.empty t178 t181).extract 0 3) ++ (⟨#[44, 32]⟩ : ByteArray)) ++ t183) ++ (⟨#[32]⟩ : ByteArray)) ++ (rdOf ByteArray.empty t184 (wrap64 (t172 - 1)))) ++ (⟨#[32]⟩ : ByteArray)).size + t188.size ≤ 9223372036854775807 then (if ((((((((rdOf ByteArray.empty t178 t181).extract 0 3) ++ (⟨#[44, 32]⟩ : ByteArray)) ++ t183) ++ (⟨#[32]⟩ : ByteArray)) ++ (rdOf ByteArray.empty t184 (wrap64 (t172 - 1)))) ++ (⟨#[32]⟩ : ByteArray)) ++ t188).size + 1 ≤ 9223372036854775807 then ((impl_clock.f t171 t172 t173 t174 t175 t176).bind fun t189 => (if (((((((((rdOf ByteArray.empty t178 t181).extract 0 3) ++ (⟨#[44, 32]⟩ : ByteArray)) ++ t183) ++ (⟨#[32]⟩ : ByteArray)) ++ (rdOf ByteArray.empty t184 (wrap64 (t172 - 1)))) ++ (⟨#[32]⟩ : ByteArray)) ++ t188) ++ (⟨#[32]⟩ : ByteArray)).size + t189.size ≤ 9223372036854775807 then (if ((((((((((rdOf ByteArray.empty t178 t181).extract 0 3) ++ (⟨#[44, 32]⟩ : ByteArray)) ++ t183) ++ (⟨#[32]⟩ : ByteArray)) ++ (rdOf ByteArray.empty t184 (wrap64 (t172 - 1)))) ++ (⟨#[32]⟩ : ByteArray)) ++ t188) ++ (⟨#[32]⟩ : ByteArray)) ++ t189).size + 4 ≤ 9223372036854775807 then (some (((((((((((rdOf ByteArray.empty t178 t181).extract 0 3) ++ (⟨#[44, 32]⟩ : ByteArray)) ++ t183) ++ (⟨#[32]⟩ : ByteArray)) ++ (rdOf ByteArray.empty t184 (wrap64 (t172 - 1)))) ++ (⟨#[32]⟩ : ByteArray)) ++ t188) ++ (⟨#[32]⟩ : ByteArray)) ++ t189) ++ (⟨#[32, 71, 77, 84]⟩ : ByteArray))) else (none)) else (none))) else (none)) else (none))) else (none)) else (none)) else (none)) else (none))) else (none)) else (none)) = some r := H
  have A12 := Aside0.mk A120
  clear A120
  have c13 : (((rdOf ByteArray.empty t178 t181).extract 0 3) ++ (⟨#[44, 32]⟩ : ByteArray)).size + t183.size ≤ 9223372036854775807 := Classical.byContradiction fun h_ => by rw [if_neg h_] at H; exact absurd H (by simp)
  rw [if_pos c13] at H
  have c13b0 := eq_true c13
  have c13b1 : decide ((((rdOf ByteArray.empty t178 t181).extract 0 3) ++ (⟨#[44, 32]⟩ : ByteArray)).size + t183.size ≤ 9223372036854775807) = true := decide_eq_true c13
  try have c13b2 : (9223372036854775807 < (((rdOf ByteArray.empty t178 t181).extract 0 3) ++ (⟨#[44, 32]⟩ : ByteArray)).size + t183.size) = False := eq_false (Nat.not_lt.2 c13)
  (try (have c13v2 : (9223372036854775807 < (min 3 (rdOf ByteArray.empty t178 t181).size + 2) + t183.size) = False := eq_false (by have h_ := c13; simp only [ByteArray.size_append, ByteArray.size_extract, show (⟨#[44, 32]⟩ : ByteArray).size = 2 from rfl] at h_; omega)))
  (try (have c13y0 := c13b0; simp only [ByteArray.size_append] at c13y0))
  (try (have c13z0 := c13b0; simp only [ByteArray.size_append, Int.natCast_add] at c13z0))
  (try (have c13y1 := c13b1; simp only [ByteArray.size_append] at c13y1))
  (try (have c13z1 := c13b1; simp only [ByteArray.size_append, Int.natCast_add] at c13z1))
  have c14 : ((((rdOf ByteArray.empty t178 t181).extract 0 3) ++ (⟨#[44, 32]⟩ : ByteArray)) ++ t183).size + 1 ≤ 9223372036854775807 := Classical.byContradiction fun h_ => by rw [if_neg h_] at H; exact absurd H (by simp)
  rw [if_pos c14] at H
  have c14b0 := eq_true c14
  have c14b1 : decide (((((rdOf ByteArray.empty t178 t181).extract 0 3) ++ (⟨#[44, 32]⟩ : ByteArray)) ++ t183).size + 1 ≤ 9223372036854775807) = true := decide_eq_true c14
  try have c14b2 : (9223372036854775807 < ((((rdOf ByteArray.empty t178 t181).extract 0 3) ++ (⟨#[44, 32]⟩ : ByteArray)) ++ t183).size + 1) = False := eq_false (Nat.not_lt.2 c14)
  (try (have c14v2 : (9223372036854775807 < ((min 3 (rdOf ByteArray.empty t178 t181).size + 2) + t183.size) + 1) = False := eq_false (by have h_ := c14; simp only [ByteArray.size_append, ByteArray.size_extract, show (⟨#[44, 32]⟩ : ByteArray).size = 2 from rfl] at h_; omega)))
  (try (have c14y0 := c14b0; simp only [ByteArray.size_append] at c14y0))
  (try (have c14z0 := c14b0; simp only [ByteArray.size_append, Int.natCast_add] at c14z0))
  (try (have c14y1 := c14b1; simp only [ByteArray.size_append] at c14y1))
  (try (have c14z1 := c14b1; simp only [ByteArray.size_append, Int.natCast_add] at c14z1))
  replace H := Option.bind_eq_some_iff.mp H
  obtain ⟨t184, A150, H⟩ := H
  replace H : (if 0 ≤ (wrap64 (t172 - 1)) then (if (wrap64 (t172 - 1)) < (t184.length : Int) then (if (((((rdOf ByteArray.empty t178 t181).extract 0 3) ++ (⟨#[44, 32]⟩ : ByteArray)) ++ t183) ++ (⟨#[32]⟩ : ByteArray)).size + (rdOf ByteArray.empty t184 (wrap64 (t172 - 1))).size ≤ 9223372036854775807 then (if ((((((rdOf ByteArray.empty t178 t181).extract 0 3) ++ (⟨#[44, 32]⟩ : ByteArray)) ++ t183) ++ (⟨#[32]⟩ : ByteArray)) ++ (rdOf ByteArray.empty t184 (wrap64 (t172 - 1)))).size + 1 ≤ 9223372036854775807 then ((impl_digits.f t171 4).bind fun t188 => (if (((((((rdOf ByteArray.empty t178 t181).extract 0 3) ++ (⟨#[44, 32]⟩ : ByteArray)) ++ t183) ++ (⟨#[32]⟩ : ByteArray)) ++ (rdOf ByteArray.empty t184 (wrap64 (t172 - 1)))) ++ (⟨#[32]⟩ : ByteArray)).size + t188.size ≤ 9223372036854775807 then (if ((((((((rdOf ByteArray.empty t178 t181).extract 0 3) ++ (⟨#[44, 32]⟩ : ByteArray)) ++ t183) ++ (⟨#[32]⟩ : ByteArray)) ++ (rdOf ByteArray.empty t184 (wrap64 (t172 - 1)))) ++ (⟨#[32]⟩ : ByteArray)) ++ t188).size + 1 ≤ 9223372036854775807 then ((impl_clock.f t171 t172 t173 t174 t175 t176).bind fun t189 => (if (((((((((rdOf ByteArray.empty t178 t181).extract 0 3) ++ (⟨#[44, 32]⟩ : ByteArray)) ++ t183) ++ (⟨#[32]⟩ : ByteArray)) ++ (rdOf ByteArray.empty t184 (wrap64 (t172 - 1)))) ++ (⟨#[32]⟩ : ByteArray)) ++ t188) ++ (⟨#[32]⟩ : ByteArray)).size + t189.size ≤ 9223372036854775807 then (if ((((((((((rdOf ByteArray.empty t178 t181).extract 0 3) ++ (⟨#[44, 32]⟩ : ByteArray)) ++ t183) ++ (⟨#[32]⟩ : ByteArray)) ++ (rdOf ByteArray.empty t184 (wrap64 (t172 - 1)))) ++ (⟨#[32]⟩ : ByteArray)) ++ t188) ++ (⟨#[32]⟩ : ByteArray)) ++ t189).size + 4 ≤ 9223372036854775807 then (some (((((((((((rdOf ByteArray.empty t178 t181).extract 0 3) ++ (⟨#[44, 32]⟩ : ByteArray)) ++ t183) ++ (⟨#[32]⟩ : ByteArray)) ++ (rdOf ByteArray.empty t184 (wrap64 (t172 - 1)))) ++ (⟨#[32]⟩ : ByteArray)) ++ t188) ++ (⟨#[32]⟩ : ByteArray)) ++ t189) ++ (⟨#[32, 71, 77, 84]⟩ : ByteArray))) else (none)) else (none))) else (none)) else (none))) else (none)) else (none)) else (none)) else (none)) = some r := H
  have A15 := Aside0.mk A150
  clear A150
  obtain ⟨ji16, hji16⟩ : ∃ j_ : Int, (wrap64 (t172 - 1)) = j_ := ⟨_, rfl⟩
  replace H : (if 0 ≤ (ji16) then (if (ji16) < (t184.length : Int) then (if (((((rdOf ByteArray.empty t178 t181).extract 0 3) ++ (⟨#[44, 32]⟩ : ByteArray)) ++ t183) ++ (⟨#[32]⟩ : ByteArray)).size + (rdOf ByteArray.empty t184 (ji16)).size ≤ 9223372036854775807 then (if ((((((rdOf ByteArray.empty t178 t181).extract 0 3) ++ (⟨#[44, 32]⟩ : ByteArray)) ++ t183) ++ (⟨#[32]⟩ : ByteArray)) ++ (rdOf ByteArray.empty t184 (ji16))).size + 1 ≤ 9223372036854775807 then ((impl_digits.f t171 4).bind fun t188 => (if (((((((rdOf ByteArray.empty t178 t181).extract 0 3) ++ (⟨#[44, 32]⟩ : ByteArray)) ++ t183) ++ (⟨#[32]⟩ : ByteArray)) ++ (rdOf ByteArray.empty t184 (ji16))) ++ (⟨#[32]⟩ : ByteArray)).size + t188.size ≤ 9223372036854775807 then (if ((((((((rdOf ByteArray.empty t178 t181).extract 0 3) ++ (⟨#[44, 32]⟩ : ByteArray)) ++ t183) ++ (⟨#[32]⟩ : ByteArray)) ++ (rdOf ByteArray.empty t184 (ji16))) ++ (⟨#[32]⟩ : ByteArray)) ++ t188).size + 1 ≤ 9223372036854775807 then ((impl_clock.f t171 t172 t173 t174 t175 t176).bind fun t189 => (if (((((((((rdOf ByteArray.empty t178 t181).extract 0 3) ++ (⟨#[44, 32]⟩ : ByteArray)) ++ t183) ++ (⟨#[32]⟩ : ByteArray)) ++ (rdOf ByteArray.empty t184 (ji16))) ++ (⟨#[32]⟩ : ByteArray)) ++ t188) ++ (⟨#[32]⟩ : ByteArray)).size + t189.size ≤ 9223372036854775807 then (if ((((((((((rdOf ByteArray.empty t178 t181).extract 0 3) ++ (⟨#[44, 32]⟩ : ByteArray)) ++ t183) ++ (⟨#[32]⟩ : ByteArray)) ++ (rdOf ByteArray.empty t184 (ji16))) ++ (⟨#[32]⟩ : ByteArray)) ++ t188) ++ (⟨#[32]⟩ : ByteArray)) ++ t189).size + 4 ≤ 9223372036854775807 then (some (((((((((((rdOf ByteArray.empty t178 t181).extract 0 3) ++ (⟨#[44, 32]⟩ : ByteArray)) ++ t183) ++ (⟨#[32]⟩ : ByteArray)) ++ (rdOf ByteArray.empty t184 (ji16))) ++ (⟨#[32]⟩ : ByteArray)) ++ t188) ++ (⟨#[32]⟩ : ByteArray)) ++ t189) ++ (⟨#[32, 71, 77, 84]⟩ : ByteArray))) else (none)) else (none))) else (none)) else (none))) else (none)) else (none)) else (none)) else (none)) = some r := by first | (rw [hji16] at H; exact H) | (simp only [hji16] at H ⊢; exact H)
  (try rw [hji16] at A2)
  (try rw [hji16] at A4)
  (try rw [hji16] at A5)
  (try rw [hji16] at A6)
  (try rw [hji16] at A12)
  (try rw [hji16] at A15)
  have hji16w : (IntKind.i64.wrap (t172 - 1)) = ji16 := (i64_w _).trans hji16
  have c17 : 0 ≤ (ji16) := Classical.byContradiction fun h_ => by rw [if_neg h_] at H; exact absurd H (by simp)
  rw [if_pos c17] at H
  have c17b0 : decide (0 ≤ (ji16)) = true := decide_eq_true c17
  clear c17
  have c18 : (ji16) < (t184.length : Int) := Classical.byContradiction fun h_ => by rw [if_neg h_] at H; exact absurd H (by simp)
  rw [if_pos c18] at H
  have c18b0 : decide ((ji16) < (t184.length : Int)) = true := decide_eq_true c18
  clear c18
  have c19 : (((((rdOf ByteArray.empty t178 t181).extract 0 3) ++ (⟨#[44, 32]⟩ : ByteArray)) ++ t183) ++ (⟨#[32]⟩ : ByteArray)).size + (rdOf ByteArray.empty t184 (ji16)).size ≤ 9223372036854775807 := Classical.byContradiction fun h_ => by rw [if_neg h_] at H; exact absurd H (by simp)
  rw [if_pos c19] at H
  have c19b0 := eq_true c19
  have c19b1 : decide ((((((rdOf ByteArray.empty t178 t181).extract 0 3) ++ (⟨#[44, 32]⟩ : ByteArray)) ++ t183) ++ (⟨#[32]⟩ : ByteArray)).size + (rdOf ByteArray.empty t184 (ji16)).size ≤ 9223372036854775807) = true := decide_eq_true c19
  try have c19b2 : (9223372036854775807 < (((((rdOf ByteArray.empty t178 t181).extract 0 3) ++ (⟨#[44, 32]⟩ : ByteArray)) ++ t183) ++ (⟨#[32]⟩ : ByteArray)).size + (rdOf ByteArray.empty t184 (ji16)).size) = False := eq_false (Nat.not_lt.2 c19)
  (try (have c19v2 : (9223372036854775807 < (((min 3 (rdOf ByteArray.empty t178 t181).size + 2) + t183.size) + 1) + (rdOf ByteArray.empty t184 (ji16)).size) = False := eq_false (by have h_ := c19; simp only [ByteArray.size_append, ByteArray.size_extract, show (⟨#[32]⟩ : ByteArray).size = 1 from rfl, show (⟨#[44, 32]⟩ : ByteArray).size = 2 from rfl] at h_; omega)))
  (try (have c19y0 := c19b0; simp only [ByteArray.size_append] at c19y0))
  (try (have c19z0 := c19b0; simp only [ByteArray.size_append, Int.natCast_add] at c19z0))
  (try (have c19y1 := c19b1; simp only [ByteArray.size_append] at c19y1))
  (try (have c19z1 := c19b1; simp only [ByteArray.size_append, Int.natCast_add] at c19z1))
  have c20 : ((((((rdOf ByteArray.empty t178 t181).extract 0 3) ++ (⟨#[44, 32]⟩ : ByteArray)) ++ t183) ++ (⟨#[32]⟩ : ByteArray)) ++ (rdOf ByteArray.empty t184 (ji16))).size + 1 ≤ 9223372036854775807 := Classical.byContradiction fun h_ => by rw [if_neg h_] at H; exact absurd H (by simp)
  rw [if_pos c20] at H
  have c20b0 := eq_true c20
  have c20b1 : decide (((((((rdOf ByteArray.empty t178 t181).extract 0 3) ++ (⟨#[44, 32]⟩ : ByteArray)) ++ t183) ++ (⟨#[32]⟩ : ByteArray)) ++ (rdOf ByteArray.empty t184 (ji16))).size + 1 ≤ 9223372036854775807) = true := decide_eq_true c20
  try have c20b2 : (9223372036854775807 < ((((((rdOf ByteArray.empty t178 t181).extract 0 3) ++ (⟨#[44, 32]⟩ : ByteArray)) ++ t183) ++ (⟨#[32]⟩ : ByteArray)) ++ (rdOf ByteArray.empty t184 (ji16))).size + 1) = False := eq_false (Nat.not_lt.2 c20)
  (try (have c20v2 : (9223372036854775807 < ((((min 3 (rdOf ByteArray.empty t178 t181).size + 2) + t183.size) + 1) + (rdOf ByteArray.empty t184 (ji16)).size) + 1) = False := eq_false (by have h_ := c20; simp only [ByteArray.size_append, ByteArray.size_extract, show (⟨#[32]⟩ : ByteArray).size = 1 from rfl, show (⟨#[44, 32]⟩ : ByteArray).size = 2 from rfl] at h_; omega)))
  (try (have c20y0 := c20b0; simp only [ByteArray.size_append] at c20y0))
  (try (have c20z0 := c20b0; simp only [ByteArray.size_append, Int.natCast_add] at c20z0))
  (try (have c20y1 := c20b1; simp only [ByteArray.size_append] at c20y1))
  (try (have c20z1 := c20b1; simp only [ByteArray.size_append, Int.natCast_add] at c20z1))
  replace H := Option.bind_eq_some_iff.mp H
  obtain ⟨t188, A210, H⟩ := H
  replace H : (if (((((((rdOf ByteArray.empty t178 t181).extract 0 3) ++ (⟨#[44, 32]⟩ : ByteArray)) ++ t183) ++ (⟨#[32]⟩ : ByteArray)) ++ (rdOf ByteArray.empty t184 (ji16))) ++ (⟨#[32]⟩ : ByteArray)).size + t188.size ≤ 9223372036854775807 then (if ((((((((rdOf ByteArray.empty t178 t181).extract 0 3) ++ (⟨#[44, 32]⟩ : ByteArray)) ++ t183) ++ (⟨#[32]⟩ : ByteArray)) ++ (rdOf ByteArray.empty t184 (ji16))) ++ (⟨#[32]⟩ : ByteArray)) ++ t188).size + 1 ≤ 9223372036854775807 then ((impl_clock.f t171 t172 t173 t174 t175 t176).bind fun t189 => (if (((((((((rdOf ByteArray.empty t178 t181).extract 0 3) ++ (⟨#[44, 32]⟩ : ByteArray)) ++ t183) ++ (⟨#[32]⟩ : ByteArray)) ++ (rdOf ByteArray.empty t184 (ji16))) ++ (⟨#[32]⟩ : ByteArray)) ++ t188) ++ (⟨#[32]⟩ : ByteArray)).size + t189.size ≤ 9223372036854775807 then (if ((((((((((rdOf ByteArray.empty t178 t181).extract 0 3) ++ (⟨#[44, 32]⟩ : ByteArray)) ++ t183) ++ (⟨#[32]⟩ : ByteArray)) ++ (rdOf ByteArray.empty t184 (ji16))) ++ (⟨#[32]⟩ : ByteArray)) ++ t188) ++ (⟨#[32]⟩ : ByteArray)) ++ t189).size + 4 ≤ 9223372036854775807 then (some (((((((((((rdOf ByteArray.empty t178 t181).extract 0 3) ++ (⟨#[44, 32]⟩ : ByteArray)) ++ t183) ++ (⟨#[32]⟩ : ByteArray)) ++ (rdOf ByteArray.empty t184 (ji16))) ++ (⟨#[32]⟩ : ByteArray)) ++ t188) ++ (⟨#[32]⟩ : ByteArray)) ++ t189) ++ (⟨#[32, 71, 77, 84]⟩ : ByteArray))) else (none)) else (none))) else (none)) else (none)) = some r := H
  have A21 := Aside0.mk A210
  clear A210
  have c22 : (((((((rdOf ByteArray.empty t178 t181).extract 0 3) ++ (⟨#[44, 32]⟩ : ByteArray)) ++ t183) ++ (⟨#[32]⟩ : ByteArray)) ++ (rdOf ByteArray.empty t184 (ji16))) ++ (⟨#[32]⟩ : ByteArray)).size + t188.size ≤ 9223372036854775807 := Classical.byContradiction fun h_ => by rw [if_neg h_] at H; exact absurd H (by simp)
  rw [if_pos c22] at H
  have c22b0 := eq_true c22
  have c22b1 : decide ((((((((rdOf ByteArray.empty t178 t181).extract 0 3) ++ (⟨#[44, 32]⟩ : ByteArray)) ++ t183) ++ (⟨#[32]⟩ : ByteArray)) ++ (rdOf ByteArray.empty t184 (ji16))) ++ (⟨#[32]⟩ : ByteArray)).size + t188.size ≤ 9223372036854775807) = true := decide_eq_true c22
  try have c22b2 : (9223372036854775807 < (((((((rdOf ByteArray.empty t178 t181).extract 0 3) ++ (⟨#[44, 32]⟩ : ByteArray)) ++ t183) ++ (⟨#[32]⟩ : ByteArray)) ++ (rdOf ByteArray.empty t184 (ji16))) ++ (⟨#[32]⟩ : ByteArray)).size + t188.size) = False := eq_false (Nat.not_lt.2 c22)
  (try (have c22v2 : (9223372036854775807 < (((((min 3 (rdOf ByteArray.empty t178 t181).size + 2) + t183.size) + 1) + (rdOf ByteArray.empty t184 (ji16)).size) + 1) + t188.size) = False := eq_false (by have h_ := c22; simp only [ByteArray.size_append, ByteArray.size_extract, show (⟨#[32]⟩ : ByteArray).size = 1 from rfl, show (⟨#[44, 32]⟩ : ByteArray).size = 2 from rfl] at h_; omega)))
  (try (have c22y0 := c22b0; simp only [ByteArray.size_append] at c22y0))
  (try (have c22z0 := c22b0; simp only [ByteArray.size_append, Int.natCast_add] at c22z0))
  (try (have c22y1 := c22b1; simp only [ByteArray.size_append] at c22y1))
  (try (have c22z1 := c22b1; simp only [ByteArray.size_append, Int.natCast_add] at c22z1))
  have c23 : ((((((((rdOf ByteArray.empty t178 t181).extract 0 3) ++ (⟨#[44, 32]⟩ : ByteArray)) ++ t183) ++ (⟨#[32]⟩ : ByteArray)) ++ (rdOf ByteArray.empty t184 (ji16))) ++ (⟨#[32]⟩ : ByteArray)) ++ t188).size + 1 ≤ 9223372036854775807 := Classical.byContradiction fun h_ => by rw [if_neg h_] at H; exact absurd H (by simp)
  rw [if_pos c23] at H
  have c23b0 := eq_true c23
  have c23b1 : decide (((((((((rdOf ByteArray.empty t178 t181).extract 0 3) ++ (⟨#[44, 32]⟩ : ByteArray)) ++ t183) ++ (⟨#[32]⟩ : ByteArray)) ++ (rdOf ByteArray.empty t184 (ji16))) ++ (⟨#[32]⟩ : ByteArray)) ++ t188).size + 1 ≤ 9223372036854775807) = true := decide_eq_true c23
  try have c23b2 : (9223372036854775807 < ((((((((rdOf ByteArray.empty t178 t181).extract 0 3) ++ (⟨#[44, 32]⟩ : ByteArray)) ++ t183) ++ (⟨#[32]⟩ : ByteArray)) ++ (rdOf ByteArray.empty t184 (ji16))) ++ (⟨#[32]⟩ : ByteArray)) ++ t188).size + 1) = False := eq_false (Nat.not_lt.2 c23)
  (try (have c23v2 : (9223372036854775807 < ((((((min 3 (rdOf ByteArray.empty t178 t181).size + 2) + t183.size) + 1) + (rdOf ByteArray.empty t184 (ji16)).size) + 1) + t188.size) + 1) = False := eq_false (by have h_ := c23; simp only [ByteArray.size_append, ByteArray.size_extract, show (⟨#[32]⟩ : ByteArray).size = 1 from rfl, show (⟨#[44, 32]⟩ : ByteArray).size = 2 from rfl] at h_; omega)))
  (try (have c23y0 := c23b0; simp only [ByteArray.size_append] at c23y0))
  (try (have c23z0 := c23b0; simp only [ByteArray.size_append, Int.natCast_add] at c23z0))
  (try (have c23y1 := c23b1; simp only [ByteArray.size_append] at c23y1))
  (try (have c23z1 := c23b1; simp only [ByteArray.size_append, Int.natCast_add] at c23z1))
  replace H := Option.bind_eq_some_iff.mp H
  obtain ⟨t189, A240, H⟩ := H
  replace H : (if (((((((((rdOf ByteArray.empty t178 t181).extract 0 3) ++ (⟨#[44, 32]⟩ : ByteArray)) ++ t183) ++ (⟨#[32]⟩ : ByteArray)) ++ (rdOf ByteArray.empty t184 (ji16))) ++ (⟨#[32]⟩ : ByteArray)) ++ t188) ++ (⟨#[32]⟩ : ByteArray)).size + t189.size ≤ 9223372036854775807 then (if ((((((((((rdOf ByteArray.empty t178 t181).extract 0 3) ++ (⟨#[44, 32]⟩ : ByteArray)) ++ t183) ++ (⟨#[32]⟩ : ByteArray)) ++ (rdOf ByteArray.empty t184 (ji16))) ++ (⟨#[32]⟩ : ByteArray)) ++ t188) ++ (⟨#[32]⟩ : ByteArray)) ++ t189).size + 4 ≤ 9223372036854775807 then (some (((((((((((rdOf ByteArray.empty t178 t181).extract 0 3) ++ (⟨#[44, 32]⟩ : ByteArray)) ++ t183) ++ (⟨#[32]⟩ : ByteArray)) ++ (rdOf ByteArray.empty t184 (ji16))) ++ (⟨#[32]⟩ : ByteArray)) ++ t188) ++ (⟨#[32]⟩ : ByteArray)) ++ t189) ++ (⟨#[32, 71, 77, 84]⟩ : ByteArray))) else (none)) else (none)) = some r := H
  have A24 := Aside0.mk A240
  clear A240
  have c25 : (((((((((rdOf ByteArray.empty t178 t181).extract 0 3) ++ (⟨#[44, 32]⟩ : ByteArray)) ++ t183) ++ (⟨#[32]⟩ : ByteArray)) ++ (rdOf ByteArray.empty t184 (ji16))) ++ (⟨#[32]⟩ : ByteArray)) ++ t188) ++ (⟨#[32]⟩ : ByteArray)).size + t189.size ≤ 9223372036854775807 := Classical.byContradiction fun h_ => by rw [if_neg h_] at H; exact absurd H (by simp)
  rw [if_pos c25] at H
  have c25b0 := eq_true c25
  have c25b1 : decide ((((((((((rdOf ByteArray.empty t178 t181).extract 0 3) ++ (⟨#[44, 32]⟩ : ByteArray)) ++ t183) ++ (⟨#[32]⟩ : ByteArray)) ++ (rdOf ByteArray.empty t184 (ji16))) ++ (⟨#[32]⟩ : ByteArray)) ++ t188) ++ (⟨#[32]⟩ : ByteArray)).size + t189.size ≤ 9223372036854775807) = true := decide_eq_true c25
  try have c25b2 : (9223372036854775807 < (((((((((rdOf ByteArray.empty t178 t181).extract 0 3) ++ (⟨#[44, 32]⟩ : ByteArray)) ++ t183) ++ (⟨#[32]⟩ : ByteArray)) ++ (rdOf ByteArray.empty t184 (ji16))) ++ (⟨#[32]⟩ : ByteArray)) ++ t188) ++ (⟨#[32]⟩ : ByteArray)).size + t189.size) = False := eq_false (Nat.not_lt.2 c25)
  (try (have c25v2 : (9223372036854775807 < (((((((min 3 (rdOf ByteArray.empty t178 t181).size + 2) + t183.size) + 1) + (rdOf ByteArray.empty t184 (ji16)).size) + 1) + t188.size) + 1) + t189.size) = False := eq_false (by have h_ := c25; simp only [ByteArray.size_append, ByteArray.size_extract, show (⟨#[32]⟩ : ByteArray).size = 1 from rfl, show (⟨#[44, 32]⟩ : ByteArray).size = 2 from rfl] at h_; omega)))
  (try (have c25y0 := c25b0; simp only [ByteArray.size_append] at c25y0))
  (try (have c25z0 := c25b0; simp only [ByteArray.size_append, Int.natCast_add] at c25z0))
  (try (have c25y1 := c25b1; simp only [ByteArray.size_append] at c25y1))
  (try (have c25z1 := c25b1; simp only [ByteArray.size_append, Int.natCast_add] at c25z1))
  have c26 : ((((((((((rdOf ByteArray.empty t178 t181).extract 0 3) ++ (⟨#[44, 32]⟩ : ByteArray)) ++ t183) ++ (⟨#[32]⟩ : ByteArray)) ++ (rdOf ByteArray.empty t184 (ji16))) ++ (⟨#[32]⟩ : ByteArray)) ++ t188) ++ (⟨#[32]⟩ : ByteArray)) ++ t189).size + 4 ≤ 9223372036854775807 := Classical.byContradiction fun h_ => by rw [if_neg h_] at H; exact absurd H (by simp)
  rw [if_pos c26] at H
  have c26b0 := eq_true c26
  have c26b1 : decide (((((((((((rdOf ByteArray.empty t178 t181).extract 0 3) ++ (⟨#[44, 32]⟩ : ByteArray)) ++ t183) ++ (⟨#[32]⟩ : ByteArray)) ++ (rdOf ByteArray.empty t184 (ji16))) ++ (⟨#[32]⟩ : ByteArray)) ++ t188) ++ (⟨#[32]⟩ : ByteArray)) ++ t189).size + 4 ≤ 9223372036854775807) = true := decide_eq_true c26
  try have c26b2 : (9223372036854775807 < ((((((((((rdOf ByteArray.empty t178 t181).extract 0 3) ++ (⟨#[44, 32]⟩ : ByteArray)) ++ t183) ++ (⟨#[32]⟩ : ByteArray)) ++ (rdOf ByteArray.empty t184 (ji16))) ++ (⟨#[32]⟩ : ByteArray)) ++ t188) ++ (⟨#[32]⟩ : ByteArray)) ++ t189).size + 4) = False := eq_false (Nat.not_lt.2 c26)
  (try (have c26v2 : (9223372036854775807 < ((((((((min 3 (rdOf ByteArray.empty t178 t181).size + 2) + t183.size) + 1) + (rdOf ByteArray.empty t184 (ji16)).size) + 1) + t188.size) + 1) + t189.size) + 4) = False := eq_false (by have h_ := c26; simp only [ByteArray.size_append, ByteArray.size_extract, show (⟨#[32]⟩ : ByteArray).size = 1 from rfl, show (⟨#[44, 32]⟩ : ByteArray).size = 2 from rfl] at h_; omega)))
  (try (have c26y0 := c26b0; simp only [ByteArray.size_append] at c26y0))
  (try (have c26z0 := c26b0; simp only [ByteArray.size_append, Int.natCast_add] at c26z0))
  (try (have c26y1 := c26b1; simp only [ByteArray.size_append] at c26y1))
  (try (have c26z1 := c26b1; simp only [ByteArray.size_append, Int.natCast_add] at c26z1))
  obtain rfl := Option.some.inj H
  go_enter Tryd.func27, Tryd.ntmps27
  try go_wp2_with (first | ((with_reducible refine gate_callee (f := 45) rfl ?_); refine goesL_ (some 5) rfl rfl Tryd.func45 (by kernel_rfl) rfl #[.int .i64 a0] rfl (by (try simp only [List.map_toArray, List.map_cons, List.map_nil]); first | done | rfl | (simp only [List.length_drop, List.length_take]; rfl)) ?_; (with_reducible refine (impl_isTime.calls a0 true _ A2.out).mono ?_); rintro e w' ⟨rfl, ⟨nd, rfl⟩⟩; refine ⟨_, rfl, ?_⟩) | ((with_reducible refine gate_callee (f := 46) rfl ?_); refine goesL_ (some 8) rfl rfl Tryd.func46 (by kernel_rfl) rfl #[.int .i64 a0] rfl (by (try simp only [List.map_toArray, List.map_cons, List.map_nil]); first | done | rfl | (simp only [List.length_drop, List.length_take]; rfl)) ?_; (with_reducible refine (impl_civilOf.calls a0 t171 t172 t173 t174 t175 t176 _ A4.out).mono ?_); rintro e w27 ⟨rfl, hb⟩; refine ⟨_, rfl, ?_⟩; have n0_ := Aside0.mk (below_step (by repeat (first | (with_reducible first | exact HB.out | apply below_alloc | apply pw_below_drewN | apply below_drew1) | exact HB.out)) hb); clear HB; have HB := n0_; clear n0_; (try clear hb); (try clear hb2); (try clear hk); (try clear hi)) | ((with_reducible refine gate_dst (N := 3) rfl ?_); refine box_event ?hg (N := 3) ?hd (cs := #[.int .i64 0, .int .i64 0, .int .i64 0, .int .i64 0, .int .i64 0, .int .i64 0]) (t := 30) ?hr ?_; (case hd => rfl); (case hg => rfl); (case hr => first | (go_simp; done) | (go_simp; rfl)); intro gb177 hg w28 hbox hb; have n0_ := Aside0.mk (below_step (by repeat (first | (with_reducible first | exact HB.out | apply below_alloc | apply pw_below_drewN | apply below_drew1) | exact HB.out)) hb); have n1_ := Aside0.mk (hbox); have n2_ := Aside0.mk ((by rw [hg]; exact (below_size (by repeat (first | (with_reducible first | exact HB.out | apply below_alloc | apply pw_below_drewN | apply below_drew1) | exact HB.out))) : w.heap.size ≤ gb177)); have n3_ := Aside0.mk ((by rw [hg]; exact (below_size (by repeat (first | (with_reducible first | exact HB.out | apply below_alloc | apply pw_below_drewN | apply below_drew1) | exact HB.out))) : w.heap.size ≤ gb177)); clear HB; have HB := n0_; have BK177 := n1_; have GW177 := n2_; have GE177 := n3_; clear n0_ n1_ n2_ n3_; clear hb hbox hg; have hcz29_0 : w28.cell? ⟨gb177, 0, none⟩ = some (.int .i64 0) := (blk_cell BK177.out 0).trans rfl; have hcz29_1 : w28.cell? ⟨gb177, 1, none⟩ = some (.int .i64 0) := (blk_cell BK177.out 1).trans rfl; have hcz29_2 : w28.cell? ⟨gb177, 2, none⟩ = some (.int .i64 0) := (blk_cell BK177.out 2).trans rfl; have hcz29_3 : w28.cell? ⟨gb177, 3, none⟩ = some (.int .i64 0) := (blk_cell BK177.out 3).trans rfl; have hcz29_4 : w28.cell? ⟨gb177, 4, none⟩ = some (.int .i64 0) := (blk_cell BK177.out 4).trans rfl; have hcz29_5 : w28.cell? ⟨gb177, 5, none⟩ = some (.int .i64 0) := (blk_cell BK177.out 5).trans rfl; have hfz29_0 := blk_frozen BK177.out 0; have hfz29_1 := blk_frozen BK177.out 1; have hfz29_2 := blk_frozen BK177.out 2; have hfz29_3 := blk_frozen BK177.out 3; have hfz29_4 := blk_frozen BK177.out 4; have hfz29_5 := blk_frozen BK177.out 5))
  have n0_ : Aside0 (((((((w28.setCell ⟨gb177, 0, none⟩ (.int .i64 t171)).setCell ⟨gb177, 1, none⟩ (.int .i64 t172)).setCell ⟨gb177, 2, none⟩ (.int .i64 t173)).setCell ⟨gb177, 3, none⟩ (.int .i64 t174)).setCell ⟨gb177, 4, none⟩ (.int .i64 t175)).setCell ⟨gb177, 5, none⟩ (.int .i64 t176)).heap[gb177]? = some (.cells #[.int .i64 t171, .int .i64 t172, .int .i64 t173, .int .i64 t174, .int .i64 t175, .int .i64 t176] 30 (0, 0))) := ⟨by (with_reducible repeat (first | refine blk_drewN ?_ _ | refine blk_drew ?_ | refine blk_alloc ?_ _)); refine blk_put (cs := #[.int .i64 t171, .int .i64 t172, .int .i64 t173, .int .i64 t174, .int .i64 t175, .int .i64 0]) ?_ 5 _ rfl; (with_reducible repeat (first | refine blk_drewN ?_ _ | refine blk_drew ?_ | refine blk_alloc ?_ _)); refine blk_put (cs := #[.int .i64 t171, .int .i64 t172, .int .i64 t173, .int .i64 t174, .int .i64 0, .int .i64 0]) ?_ 4 _ rfl; (with_reducible repeat (first | refine blk_drewN ?_ _ | refine blk_drew ?_ | refine blk_alloc ?_ _)); refine blk_put (cs := #[.int .i64 t171, .int .i64 t172, .int .i64 t173, .int .i64 0, .int .i64 0, .int .i64 0]) ?_ 3 _ rfl; (with_reducible repeat (first | refine blk_drewN ?_ _ | refine blk_drew ?_ | refine blk_alloc ?_ _)); refine blk_put (cs := #[.int .i64 t171, .int .i64 t172, .int .i64 0, .int .i64 0, .int .i64 0, .int .i64 0]) ?_ 2 _ rfl; (with_reducible repeat (first | refine blk_drewN ?_ _ | refine blk_drew ?_ | refine blk_alloc ?_ _)); refine blk_put (cs := #[.int .i64 t171, .int .i64 0, .int .i64 0, .int .i64 0, .int .i64 0, .int .i64 0]) ?_ 1 _ rfl; (with_reducible repeat (first | refine blk_drewN ?_ _ | refine blk_drew ?_ | refine blk_alloc ?_ _)); refine blk_put (cs := #[.int .i64 0, .int .i64 0, .int .i64 0, .int .i64 0, .int .i64 0, .int .i64 0]) ?_ 0 _ rfl; (with_reducible repeat (first | refine blk_drewN ?_ _ | refine blk_drew ?_ | refine blk_alloc ?_ _)); exact BK177.out⟩
  have n1_ : Aside0 (Below w.heap.size w ((((((w28.setCell ⟨gb177, 0, none⟩ (.int .i64 t171)).setCell ⟨gb177, 1, none⟩ (.int .i64 t172)).setCell ⟨gb177, 2, none⟩ (.int .i64 t173)).setCell ⟨gb177, 3, none⟩ (.int .i64 t174)).setCell ⟨gb177, 4, none⟩ (.int .i64 t175)).setCell ⟨gb177, 5, none⟩ (.int .i64 t176))) := ⟨by repeat (first | (with_reducible first | exact HB.out | apply below_alloc | apply pw_below_drewN | apply below_drew1 | refine below_set ?_ GE177.out) | exact HB.out)⟩
  (try clear BK177)
  (try clear HB)
  generalize ((((((w28.setCell ⟨gb177, 0, none⟩ (.int .i64 t171)).setCell ⟨gb177, 1, none⟩ (.int .i64 t172)).setCell ⟨gb177, 2, none⟩ (.int .i64 t173)).setCell ⟨gb177, 3, none⟩ (.int .i64 t174)).setCell ⟨gb177, 4, none⟩ (.int .i64 t175)).setCell ⟨gb177, 5, none⟩ (.int .i64 t176)) = w30 at n0_ n1_ ⊢
  have BK177 := n0_
  have HB := n1_
  clear n0_ n1_
  have n0_ := Aside0.mk (blk_drew BK177.out)
  have n1_ := Aside0.mk (below_drew1 HB.out)
  clear BK177
  clear HB
  have BK177 := n0_
  have HB := n1_
  clear n0_ n1_
  refine start_ (n := 30) (S := fun w' => w'.cell? ⟨gb177, 0, none⟩ = some (.int .i64 t171) ∧ w'.cell? ⟨gb177, 1, none⟩ = some (.int .i64 t172) ∧ w'.cell? ⟨gb177, 2, none⟩ = some (.int .i64 t173) ∧ w'.cell? ⟨gb177, 3, none⟩ = some (.int .i64 t174) ∧ w'.cell? ⟨gb177, 4, none⟩ = some (.int .i64 t175) ∧ w'.cell? ⟨gb177, 5, none⟩ = some (.int .i64 t176) ∧ True ∧ True) (ds := []) #[false, false, false, false, false, false, false, false, false, false, false, false, false, false, false, false, false, false, false, false, false, false, false, false, false, false, false, false, false, false] (by kernel_rfl) rfl rfl ⟨(blk_cell BK177.out 0).trans rfl, (blk_cell BK177.out 1).trans rfl, (blk_cell BK177.out 2).trans rfl, (blk_cell BK177.out 3).trans rfl, (blk_cell BK177.out 4).trans rfl, (blk_cell BK177.out 5).trans rfl, trivial, trivial⟩ (fun hHeld => ?_); refine with_tabW impl_HttpDate.tab4 impl_HttpDate.bits4 (fun HT_ HW_ => ?_)
  generalize w30.drew = w31 at BK177 HB hHeld ⊢
  refine pure_ (i := 1) (N := some 10) (v := ?_) (a' := ?_) #[false, true, false, false, false, false, false, false, false, false, false, false, false, false, false, false, false, false, false, false, false, false, false, false, false, false, false, false, false, false] rfl rfl (any_of HT_.out (by kernel_rfl)) (fun _ _ _ h => h) (Or.inl ⟨by rfl, ?_⟩) ?_ ?_
  rotate_left
  ·
   intro w'
   go_simp
   with_reducible rfl
  rotate_left
  ·
   simp only [Act.put, List.setIfInBounds_toArray, List.set_cons_zero, List.set_cons_succ, i64_w, i32_w]
   rfl
  refine pure_ (i := 7) (N := some 16) (v := ?_) (a' := ?_) #[false, true, false, false, false, false, false, true, false, false, false, false, false, false, false, false, false, false, false, false, false, false, false, false, false, false, false, false, false, false] rfl rfl (any_of HT_.out (by kernel_rfl)) (fun _ _ _ h => h) (Or.inl ⟨by rfl, ?_⟩) ?_ ?_
  rotate_left
  ·
   intro w'
   go_simp
   with_reducible rfl
  rotate_left
  ·
   simp only [Act.put, List.setIfInBounds_toArray, List.set_cons_zero, List.set_cons_succ, i64_w, i32_w]
   rfl
  refine pure_ (i := 13) (N := some 22) (v := ?_) (a' := ?_) #[false, true, false, false, false, false, false, true, false, false, false, false, false, true, false, false, false, false, false, false, false, false, false, false, false, false, false, false, false, false] rfl rfl (any_of HT_.out (by kernel_rfl)) (fun _ _ _ h => h) (Or.inl ⟨by rfl, ?_⟩) ?_ ?_
  rotate_left
  ·
   intro w'
   go_simp
   with_reducible rfl
  rotate_left
  ·
   simp only [Act.put, List.setIfInBounds_toArray, List.set_cons_zero, List.set_cons_succ, i64_w, i32_w]
   rfl
  refine pure_ (i := 20) (N := some 29) (v := ?_) (a' := ?_) #[false, true, false, false, false, false, false, true, false, false, false, false, false, true, false, false, false, false, false, false, true, false, false, false, false, false, false, false, false, false] rfl rfl (any_of HT_.out (by kernel_rfl)) (fun _ _ _ h => h) (Or.inl ⟨by rfl, ?_⟩) ?_ ?_
  rotate_left
  ·
   intro w'
   go_simp
   with_reducible rfl
  rotate_left
  ·
   simp only [Act.put, List.setIfInBounds_toArray, List.set_cons_zero, List.set_cons_succ, i64_w, i32_w]
   rfl
  refine take_ (i := 8) (N := some 17) (v := ?_) (a' := ?_) #[false, true, false, false, false, false, false, true, true, false, false, false, false, true, false, false, false, false, false, false, true, false, false, false, false, false, false, false, false, false] rfl rfl (take_ofW HT_.out HW_.out (by kernel_rfl)) (fun _ _ _ h => h) (Or.inl ⟨by rfl, ?_⟩) hHeld ?_ ?_
  rotate_left
  ·
   rintro w' ⟨s0, s1, s2, s3, s4, s5, s6, s7⟩
   go_simp
   with_reducible rfl
  rotate_left
  ·
   simp only [Act.put, List.setIfInBounds_toArray, List.set_cons_zero, List.set_cons_succ, i64_w, i32_w]
   rfl
  refine take_ (i := 14) (N := some 23) (v := ?_) (a' := ?_) #[false, true, false, false, false, false, false, true, true, false, false, false, false, true, true, false, false, false, false, false, true, false, false, false, false, false, false, false, false, false] rfl rfl (take_ofW HT_.out HW_.out (by kernel_rfl)) (fun _ _ _ h => h) (Or.inl ⟨by rfl, ?_⟩) hHeld ?_ ?_
  rotate_left
  ·
   rintro w' ⟨s0, s1, s2, s3, s4, s5, s6, s7⟩
   go_simp
   with_reducible rfl
  rotate_left
  ·
   simp only [Act.put, List.setIfInBounds_toArray, List.set_cons_zero, List.set_cons_succ, i64_w, i32_w]
   rfl
  refine pure_ (i := 15) (N := some 24) (v := ?_) (a' := ?_) #[false, true, false, false, false, false, false, true, true, false, false, false, false, true, true, true, false, false, false, false, true, false, false, false, false, false, false, false, false, false] rfl rfl (any_of HT_.out (by kernel_rfl)) (fun _ _ _ h => h) (Or.inl ⟨by rfl, ?_⟩) ?_ ?_
  rotate_left
  ·
   intro w'
   go_simp
   with_reducible rfl
  rotate_left
  ·
   simp only [Act.put, List.setIfInBounds_toArray, List.set_cons_zero, List.set_cons_succ, i64_w, i32_w]
   rfl
  refine take_ (i := 21) (N := some 30) (v := ?_) (a' := ?_) #[false, true, false, false, false, false, false, true, true, false, false, false, false, true, true, true, false, false, false, false, true, true, false, false, false, false, false, false, false, false] rfl rfl (take_ofW HT_.out HW_.out (by kernel_rfl)) (fun _ _ _ h => h) (Or.inl ⟨by rfl, ?_⟩) hHeld ?_ ?_
  rotate_left
  ·
   rintro w' ⟨s0, s1, s2, s3, s4, s5, s6, s7⟩
   go_simp
   with_reducible rfl
  rotate_left
  ·
   simp only [Act.put, List.setIfInBounds_toArray, List.set_cons_zero, List.set_cons_succ, i64_w, i32_w]
   rfl
  refine take_ (i := 25) (N := some 34) (v := ?_) (a' := ?_) #[false, true, false, false, false, false, false, true, true, false, false, false, false, true, true, true, false, false, false, false, true, true, false, false, false, true, false, false, false, false] rfl rfl (take_ofW HT_.out HW_.out (by kernel_rfl)) (fun _ _ _ h => h) (Or.inl ⟨by rfl, ?_⟩) hHeld ?_ ?_
  rotate_left
  ·
   rintro w' ⟨s0, s1, s2, s3, s4, s5, s6, s7⟩
   go_simp
   with_reducible rfl
  rotate_left
  ·
   simp only [Act.put, List.setIfInBounds_toArray, List.set_cons_zero, List.set_cons_succ, i64_w, i32_w]
   rfl
  refine one_ (i := 0) (N := some 9) #[true, true, false, false, false, false, false, true, true, false, false, false, false, true, true, true, false, false, false, false, true, true, false, false, false, true, false, false, false, false] rfl rfl (one_of HT_.out (by kernel_rfl)) (by decide) (fun K hK => ?_)
  refine goes_ Tryd.func53 (by kernel_rfl) rfl #[] (by rfl) rfl rfl (by (try simp only [List.map_toArray, List.map_cons, List.map_nil]); first | done | rfl | (simp only [List.length_drop, List.length_take]; rfl)) ?_
  with_reducible refine (impl_days.calls  t178 _ A5.out).mono ?_
  rintro e w32 ⟨v179, rfl, ho0, hb⟩
  refine ⟨_, rfl, ?_⟩
  have n0_ := Aside0.mk (Kd.R_lower ho0 (below_size (by repeat (first | (with_reducible first | exact HB.out | apply below_alloc | apply pw_below_drewN | apply below_drew1 | refine below_set ?_ GE177.out) | exact HB.out))))
  have n1_ := Aside0.mk (blk_below (g := gb177) (o := .cells #[.int .i64 t171, .int .i64 t172, .int .i64 t173, .int .i64 t174, .int .i64 t175, .int .i64 t176] 30 (0, 0)) (by (with_reducible repeat (first | refine blk_drewN ?_ _ | refine blk_drew ?_ | refine blk_alloc ?_ _)); exact BK177.out) hb)
  have n2_ := Aside0.mk (below_step (by repeat (first | (with_reducible first | exact HB.out | apply below_alloc | apply pw_below_drewN | apply below_drew1 | refine below_set ?_ GE177.out) | exact HB.out)) hb)
  clear BK177
  clear HB
  have HO180 := n0_
  have BK177 := n1_
  have HB := n2_
  clear n0_ n1_ n2_
  (try clear hb)
  (try clear hb2)
  (try clear hk)
  (try clear hi)
  (try clear ho0)
  refine hK.out _ _ ⟨(blk_cell BK177.out 0).trans rfl, (blk_cell BK177.out 1).trans rfl, (blk_cell BK177.out 2).trans rfl, (blk_cell BK177.out 3).trans rfl, (blk_cell BK177.out 4).trans rfl, (blk_cell BK177.out 5).trans rfl, trivial, trivial⟩ (fun hHeld => ?_)
  clear hK K
  refine norm_ (a' := ?_) ?_ ?_
  rotate_left
  ·
   show Act.put _ (some 9) _ = _
   simp only [Act.put, List.setIfInBounds_toArray, List.set_cons_zero, List.set_cons_succ, i64_w, i32_w]
   rfl
  refine one_ (i := 2) (N := some 11) #[true, true, true, false, false, false, false, true, true, false, false, false, false, true, true, true, false, false, false, false, true, true, false, false, false, true, false, false, false, false] rfl rfl (one_of HT_.out (by kernel_rfl)) (by decide) (fun K hK => ?_)
  refine goes_ Tryd.func23 (by kernel_rfl) rfl #[.int .i64 a0] (by rfl) rfl rfl (by (try simp only [List.map_toArray, List.map_cons, List.map_nil]); first | done | rfl | (simp only [List.length_drop, List.length_take]; rfl)) ?_
  with_reducible refine (impl_Weekday.calls a0 t181 _ A6.out).mono ?_
  rintro e w' ⟨rfl, ⟨nd, rfl⟩⟩
  refine ⟨_, rfl, ?_⟩
  obtain ⟨Ao33, co33, eo33⟩ := Kd.R_slice HO180.out
  (first | subst eo33 | (injection eo33 with f1_ f2_ f3_; have f4_ := f1_.symm; have f5_ := f3_.symm; clear f1_ f2_ f3_; subst f4_; subst f5_))
  have p182 : 0 ≤ (t181 : Int) := of_decide_eq_true (by first | (with_reducible assumption) | assumption)
  have q182 : t181 < (t178.length : Int) := of_decide_eq_true (by first | (with_reducible assumption) | assumption)
  obtain ⟨ad182, e182, hx182_0⟩ := Kd.at_string (Kd.R_reads' HO180.out).2.2 t181 p182 q182
  cases e182
  replace p182 := eq_true p182
  replace q182 := eq_true q182
  refine hK.out _ _ ⟨(blk_cell BK177.out 0).trans rfl, (blk_cell BK177.out 1).trans rfl, (blk_cell BK177.out 2).trans rfl, (blk_cell BK177.out 3).trans rfl, (blk_cell BK177.out 4).trans rfl, (blk_cell BK177.out 5).trans rfl, trivial, trivial⟩ (fun hHeld => ?_)
  clear hK K
  refine norm_ (a' := ?_) ?_ ?_
  rotate_left
  ·
   show Act.put _ (some 11) _ = _
   simp only [Act.put, List.setIfInBounds_toArray, List.set_cons_zero, List.set_cons_succ, i64_w, i32_w]
   rfl
  refine grow_ (S' := fun w' => w'.cell? ⟨gb177, 0, none⟩ = some (.int .i64 t171) ∧ w'.cell? ⟨gb177, 1, none⟩ = some (.int .i64 t172) ∧ w'.cell? ⟨gb177, 2, none⟩ = some (.int .i64 t173) ∧ w'.cell? ⟨gb177, 3, none⟩ = some (.int .i64 t174) ∧ w'.cell? ⟨gb177, 4, none⟩ = some (.int .i64 t175) ∧ w'.cell? ⟨gb177, 5, none⟩ = some (.int .i64 t176) ∧ w'.cell? (ad182.add (t181).toNat) = some (.string (rdOf ByteArray.empty t178 t181)) ∧ True) (fun w' h_ => ⟨h_.1, h_.2.1, h_.2.2.1, h_.2.2.2.1, h_.2.2.2.2.1, h_.2.2.2.2.2.1, trivial, trivial⟩) ⟨hHeld.1, hHeld.2.1, hHeld.2.2.1, hHeld.2.2.2.1, hHeld.2.2.2.2.1, hHeld.2.2.2.2.2.1, hx182_0, trivial⟩ (fun hHeld => ?_)
  refine pure_ (i := 3) (N := some 12) (v := ?_) (a' := ?_) #[true, true, true, true, false, false, false, true, true, false, false, false, false, true, true, true, false, false, false, false, true, true, false, false, false, true, false, false, false, false] rfl rfl (any_of HT_.out (by kernel_rfl)) (fun _ _ _ h => h) (Or.inl ⟨by rfl, ?_⟩) ?_ ?_
  rotate_left
  ·
   intro w'
   go_simp
   with_reducible rfl
  rotate_left
  ·
   simp only [Act.put, List.setIfInBounds_toArray, List.set_cons_zero, List.set_cons_succ, i64_w, i32_w]
   rfl
  refine take_ (i := 4) (N := some 13) (v := ?_) (a' := ?_) #[true, true, true, true, true, false, false, true, true, false, false, false, false, true, true, true, false, false, false, false, true, true, false, false, false, true, false, false, false, false] rfl rfl (take_ofW HT_.out HW_.out (by kernel_rfl)) (fun _ _ _ h => h) (Or.inl ⟨by rfl, ?_⟩) hHeld ?_ ?_
  rotate_left
  ·
   rintro w' ⟨s0, s1, s2, s3, s4, s5, s6, s7⟩
   go_simp
   with_reducible rfl
  rotate_left
  ·
   simp only [Act.put, List.setIfInBounds_toArray, List.set_cons_zero, List.set_cons_succ, i64_w, i32_w]
   rfl
  refine pure_ (i := 5) (N := some 14) (v := ?_) (a' := ?_) #[true, true, true, true, true, true, false, true, true, false, false, false, false, true, true, true, false, false, false, false, true, true, false, false, false, true, false, false, false, false] rfl rfl (any_of HT_.out (by kernel_rfl)) (fun _ _ _ h => h) (Or.inl ⟨by rfl, ?_⟩) ?_ ?_
  rotate_left
  ·
   intro w'
   go_simp
   with_reducible rfl
  rotate_left
  ·
   simp only [Act.put, List.setIfInBounds_toArray, List.set_cons_zero, List.set_cons_succ, i64_w, i32_w]
   rfl
  refine pure_ (i := 6) (N := some 15) (v := ?_) (a' := ?_) #[true, true, true, true, true, true, true, true, true, false, false, false, false, true, true, true, false, false, false, false, true, true, false, false, false, true, false, false, false, false] rfl rfl (any_of HT_.out (by kernel_rfl)) (fun _ _ _ h => h) (Or.inl ⟨by rfl, ?_⟩) ?_ ?_
  rotate_left
  ·
   intro w'
   go_simp
   with_reducible rfl
  rotate_left
  ·
   simp only [Act.put, List.setIfInBounds_toArray, List.set_cons_zero, List.set_cons_succ, i64_w, i32_w]
   rfl
  refine one_ (i := 9) (N := some 18) #[true, true, true, true, true, true, true, true, true, true, false, false, false, true, true, true, false, false, false, false, true, true, false, false, false, true, false, false, false, false] rfl rfl (one_of HT_.out (by kernel_rfl)) (by decide) (fun K hK => ?_)
  refine goes_ Tryd.func54 (by kernel_rfl) rfl #[.int .i64 t173, .int .i64 2] (by rfl) rfl rfl (by (try simp only [List.map_toArray, List.map_cons, List.map_nil]); first | done | rfl | (simp only [List.length_drop, List.length_take]; rfl)) ?_
  with_reducible refine (impl_digits.calls t173 2 t183 _ A12.out).mono ?_
  rintro e w' ⟨rfl, ⟨nd, rfl⟩⟩
  refine ⟨_, rfl, ?_⟩
  refine hK.out _ _ ⟨(blk_cell BK177.out 0).trans rfl, (blk_cell BK177.out 1).trans rfl, (blk_cell BK177.out 2).trans rfl, (blk_cell BK177.out 3).trans rfl, (blk_cell BK177.out 4).trans rfl, (blk_cell BK177.out 5).trans rfl, hHeld.2.2.2.2.2.2.1, trivial⟩ (fun hHeld => ?_)
  clear hK K
  refine norm_ (a' := ?_) ?_ ?_
  rotate_left
  ·
   show Act.put _ (some 18) _ = _
   simp only [Act.put, List.setIfInBounds_toArray, List.set_cons_zero, List.set_cons_succ, i64_w, i32_w]
   rfl
  refine pure_ (i := 10) (N := some 19) (v := ?_) (a' := ?_) #[true, true, true, true, true, true, true, true, true, true, true, false, false, true, true, true, false, false, false, false, true, true, false, false, false, true, false, false, false, false] rfl rfl (any_of HT_.out (by kernel_rfl)) (fun _ _ _ h => h) (Or.inl ⟨by rfl, ?_⟩) ?_ ?_
  rotate_left
  ·
   intro w'
   go_simp
   with_reducible rfl
  rotate_left
  ·
   simp only [Act.put, List.setIfInBounds_toArray, List.set_cons_zero, List.set_cons_succ, i64_w, i32_w]
   rfl
  refine pure_ (i := 11) (N := some 20) (v := ?_) (a' := ?_) #[true, true, true, true, true, true, true, true, true, true, true, true, false, true, true, true, false, false, false, false, true, true, false, false, false, true, false, false, false, false] rfl rfl (any_of HT_.out (by kernel_rfl)) (fun _ _ _ h => h) (Or.inl ⟨by rfl, ?_⟩) ?_ ?_
  rotate_left
  ·
   intro w'
   go_simp
   with_reducible rfl
  rotate_left
  ·
   simp only [Act.put, List.setIfInBounds_toArray, List.set_cons_zero, List.set_cons_succ, i64_w, i32_w]
   rfl
  refine one_ (i := 12) (N := some 21) #[true, true, true, true, true, true, true, true, true, true, true, true, true, true, true, true, false, false, false, false, true, true, false, false, false, true, false, false, false, false] rfl rfl (one_of HT_.out (by kernel_rfl)) (by decide) (fun K hK => ?_)
  refine goes_ Tryd.func55 (by kernel_rfl) rfl #[] (by rfl) rfl rfl (by (try simp only [List.map_toArray, List.map_cons, List.map_nil]); first | done | rfl | (simp only [List.length_drop, List.length_take]; rfl)) ?_
  with_reducible refine (impl_months.calls  t184 _ A15.out).mono ?_
  rintro e w34 ⟨v185, rfl, ho0, hb⟩
  have HS6_ := (hb.cell (World.block_lt_of_cell? _ _ (hHeld.2.2.2.2.2.2.1))).trans (hHeld.2.2.2.2.2.2.1)
  refine ⟨_, rfl, ?_⟩
  have n0_ := Aside0.mk (Kd.R_elder' (by (with_reducible repeat (first | apply Kd.R_alloc | apply Kd.R_drewN | apply Kd.R_drew)); exact HO180.out) (Kd.R_base ho0) hb)
  have n1_ := Aside0.mk (Kd.R_lower (Kd.R_new' ho0 (Kd.R_lt (by (with_reducible repeat (first | apply Kd.R_alloc | apply Kd.R_drewN | apply Kd.R_drew)); exact HO180.out))) (below_size (by repeat (first | (with_reducible first | exact HB.out | apply below_alloc | apply pw_below_drewN | apply below_drew1 | refine below_set ?_ GE177.out) | exact HB.out))))
  have n2_ := Aside0.mk (blk_below (g := gb177) (o := .cells #[.int .i64 t171, .int .i64 t172, .int .i64 t173, .int .i64 t174, .int .i64 t175, .int .i64 t176] 30 (0, 0)) (by (with_reducible repeat (first | refine blk_drewN ?_ _ | refine blk_drew ?_ | refine blk_alloc ?_ _)); exact BK177.out) hb)
  have n3_ := Aside0.mk (below_step (by repeat (first | (with_reducible first | exact HB.out | apply below_alloc | apply pw_below_drewN | apply below_drew1 | refine below_set ?_ GE177.out) | exact HB.out)) hb)
  clear HO180
  clear BK177
  clear HB
  have HO180 := n0_
  have HO186 := n1_
  have BK177 := n2_
  have HB := n3_
  clear n0_ n1_ n2_ n3_
  (try clear hb)
  (try clear hb2)
  (try clear hk)
  (try clear hi)
  (try clear ho0)
  obtain ⟨Ao35, co35, eo35⟩ := Kd.R_slice HO186.out
  (first | subst eo35 | (injection eo35 with f1_ f2_ f3_; have f4_ := f1_.symm; have f5_ := f3_.symm; clear f1_ f2_ f3_; subst f4_; subst f5_))
  have p187 : 0 ≤ ((ji16) : Int) := of_decide_eq_true (by first | (with_reducible assumption) | assumption)
  have q187 : (ji16) < (t184.length : Int) := of_decide_eq_true (by first | (with_reducible assumption) | assumption)
  obtain ⟨ad187, e187, hx187_0⟩ := Kd.at_string (Kd.R_reads' HO186.out).2.2 (ji16) p187 q187
  cases e187
  replace p187 := eq_true p187
  replace q187 := eq_true q187
  refine hK.out _ _ ⟨(blk_cell BK177.out 0).trans rfl, (blk_cell BK177.out 1).trans rfl, (blk_cell BK177.out 2).trans rfl, (blk_cell BK177.out 3).trans rfl, (blk_cell BK177.out 4).trans rfl, (blk_cell BK177.out 5).trans rfl, HS6_, trivial⟩ (fun hHeld => ?_)
  clear hK K
  refine norm_ (a' := ?_) ?_ ?_
  rotate_left
  ·
   show Act.put _ (some 21) _ = _
   simp only [Act.put, List.setIfInBounds_toArray, List.set_cons_zero, List.set_cons_succ, i64_w, i32_w]
   rfl
  refine grow_ (S' := fun w' => w'.cell? ⟨gb177, 0, none⟩ = some (.int .i64 t171) ∧ w'.cell? ⟨gb177, 1, none⟩ = some (.int .i64 t172) ∧ w'.cell? ⟨gb177, 2, none⟩ = some (.int .i64 t173) ∧ w'.cell? ⟨gb177, 3, none⟩ = some (.int .i64 t174) ∧ w'.cell? ⟨gb177, 4, none⟩ = some (.int .i64 t175) ∧ w'.cell? ⟨gb177, 5, none⟩ = some (.int .i64 t176) ∧ w'.cell? (ad182.add (t181).toNat) = some (.string (rdOf ByteArray.empty t178 t181)) ∧ w'.cell? (ad187.add ((ji16)).toNat) = some (.string (rdOf ByteArray.empty t184 (ji16)))) (fun w' h_ => ⟨h_.1, h_.2.1, h_.2.2.1, h_.2.2.2.1, h_.2.2.2.2.1, h_.2.2.2.2.2.1, h_.2.2.2.2.2.2.1, trivial⟩) ⟨hHeld.1, hHeld.2.1, hHeld.2.2.1, hHeld.2.2.2.1, hHeld.2.2.2.2.1, hHeld.2.2.2.2.2.1, hHeld.2.2.2.2.2.2.1, hx187_0⟩ (fun hHeld => ?_)
  refine pure_ (i := 16) (N := some 25) (v := ?_) (a' := ?_) #[true, true, true, true, true, true, true, true, true, true, true, true, true, true, true, true, true, false, false, false, true, true, false, false, false, true, false, false, false, false] rfl rfl (any_of HT_.out (by kernel_rfl)) (fun _ _ _ h => h) (Or.inl ⟨by rfl, ?_⟩) ?_ ?_
  rotate_left
  ·
   intro w'
   go_simp
   with_reducible rfl
  rotate_left
  ·
   simp only [Act.put, List.setIfInBounds_toArray, List.set_cons_zero, List.set_cons_succ, i64_w, i32_w]
   rfl
  refine take_ (i := 17) (N := some 26) (v := ?_) (a' := ?_) #[true, true, true, true, true, true, true, true, true, true, true, true, true, true, true, true, true, true, false, false, true, true, false, false, false, true, false, false, false, false] rfl rfl (take_ofW HT_.out HW_.out (by kernel_rfl)) (fun _ _ _ h => h) (Or.inl ⟨by rfl, ?_⟩) hHeld ?_ ?_
  rotate_left
  ·
   rintro w' ⟨s0, s1, s2, s3, s4, s5, s6, s7⟩
   go_simp
   with_reducible rfl
  rotate_left
  ·
   simp only [Act.put, List.setIfInBounds_toArray, List.set_cons_zero, List.set_cons_succ, i64_w, i32_w]
   rfl
  refine pure_ (i := 18) (N := some 27) (v := ?_) (a' := ?_) #[true, true, true, true, true, true, true, true, true, true, true, true, true, true, true, true, true, true, true, false, true, true, false, false, false, true, false, false, false, false] rfl rfl (any_of HT_.out (by kernel_rfl)) (fun _ _ _ h => h) (Or.inl ⟨by rfl, ?_⟩) ?_ ?_
  rotate_left
  ·
   intro w'
   go_simp
   with_reducible rfl
  rotate_left
  ·
   simp only [Act.put, List.setIfInBounds_toArray, List.set_cons_zero, List.set_cons_succ, i64_w, i32_w]
   rfl
  refine pure_ (i := 19) (N := some 28) (v := ?_) (a' := ?_) #[true, true, true, true, true, true, true, true, true, true, true, true, true, true, true, true, true, true, true, true, true, true, false, false, false, true, false, false, false, false] rfl rfl (any_of HT_.out (by kernel_rfl)) (fun _ _ _ h => h) (Or.inl ⟨by rfl, ?_⟩) ?_ ?_
  rotate_left
  ·
   intro w'
   go_simp
   with_reducible rfl
  rotate_left
  ·
   simp only [Act.put, List.setIfInBounds_toArray, List.set_cons_zero, List.set_cons_succ, i64_w, i32_w]
   rfl
  refine one_ (i := 22) (N := some 31) #[true, true, true, true, true, true, true, true, true, true, true, true, true, true, true, true, true, true, true, true, true, true, true, false, false, true, false, false, false, false] rfl rfl (one_of HT_.out (by kernel_rfl)) (by decide) (fun K hK => ?_)
  refine goes_ Tryd.func54 (by kernel_rfl) rfl #[.int .i64 t171, .int .i64 4] (by rfl) rfl rfl (by (try simp only [List.map_toArray, List.map_cons, List.map_nil]); first | done | rfl | (simp only [List.length_drop, List.length_take]; rfl)) ?_
  with_reducible refine (impl_digits.calls t171 4 t188 _ A21.out).mono ?_
  rintro e w' ⟨rfl, ⟨nd, rfl⟩⟩
  refine ⟨_, rfl, ?_⟩
  refine hK.out _ _ ⟨(blk_cell BK177.out 0).trans rfl, (blk_cell BK177.out 1).trans rfl, (blk_cell BK177.out 2).trans rfl, (blk_cell BK177.out 3).trans rfl, (blk_cell BK177.out 4).trans rfl, (blk_cell BK177.out 5).trans rfl, hHeld.2.2.2.2.2.2.1, hHeld.2.2.2.2.2.2.2⟩ (fun hHeld => ?_)
  clear hK K
  refine norm_ (a' := ?_) ?_ ?_
  rotate_left
  ·
   show Act.put _ (some 31) _ = _
   simp only [Act.put, List.setIfInBounds_toArray, List.set_cons_zero, List.set_cons_succ, i64_w, i32_w]
   rfl
  refine pure_ (i := 23) (N := some 32) (v := ?_) (a' := ?_) #[true, true, true, true, true, true, true, true, true, true, true, true, true, true, true, true, true, true, true, true, true, true, true, true, false, true, false, false, false, false] rfl rfl (any_of HT_.out (by kernel_rfl)) (fun _ _ _ h => h) (Or.inl ⟨by rfl, ?_⟩) ?_ ?_
  rotate_left
  ·
   intro w'
   go_simp
   with_reducible rfl
  rotate_left
  ·
   simp only [Act.put, List.setIfInBounds_toArray, List.set_cons_zero, List.set_cons_succ, i64_w, i32_w]
   rfl
  refine pure_ (i := 24) (N := some 33) (v := ?_) (a' := ?_) #[true, true, true, true, true, true, true, true, true, true, true, true, true, true, true, true, true, true, true, true, true, true, true, true, true, true, false, false, false, false] rfl rfl (any_of HT_.out (by kernel_rfl)) (fun _ _ _ h => h) (Or.inl ⟨by rfl, ?_⟩) ?_ ?_
  rotate_left
  ·
   intro w'
   go_simp
   with_reducible rfl
  rotate_left
  ·
   simp only [Act.put, List.setIfInBounds_toArray, List.set_cons_zero, List.set_cons_succ, i64_w, i32_w]
   rfl
  refine one_ (i := 26) (N := some 35) #[true, true, true, true, true, true, true, true, true, true, true, true, true, true, true, true, true, true, true, true, true, true, true, true, true, true, true, false, false, false] rfl rfl (one_of HT_.out (by kernel_rfl)) (by decide) (fun K hK => ?_)
  refine goes_ Tryd.func56 (by kernel_rfl) rfl #[.agg #[.int .i64 t171, .int .i64 t172, .int .i64 t173, .int .i64 t174, .int .i64 t175, .int .i64 t176]] (by rfl) rfl rfl (by (try simp only [List.map_toArray, List.map_cons, List.map_nil]); first | done | rfl | (simp only [List.length_drop, List.length_take]; rfl)) ?_
  with_reducible refine (impl_clock.calls t171 t172 t173 t174 t175 t176 t189 _ A24.out).mono ?_
  rintro e w36 ⟨rfl, hb⟩
  have HS6_ := (hb.cell (World.block_lt_of_cell? _ _ (hHeld.2.2.2.2.2.2.1))).trans (hHeld.2.2.2.2.2.2.1)
  have HS7_ := (hb.cell (World.block_lt_of_cell? _ _ (hHeld.2.2.2.2.2.2.2))).trans (hHeld.2.2.2.2.2.2.2)
  refine ⟨_, rfl, ?_⟩
  have n0_ := Aside0.mk (Kd.R_below (by (with_reducible repeat (first | apply Kd.R_alloc | apply Kd.R_drewN | apply Kd.R_drew)); exact HO180.out) hb)
  have n1_ := Aside0.mk (Kd.R_below (by (with_reducible repeat (first | apply Kd.R_alloc | apply Kd.R_drewN | apply Kd.R_drew)); exact HO186.out) hb)
  have n2_ := Aside0.mk (blk_below (g := gb177) (o := .cells #[.int .i64 t171, .int .i64 t172, .int .i64 t173, .int .i64 t174, .int .i64 t175, .int .i64 t176] 30 (0, 0)) (by (with_reducible repeat (first | refine blk_drewN ?_ _ | refine blk_drew ?_ | refine blk_alloc ?_ _)); exact BK177.out) hb)
  have n3_ := Aside0.mk (below_step (by repeat (first | (with_reducible first | exact HB.out | apply below_alloc | apply pw_below_drewN | apply below_drew1 | refine below_set ?_ GE177.out) | exact HB.out)) hb)
  clear HO180
  clear HO186
  clear BK177
  clear HB
  have HO180 := n0_
  have HO186 := n1_
  have BK177 := n2_
  have HB := n3_
  clear n0_ n1_ n2_ n3_
  (try clear hb)
  (try clear hb2)
  (try clear hk)
  (try clear hi)
  refine hK.out _ _ ⟨(blk_cell BK177.out 0).trans rfl, (blk_cell BK177.out 1).trans rfl, (blk_cell BK177.out 2).trans rfl, (blk_cell BK177.out 3).trans rfl, (blk_cell BK177.out 4).trans rfl, (blk_cell BK177.out 5).trans rfl, HS6_, HS7_⟩ (fun hHeld => ?_)
  clear hK K
  refine norm_ (a' := ?_) ?_ ?_
  rotate_left
  ·
   show Act.put _ (some 35) _ = _
   simp only [Act.put, List.setIfInBounds_toArray, List.set_cons_zero, List.set_cons_succ, i64_w, i32_w]
   rfl
  refine pure_ (i := 27) (N := some 36) (v := ?_) (a' := ?_) #[true, true, true, true, true, true, true, true, true, true, true, true, true, true, true, true, true, true, true, true, true, true, true, true, true, true, true, true, false, false] rfl rfl (any_of HT_.out (by kernel_rfl)) (fun _ _ _ h => h) (Or.inl ⟨by rfl, ?_⟩) ?_ ?_
  rotate_left
  ·
   intro w'
   go_simp
   with_reducible rfl
  rotate_left
  ·
   simp only [Act.put, List.setIfInBounds_toArray, List.set_cons_zero, List.set_cons_succ, i64_w, i32_w]
   rfl
  refine pure_ (i := 28) (N := some 37) (v := ?_) (a' := ?_) #[true, true, true, true, true, true, true, true, true, true, true, true, true, true, true, true, true, true, true, true, true, true, true, true, true, true, true, true, true, false] rfl rfl (any_of HT_.out (by kernel_rfl)) (fun _ _ _ h => h) (Or.inl ⟨by rfl, ?_⟩) ?_ ?_
  rotate_left
  ·
   intro w'
   go_simp
   with_reducible rfl
  rotate_left
  ·
   simp only [Act.put, List.setIfInBounds_toArray, List.set_cons_zero, List.set_cons_succ, i64_w, i32_w]
   rfl
  refine pure_ (i := 29) (N := some 2) (v := ?_) (a' := ?_) #[true, true, true, true, true, true, true, true, true, true, true, true, true, true, true, true, true, true, true, true, true, true, true, true, true, true, true, true, true, true] rfl rfl (any_of HT_.out (by kernel_rfl)) (fun _ _ _ h => h) (Or.inl ⟨by rfl, ?_⟩) ?_ ?_
  rotate_left
  ·
   intro w'
   go_simp
   with_reducible rfl
  rotate_left
  ·
   simp only [Act.put, List.setIfInBounds_toArray, List.set_cons_zero, List.set_cons_succ, i64_w, i32_w]
   rfl
  refine done_ (done_of HT_.out (by kernel_rfl)) ?_
  try go_wp2
  go_ret
  exact ⟨by first | rfl | (simp [errW_none, errW_some] <;> rfl) | (simp only [← hji16]; first | rfl | (simp [errW_none, errW_some] <;> rfl)) | (simp [*, errW_none, errW_some] <;> rfl), by repeat (first | (with_reducible first | exact HB.out | apply below_alloc | apply pw_below_drewN | apply below_drew1 | refine below_set ?_ GE177.out) | exact HB.out)⟩
 ·
  replace c3 := Bool.eq_false_iff.mpr c3
  subst c3
  have H1 : (some (⟨#[]⟩ : ByteArray)) = some r := by rw [if_neg (show ¬ (false = true) by decide)] at H; exact H
  clear H
  have H := H1
  clear H1
  obtain rfl := Option.some.inj H
  go_enter Tryd.func27, Tryd.ntmps27
  go_wp2_with (first | ((with_reducible refine gate_callee (f := 45) rfl ?_); refine goesL_ (some 5) rfl rfl Tryd.func45 (by kernel_rfl) rfl #[.int .i64 a0] rfl (by (try simp only [List.map_toArray, List.map_cons, List.map_nil]); first | done | rfl | (simp only [List.length_drop, List.length_take]; rfl)) ?_; (with_reducible refine (impl_isTime.calls a0 false _ A2.out).mono ?_); rintro e w' ⟨rfl, ⟨nd, rfl⟩⟩; refine ⟨_, rfl, ?_⟩))
  go_ret
  exact ⟨by first | rfl | (simp [errW_none, errW_some] <;> rfl) | (simp [*, errW_none, errW_some] <;> rfl), by repeat (first | (with_reducible first | exact HB.out | apply below_alloc | apply pw_below_drewN | apply below_drew1) | exact HB.out)⟩

/-! ### laws_days: function 20 -/
def laws_days.f  : Option (Bool) := (impl_HttpDate.f 86400).bind fun t190 => (if t190.toList = ([70, 114, 105, 44, 32, 48, 50, 32, 74, 97, 110, 32, 49, 57, 55, 48, 32, 48, 48, 58, 48, 48, 58, 48, 48, 32, 71, 77, 84] : List UInt8) then ((impl_Weekday.f 0).bind fun t191 => (if t191 = 3 then ((impl_Stamp.f 1).bind fun t192 => (some (t192.toList == ([49, 57, 55, 48, 48, 49, 48, 49, 48, 48, 48, 48, 48, 49] : List UInt8)))) else (some false))) else (some false))
set_option maxHeartbeats 8000000 in
set_option maxRecDepth 100000 in
theorem laws_days.calls  (r : Bool) (w : World) (h : laws_days.f  = some r) :
  Calls Tryd.prog 20 #[] w fun e w' => e = .returned (.bool r) ∧ Below w.heap.size w w' := by
 have HB := Aside0.mk (Below.refl w.heap.size w)
 have H : ((impl_HttpDate.f 86400).bind fun t190 => (if t190.toList = ([70, 114, 105, 44, 32, 48, 50, 32, 74, 97, 110, 32, 49, 57, 55, 48, 32, 48, 48, 58, 48, 48, 58, 48, 48, 32, 71, 77, 84] : List UInt8) then ((impl_Weekday.f 0).bind fun t191 => (if t191 = 3 then ((impl_Stamp.f 1).bind fun t192 => (some (t192.toList == ([49, 57, 55, 48, 48, 49, 48, 49, 48, 48, 48, 48, 48, 49] : List UInt8)))) else (some false))) else (some false))) = some r := h
 clear h
 replace H := Option.bind_eq_some_iff.mp H
 obtain ⟨t190, A10, H⟩ := H
 replace H : (if t190.toList = ([70, 114, 105, 44, 32, 48, 50, 32, 74, 97, 110, 32, 49, 57, 55, 48, 32, 48, 48, 58, 48, 48, 58, 48, 48, 32, 71, 77, 84] : List UInt8) then ((impl_Weekday.f 0).bind fun t191 => (if t191 = 3 then ((impl_Stamp.f 1).bind fun t192 => (some (t192.toList == ([49, 57, 55, 48, 48, 49, 48, 49, 48, 48, 48, 48, 48, 49] : List UInt8)))) else (some false))) else (some false)) = some r := H
 have A1 := Aside0.mk A10
 clear A10
 by_cases c2 : t190.toList = ([70, 114, 105, 44, 32, 48, 50, 32, 74, 97, 110, 32, 49, 57, 55, 48, 32, 48, 48, 58, 48, 48, 58, 48, 48, 32, 71, 77, 84] : List UInt8)
 ·
  rw [if_pos c2] at H
  have c2b0 : (t190.toList == ([70, 114, 105, 44, 32, 48, 50, 32, 74, 97, 110, 32, 49, 57, 55, 48, 32, 48, 48, 58, 48, 48, 58, 48, 48, 32, 71, 77, 84] : List UInt8)) = true := beq_iff_eq.mpr c2
  have c2b1 : (t190.toList != ([70, 114, 105, 44, 32, 48, 50, 32, 74, 97, 110, 32, 49, 57, 55, 48, 32, 48, 48, 58, 48, 48, 58, 48, 48, 32, 71, 77, 84] : List UInt8)) = false := bne_eq_false_iff_eq.mpr c2
  clear c2
  replace H := Option.bind_eq_some_iff.mp H
  obtain ⟨t191, A30, H⟩ := H
  replace H : (if t191 = 3 then ((impl_Stamp.f 1).bind fun t192 => (some (t192.toList == ([49, 57, 55, 48, 48, 49, 48, 49, 48, 48, 48, 48, 48, 49] : List UInt8)))) else (some false)) = some r := H
  have A3 := Aside0.mk A30
  clear A30
  by_cases c4 : t191 = 3
  ·
   rw [if_pos c4] at H
   have c4b0 : (t191 == 3) = true := beq_iff_eq.mpr c4
   have c4b1 : (t191 != 3) = false := bne_eq_false_iff_eq.mpr c4
   clear c4
   replace H := Option.bind_eq_some_iff.mp H
   obtain ⟨t192, A50, H⟩ := H
   replace H : (some (t192.toList == ([49, 57, 55, 48, 48, 49, 48, 49, 48, 48, 48, 48, 48, 49] : List UInt8))) = some r := H
   have A5 := Aside0.mk A50
   clear A50
   obtain rfl := Option.some.inj H
   go_enter Tryd.func20, Tryd.ntmps20
   go_wp2_with (first | ((with_reducible refine gate_callee (f := 27) rfl ?_); refine goesL_ (some 1) rfl rfl Tryd.func27 (by kernel_rfl) rfl #[.int .i64 86400] rfl (by (try simp only [List.map_toArray, List.map_cons, List.map_nil]); first | done | rfl | (simp only [List.length_drop, List.length_take]; rfl)) ?_; (with_reducible refine (impl_HttpDate.calls 86400 t190 _ A1.out).mono ?_); rintro e w6 ⟨rfl, hb⟩; refine ⟨_, rfl, ?_⟩; have n0_ := Aside0.mk (below_step (by repeat (first | (with_reducible first | exact HB.out | apply below_alloc | apply pw_below_drewN | apply below_drew1) | exact HB.out)) hb); clear HB; have HB := n0_; clear n0_; (try clear hb); (try clear hb2); (try clear hk); (try clear hi)) | (go_at_call 23; (with_reducible refine (impl_Weekday.calls 0 t191 _ A3.out).mono ?_); rintro e w' ⟨rfl, ⟨nd, rfl⟩⟩) | (go_at_call 15; (with_reducible refine (impl_Stamp.calls 1 t192 _ A5.out).mono ?_); rintro e w7 ⟨rfl, hb⟩; have n0_ := Aside0.mk (below_step (by repeat (first | (with_reducible first | exact HB.out | apply below_alloc | apply pw_below_drewN | apply below_drew1) | exact HB.out)) hb); clear HB; have HB := n0_; clear n0_; (try clear hb); (try clear hb2); (try clear hk); (try clear hi)))
   go_ret
   exact ⟨by first | rfl | (simp [errW_none, errW_some] <;> rfl) | (simp [*, errW_none, errW_some] <;> rfl), by repeat (first | (with_reducible first | exact HB.out | apply below_alloc | apply pw_below_drewN | apply below_drew1) | exact HB.out)⟩
  ·
   rw [if_neg c4] at H
   have c4b0 : (t191 == 3) = false := beq_eq_false_iff_ne.mpr c4
   have c4b1 : (t191 != 3) = true := bne_iff_ne.mpr c4
   obtain rfl := Option.some.inj H
   go_enter Tryd.func20, Tryd.ntmps20
   go_wp2_with (first | ((with_reducible refine gate_callee (f := 27) rfl ?_); refine goesL_ (some 1) rfl rfl Tryd.func27 (by kernel_rfl) rfl #[.int .i64 86400] rfl (by (try simp only [List.map_toArray, List.map_cons, List.map_nil]); first | done | rfl | (simp only [List.length_drop, List.length_take]; rfl)) ?_; (with_reducible refine (impl_HttpDate.calls 86400 t190 _ A1.out).mono ?_); rintro e w8 ⟨rfl, hb⟩; refine ⟨_, rfl, ?_⟩; have n0_ := Aside0.mk (below_step (by repeat (first | (with_reducible first | exact HB.out | apply below_alloc | apply pw_below_drewN | apply below_drew1) | exact HB.out)) hb); clear HB; have HB := n0_; clear n0_; (try clear hb); (try clear hb2); (try clear hk); (try clear hi)) | (go_at_call 23; (with_reducible refine (impl_Weekday.calls 0 t191 _ A3.out).mono ?_); rintro e w' ⟨rfl, ⟨nd, rfl⟩⟩))
   go_ret
   exact ⟨by first | rfl | (simp [errW_none, errW_some] <;> rfl) | (simp [*, errW_none, errW_some] <;> rfl), by repeat (first | (with_reducible first | exact HB.out | apply below_alloc | apply pw_below_drewN | apply below_drew1) | exact HB.out)⟩
 ·
  rw [if_neg c2] at H
  have c2b0 : (t190.toList == ([70, 114, 105, 44, 32, 48, 50, 32, 74, 97, 110, 32, 49, 57, 55, 48, 32, 48, 48, 58, 48, 48, 58, 48, 48, 32, 71, 77, 84] : List UInt8)) = false := beq_eq_false_iff_ne.mpr c2
  have c2b1 : (t190.toList != ([70, 114, 105, 44, 32, 48, 50, 32, 74, 97, 110, 32, 49, 57, 55, 48, 32, 48, 48, 58, 48, 48, 58, 48, 48, 32, 71, 77, 84] : List UInt8)) = true := bne_iff_ne.mpr c2
  obtain rfl := Option.some.inj H
  go_enter Tryd.func20, Tryd.ntmps20
  go_wp2_with (first | ((with_reducible refine gate_callee (f := 27) rfl ?_); refine goesL_ (some 1) rfl rfl Tryd.func27 (by kernel_rfl) rfl #[.int .i64 86400] rfl (by (try simp only [List.map_toArray, List.map_cons, List.map_nil]); first | done | rfl | (simp only [List.length_drop, List.length_take]; rfl)) ?_; (with_reducible refine (impl_HttpDate.calls 86400 t190 _ A1.out).mono ?_); rintro e w9 ⟨rfl, hb⟩; refine ⟨_, rfl, ?_⟩; have n0_ := Aside0.mk (below_step (by repeat (first | (with_reducible first | exact HB.out | apply below_alloc | apply pw_below_drewN | apply below_drew1) | exact HB.out)) hb); clear HB; have HB := n0_; clear n0_; (try clear hb); (try clear hb2); (try clear hk); (try clear hi)))
  go_ret
  exact ⟨by first | rfl | (simp [errW_none, errW_some] <;> rfl) | (simp [*, errW_none, errW_some] <;> rfl), by repeat (first | (with_reducible first | exact HB.out | apply below_alloc | apply pw_below_drewN | apply below_drew1) | exact HB.out)⟩

/-! ### laws_FnStamps: function 5 -/
def laws_FnStamps.j0 : Nat → Int → Int → Bool → Option (Bool)
 | 0, _, _, _ => none
 | k + 1, x3, x4, x23 => if x23 = true then ((laws_days.f).bind fun t198 => (some t198)) else ((impl_Stamp.f x3).bind fun t199 => ((impl_Stamp.f x4).bind fun t200 => (if ((decide (x3 < x4)) == (Op.bytesLess t199.toList t200.toList)) = true then ((impl_WarcDate.f x3).bind fun t201 => ((impl_WarcDate.f x4).bind fun t202 => (if ((decide (x3 < x4)) == (Op.bytesLess t201.toList t202.toList)) = true then ((impl_Stamp.f x3).bind fun t203 => (if (t203.size : Int) = 14 then ((laws_days.f).bind fun t204 => (some t204)) else (some false))) else (some false)))) else (some false))))
def laws_FnStamps.f (k : Nat) (l0 : List Int) : Option (Bool) := (spec_DrawStamp.f k l0).bind fun t193 => ((laws_more.f l0 3).bind fun t194 => ((spec_DrawStamp.f k t194).bind fun t197 => (if t193 < 0 then (laws_FnStamps.j0 k t193 t197 true) else (if t197 < 0 then (laws_FnStamps.j0 k t193 t197 true) else (if t193 > 253402300799 then (laws_FnStamps.j0 k t193 t197 true) else (laws_FnStamps.j0 k t193 t197 (decide (t197 > 253402300799))))))))
theorem laws_FnStamps.mono_l : ∀ k, (∀ y0 y1 y2, LeO (laws_FnStamps.j0 k y0 y1 y2) (laws_FnStamps.j0 (k + 1) y0 y1 y2))
 | 0 => fun _ _ _ r h => by simp [laws_FnStamps.j0] at h
 | k + 1 => by
  have ih0 := laws_FnStamps.mono_l k
  ·
   intro y0 y1 y2
   unfold laws_FnStamps.j0
   repeat' first
   | (with_reducible exact ih0 _ _ _)
   | (with_reducible exact spec_DrawStamp.mono _ _)
   | (with_reducible exact LeO.refl _)
   | (with_reducible exact LeO.none _)
   | (with_reducible refine LeO.ite ?_ ?_)
   | (with_reducible refine LeO.bind ?_ (fun _ => ?_))
   | exact ih0 _ _ _
   | exact spec_DrawStamp.mono _ _
   | exact LeO.none _
   | refine LeO.ite ?_ ?_
   | refine LeO.bind ?_ (fun _ => ?_)
theorem laws_FnStamps.mono : ∀ a0 k, LeO (laws_FnStamps.f k a0) (laws_FnStamps.f (k + 1) a0) := by
 intro a0 k
 have ih0 := laws_FnStamps.mono_l k
 unfold laws_FnStamps.f
 repeat' first
   | (with_reducible exact ih0 _ _ _)
   | (with_reducible exact spec_DrawStamp.mono _ _)
   | (with_reducible exact LeO.refl _)
   | (with_reducible exact LeO.none _)
   | (with_reducible refine LeO.ite ?_ ?_)
   | (with_reducible refine LeO.bind ?_ (fun _ => ?_))
   | exact ih0 _ _ _
   | exact spec_DrawStamp.mono _ _
   | exact LeO.none _
   | refine LeO.ite ?_ ?_
   | refine LeO.bind ?_ (fun _ => ?_)
set_option maxHeartbeats 8000000 in
set_option maxRecDepth 100000 in
theorem laws_FnStamps.calls (k : Nat) (A0 : Option Addr) (c0 : Nat) (l0 : List Int) (r : Bool) (w : World) (hr0 : Kd.C (Kd.int .u8) w A0 l0.length l0) (hc0 : l0.length ≤ c0) (h : laws_FnStamps.f k l0 = some r) :
  Calls Tryd.prog 5 #[.slice A0 l0.length c0] w fun e w' => e = .returned (.bool r) ∧ Below w.heap.size w w' := by
 have HR0 := Aside0.mk hr0
 have HC0 := Aside0.mk hc0
 clear hr0 hc0
 have HB := Aside0.mk (Below.refl w.heap.size w)
 have H : ((spec_DrawStamp.f k l0).bind fun t193 => ((laws_more.f l0 3).bind fun t194 => ((spec_DrawStamp.f k t194).bind fun t197 => (if t193 < 0 then (laws_FnStamps.j0 k t193 t197 true) else (if t197 < 0 then (laws_FnStamps.j0 k t193 t197 true) else (if t193 > 253402300799 then (laws_FnStamps.j0 k t193 t197 true) else (laws_FnStamps.j0 k t193 t197 (decide (t197 > 253402300799))))))))) = some r := h
 clear h
 replace H := Option.bind_eq_some_iff.mp H
 obtain ⟨t193, A20, H⟩ := H
 replace H : ((laws_more.f l0 3).bind fun t194 => ((spec_DrawStamp.f k t194).bind fun t197 => (if t193 < 0 then (laws_FnStamps.j0 k t193 t197 true) else (if t197 < 0 then (laws_FnStamps.j0 k t193 t197 true) else (if t193 > 253402300799 then (laws_FnStamps.j0 k t193 t197 true) else (laws_FnStamps.j0 k t193 t197 (decide (t197 > 253402300799)))))))) = some r := H
 have A2 := Aside0.mk A20
 clear A20
 replace H := Option.bind_eq_some_iff.mp H
 obtain ⟨t194, A30, H⟩ := H
 replace H : ((spec_DrawStamp.f k t194).bind fun t197 => (if t193 < 0 then (laws_FnStamps.j0 k t193 t197 true) else (if t197 < 0 then (laws_FnStamps.j0 k t193 t197 true) else (if t193 > 253402300799 then (laws_FnStamps.j0 k t193 t197 true) else (laws_FnStamps.j0 k t193 t197 (decide (t197 > 253402300799))))))) = some r := H
 have A3 := Aside0.mk A30
 clear A30
 replace H := Option.bind_eq_some_iff.mp H
 obtain ⟨t197, A40, H⟩ := H
 replace H : (if t193 < 0 then (laws_FnStamps.j0 k t193 t197 true) else (if t197 < 0 then (laws_FnStamps.j0 k t193 t197 true) else (if t193 > 253402300799 then (laws_FnStamps.j0 k t193 t197 true) else (laws_FnStamps.j0 k t193 t197 (decide (t197 > 253402300799)))))) = some r := H
 have A4 := Aside0.mk A40
 clear A40
 have HC5 := Aside0.mk H
 clear H
 go_enter Tryd.func5, Tryd.ntmps5
 go_upto_region 3 with (first | ((with_reducible refine gate_callee (f := 18) rfl ?_); refine goesL_ (some 6) rfl rfl Tryd.func18 (by kernel_rfl) rfl #[.slice A0 l0.length c0] rfl (by (try simp only [List.map_toArray, List.map_cons, List.map_nil]); first | done | rfl | (simp only [List.length_drop, List.length_take]; rfl)) ?_; (with_reducible refine (spec_DrawStamp.calls k _ _ l0 t193 _ ?side1 ?side2 A2.out).mono ?_); (case side1 => repeat (first | exact HR0.out | (with_reducible refine Kd.C_alloc ?_ _) | (with_reducible refine Kd.C_drewN ?_ _) | (with_reducible refine Kd.C_drew ?_))); (case side2 => exact HC0.out); rintro e w6 ⟨rfl, hb⟩; refine ⟨_, rfl, ?_⟩; have n0_ := Aside0.mk (below_step (by repeat (first | (with_reducible first | exact HB.out | apply below_alloc | apply pw_below_drewN | apply below_drew1) | exact HB.out)) hb); clear HB; have HB := n0_; clear n0_; (try clear hb); (try clear hb2); (try clear hk); (try clear hi)) | ((with_reducible refine gate_callee (f := 19) rfl ?_); refine goesL_ (some 8) rfl rfl Tryd.func19 (by kernel_rfl) rfl #[.slice A0 l0.length c0, .int .i64 3] rfl (by (try simp only [List.map_toArray, List.map_cons, List.map_nil]); first | done | rfl | (simp only [List.length_drop, List.length_take]; rfl)) ?_; (with_reducible refine (laws_more.calls _ _ l0 3 t194 _ ?side1 ?side2 A3.out).mono ?_); (case side1 => repeat (first | exact (Kd.C_below HR0.out HB.out) | (with_reducible refine Kd.C_alloc ?_ _) | (with_reducible refine Kd.C_drewN ?_ _) | (with_reducible refine Kd.C_drew ?_))); (case side2 => exact HC0.out); rintro e w7 ⟨v195, rfl, ho0, hb⟩; refine ⟨_, rfl, ?_⟩; have n0_ := Aside0.mk (Kd.R_lower ho0 (below_size (by repeat (first | (with_reducible first | exact HB.out | apply below_alloc | apply pw_below_drewN | apply below_drew1) | exact HB.out)))); have n1_ := Aside0.mk (below_step (by repeat (first | (with_reducible first | exact HB.out | apply below_alloc | apply pw_below_drewN | apply below_drew1) | exact HB.out)) hb); clear HB; have HO196 := n0_; have HB := n1_; clear n0_ n1_; (try clear hb); (try clear hb2); (try clear hk); (try clear hi); (try clear ho0); obtain ⟨Ao8, co8, eo8⟩ := Kd.R_slice HO196.out; subst eo8) | ((with_reducible refine gate_callee (f := 18) rfl ?_); refine goesL_ (some 9) rfl rfl Tryd.func18 (by kernel_rfl) rfl #[.slice Ao8 t194.length co8] rfl (by (try simp only [List.map_toArray, List.map_cons, List.map_nil]); first | done | rfl | (simp only [List.length_drop, List.length_take]; rfl)) ?_; (with_reducible refine (spec_DrawStamp.calls k _ _ t194 t197 _ ?side1 ?side2 A4.out).mono ?_); (case side1 => repeat (first | exact (Kd.R_reads' HO196.out).2.2 | (with_reducible refine Kd.C_alloc ?_ _) | (with_reducible refine Kd.C_drewN ?_ _) | (with_reducible refine Kd.C_drew ?_))); (case side2 => exact (Kd.R_reads' HO196.out).2.1); rintro e w9 ⟨rfl, hb⟩; refine ⟨_, rfl, ?_⟩; have n0_ := Aside0.mk (Kd.R_below (by (with_reducible repeat (first | apply Kd.R_alloc | apply Kd.R_drewN | apply Kd.R_drew)); exact HO196.out) hb); have n1_ := Aside0.mk (below_step (by repeat (first | (with_reducible first | exact HB.out | apply below_alloc | apply pw_below_drewN | apply below_drew1) | exact HB.out)) hb); clear HO196; clear HB; have HO196 := n0_; have HB := n1_; clear n0_ n1_; (try clear hb); (try clear hb2); (try clear hk); (try clear hi)))
 (try simp only [Act.put, List.setIfInBounds_toArray, List.set_cons_zero, List.set_cons_succ])
 go_cut [23] (fun v23 wc => ∃ (kq : Nat) (x23_4 : Bool), v23 = .bool x23_4 ∧ Aside0 (laws_FnStamps.j0 kq t193 t197 x23_4 = some r) ∧ Aside0 (kq ≤ k) ∧ Aside0 (Below w.heap.size w wc))
 case first =>
  have H := HC5.out
  clear HC5
  by_cases c10 : t193 < 0
  ·
   rw [if_pos c10] at H
   have c10b0 : decide (t193 < 0) = true := decide_eq_true c10
   clear c10
   (first | rw [c10b0] | (simp only [i64_w, i32_w]; rw [c10b0]) | skip)
   have H' := Aside0.mk H
   clear H
   go_wp2
   go_meet
   case rel => exact ⟨_, (true), (by first | rfl | (simp; done) | (simp [*]; done)), H', ⟨by first | omega | exact Nat.le_refl _⟩, ⟨by repeat (first | (with_reducible first | exact HB.out | apply below_alloc | apply pw_below_drewN | apply below_drew1) | exact HB.out)⟩⟩
  ·
   rw [if_neg c10] at H
   have c10b0 : decide (t193 < 0) = false := decide_eq_false c10
   clear c10
   (first | rw [c10b0] | (simp only [i64_w, i32_w]; rw [c10b0]) | skip)
   by_cases c11 : t197 < 0
   ·
    rw [if_pos c11] at H
    have c11b0 : decide (t197 < 0) = true := decide_eq_true c11
    clear c11
    have H' := Aside0.mk H
    clear H
    go_wp2
    go_meet
    case rel => exact ⟨_, (true), (by first | rfl | (simp; done) | (simp [*]; done)), H', ⟨by first | omega | exact Nat.le_refl _⟩, ⟨by repeat (first | (with_reducible first | exact HB.out | apply below_alloc | apply pw_below_drewN | apply below_drew1) | exact HB.out)⟩⟩
   ·
    rw [if_neg c11] at H
    have c11b0 : decide (t197 < 0) = false := decide_eq_false c11
    clear c11
    by_cases c12 : t193 > 253402300799
    ·
     rw [if_pos c12] at H
     have c12b0 : decide (253402300799 < t193) = true := decide_eq_true c12
     clear c12
     have H' := Aside0.mk H
     clear H
     go_wp2
     go_meet
     case rel => exact ⟨_, (true), (by first | rfl | (simp; done) | (simp [*]; done)), H', ⟨by first | omega | exact Nat.le_refl _⟩, ⟨by repeat (first | (with_reducible first | exact HB.out | apply below_alloc | apply pw_below_drewN | apply below_drew1) | exact HB.out)⟩⟩
    ·
     rw [if_neg c12] at H
     have c12b0 : decide (253402300799 < t193) = false := decide_eq_false c12
     clear c12
     have H' := Aside0.mk H
     clear H
     go_wp2
     go_meet
     case rel => exact ⟨_, (decide (t197 > 253402300799)), (by first | rfl | (simp; done) | (simp [*]; done)), H', ⟨by first | omega | exact Nat.le_refl _⟩, ⟨by repeat (first | (with_reducible first | exact HB.out | apply below_alloc | apply pw_below_drewN | apply below_drew1) | exact HB.out)⟩⟩
 case rest =>
  clear HC5
  try clear c1
  try clear p2
  try clear c5
  try clear c10
  try clear c10b0
  try clear c11
  try clear c11b0
  try clear c12
  try clear c12b0
  obtain ⟨kq, x23_4, rfl, HA, HJ4, HB⟩ := hcut
  cases kq with
  | zero => exact absurd HA.out (by simp [laws_FnStamps.j0])
  | succ kj4 =>
   have H := HA.out
   clear HA
   simp only [laws_FnStamps.j0] at H
   by_cases c13 : x23_4 = true
   ·
    subst c13
    have H1 : ((laws_days.f).bind fun t198 => (some t198)) = some r := by rw [if_pos rfl] at H; exact H
    clear H
    have H := H1
    clear H1
    replace H := Option.bind_eq_some_iff.mp H
    obtain ⟨t198, A140, H⟩ := H
    replace H : (some t198) = some r := H
    have A14 := Aside0.mk A140
    clear A140
    obtain rfl := Option.some.inj H
    go_wp2_with (first | ((with_reducible refine gate_callee (f := 20) rfl ?_); refine goesL_ (some 24) rfl rfl Tryd.func20 (by kernel_rfl) rfl #[] rfl (by (try simp only [List.map_toArray, List.map_cons, List.map_nil]); first | done | rfl | (simp only [List.length_drop, List.length_take]; rfl)) ?_; (with_reducible refine (laws_days.calls  t198 _ A14.out).mono ?_); rintro e w15 ⟨rfl, hb⟩; refine ⟨_, rfl, ?_⟩; have n0_ := Aside0.mk (below_step (by repeat (first | (with_reducible first | exact HB.out | apply below_alloc | apply pw_below_drewN | apply below_drew1) | exact HB.out)) hb); clear HB; have HB := n0_; clear n0_; (try clear hb); (try clear hb2); (try clear hk); (try clear hi)))
    go_ret
    exact ⟨by first | rfl | (simp [errW_none, errW_some] <;> rfl) | (simp [*, errW_none, errW_some] <;> rfl), by repeat (first | (with_reducible first | exact HB.out | apply below_alloc | apply pw_below_drewN | apply below_drew1) | exact HB.out)⟩
   ·
    replace c13 := Bool.eq_false_iff.mpr c13
    subst c13
    have H1 : ((impl_Stamp.f t193).bind fun t199 => ((impl_Stamp.f t197).bind fun t200 => (if ((decide (t193 < t197)) == (Op.bytesLess t199.toList t200.toList)) = true then ((impl_WarcDate.f t193).bind fun t201 => ((impl_WarcDate.f t197).bind fun t202 => (if ((decide (t193 < t197)) == (Op.bytesLess t201.toList t202.toList)) = true then ((impl_Stamp.f t193).bind fun t203 => (if (t203.size : Int) = 14 then ((laws_days.f).bind fun t204 => (some t204)) else (some false))) else (some false)))) else (some false)))) = some r := by rw [if_neg (show ¬ (false = true) by decide)] at H; exact H
    clear H
    have H := H1
    clear H1
    replace H := Option.bind_eq_some_iff.mp H
    obtain ⟨t199, A160, H⟩ := H
    replace H : ((impl_Stamp.f t197).bind fun t200 => (if ((decide (t193 < t197)) == (Op.bytesLess t199.toList t200.toList)) = true then ((impl_WarcDate.f t193).bind fun t201 => ((impl_WarcDate.f t197).bind fun t202 => (if ((decide (t193 < t197)) == (Op.bytesLess t201.toList t202.toList)) = true then ((impl_Stamp.f t193).bind fun t203 => (if (t203.size : Int) = 14 then ((laws_days.f).bind fun t204 => (some t204)) else (some false))) else (some false)))) else (some false))) = some r := H
    have A16 := Aside0.mk A160
    clear A160
    replace H := Option.bind_eq_some_iff.mp H
    obtain ⟨t200, A170, H⟩ := H
    replace H : (if ((decide (t193 < t197)) == (Op.bytesLess t199.toList t200.toList)) = true then ((impl_WarcDate.f t193).bind fun t201 => ((impl_WarcDate.f t197).bind fun t202 => (if ((decide (t193 < t197)) == (Op.bytesLess t201.toList t202.toList)) = true then ((impl_Stamp.f t193).bind fun t203 => (if (t203.size : Int) = 14 then ((laws_days.f).bind fun t204 => (some t204)) else (some false))) else (some false)))) else (some false)) = some r := H
    have A17 := Aside0.mk A170
    clear A170
    by_cases c18 : ((decide (t193 < t197)) == (Op.bytesLess t199.toList t200.toList)) = true
    ·
     rw [if_pos c18] at H
     have c18b0 : ((decide (t193 < t197)) == (Op.bytesLess t199.toList t200.toList)) = true := c18
     (try (have c18b1 : decide ((decide (t193 < t197)) = (Op.bytesLess t199.toList t200.toList)) = true := by simpa using c18))
     (try (have c18b2 : ((decide (t193 < t197)) == (Op.bytesLess t199.toList t200.toList)) = true := by simpa using c18))
     clear c18
     replace H := Option.bind_eq_some_iff.mp H
     obtain ⟨t201, A190, H⟩ := H
     replace H : ((impl_WarcDate.f t197).bind fun t202 => (if ((decide (t193 < t197)) == (Op.bytesLess t201.toList t202.toList)) = true then ((impl_Stamp.f t193).bind fun t203 => (if (t203.size : Int) = 14 then ((laws_days.f).bind fun t204 => (some t204)) else (some false))) else (some false))) = some r := H
     have A19 := Aside0.mk A190
     clear A190
     replace H := Option.bind_eq_some_iff.mp H
     obtain ⟨t202, A200, H⟩ := H
     replace H : (if ((decide (t193 < t197)) == (Op.bytesLess t201.toList t202.toList)) = true then ((impl_Stamp.f t193).bind fun t203 => (if (t203.size : Int) = 14 then ((laws_days.f).bind fun t204 => (some t204)) else (some false))) else (some false)) = some r := H
     have A20 := Aside0.mk A200
     clear A200
     by_cases c21 : ((decide (t193 < t197)) == (Op.bytesLess t201.toList t202.toList)) = true
     ·
      rw [if_pos c21] at H
      have c21b0 : ((decide (t193 < t197)) == (Op.bytesLess t201.toList t202.toList)) = true := c21
      (try (have c21b1 : decide ((decide (t193 < t197)) = (Op.bytesLess t201.toList t202.toList)) = true := by simpa using c21))
      (try (have c21b2 : ((decide (t193 < t197)) == (Op.bytesLess t201.toList t202.toList)) = true := by simpa using c21))
      clear c21
      replace H := Option.bind_eq_some_iff.mp H
      obtain ⟨t203, A220, H⟩ := H
      replace H : (if (t203.size : Int) = 14 then ((laws_days.f).bind fun t204 => (some t204)) else (some false)) = some r := H
      have A22 := Aside0.mk A220
      clear A220
      have eq_ := (A16.out).symm.trans A22.out
      simp only [Option.some.injEq] at eq_
      obtain rfl := eq_
      by_cases c23 : (t199.size : Int) = 14
      ·
       rw [if_pos c23] at H
       have c23b0 : ((t199.size : Int) == 14) = true := beq_iff_eq.mpr c23
       have c23b1 : ((t199.size : Int) != 14) = false := bne_eq_false_iff_eq.mpr c23
       clear c23
       replace H := Option.bind_eq_some_iff.mp H
       obtain ⟨t204, A240, H⟩ := H
       replace H : (some t204) = some r := H
       have A24 := Aside0.mk A240
       clear A240
       obtain rfl := Option.some.inj H
       go_wp2_with (first | ((with_reducible refine gate_callee (f := 15) rfl ?_); refine goesL_ (some 29) rfl rfl Tryd.func15 (by kernel_rfl) rfl #[.int .i64 t193] rfl (by (try simp only [List.map_toArray, List.map_cons, List.map_nil]); first | done | rfl | (simp only [List.length_drop, List.length_take]; rfl)) ?_; (with_reducible refine (impl_Stamp.calls t193 t199 _ A16.out).mono ?_); rintro e w25 ⟨rfl, hb⟩; refine ⟨_, rfl, ?_⟩; have n0_ := Aside0.mk (below_step (by repeat (first | (with_reducible first | exact HB.out | apply below_alloc | apply pw_below_drewN | apply below_drew1) | exact HB.out)) hb); clear HB; have HB := n0_; clear n0_; (try clear hb); (try clear hb2); (try clear hk); (try clear hi)) | ((with_reducible refine gate_callee (f := 15) rfl ?_); refine goesL_ (some 31) rfl rfl Tryd.func15 (by kernel_rfl) rfl #[.int .i64 t197] rfl (by (try simp only [List.map_toArray, List.map_cons, List.map_nil]); first | done | rfl | (simp only [List.length_drop, List.length_take]; rfl)) ?_; (with_reducible refine (impl_Stamp.calls t197 t200 _ A17.out).mono ?_); rintro e w26 ⟨rfl, hb⟩; refine ⟨_, rfl, ?_⟩; have n0_ := Aside0.mk (below_step (by repeat (first | (with_reducible first | exact HB.out | apply below_alloc | apply pw_below_drewN | apply below_drew1) | exact HB.out)) hb); clear HB; have HB := n0_; clear n0_; (try clear hb); (try clear hb2); (try clear hk); (try clear hi)) | (go_at_call 17; (with_reducible refine (impl_WarcDate.calls t193 t201 _ A19.out).mono ?_); rintro e w27 ⟨rfl, hb⟩; have n0_ := Aside0.mk (below_step (by repeat (first | (with_reducible first | exact HB.out | apply below_alloc | apply pw_below_drewN | apply below_drew1) | exact HB.out)) hb); clear HB; have HB := n0_; clear n0_; (try clear hb); (try clear hb2); (try clear hk); (try clear hi)) | (go_at_call 17; (with_reducible refine (impl_WarcDate.calls t197 t202 _ A20.out).mono ?_); rintro e w28 ⟨rfl, hb⟩; have n0_ := Aside0.mk (below_step (by repeat (first | (with_reducible first | exact HB.out | apply below_alloc | apply pw_below_drewN | apply below_drew1) | exact HB.out)) hb); clear HB; have HB := n0_; clear n0_; (try clear hb); (try clear hb2); (try clear hk); (try clear hi)) | (go_at_call 15; (with_reducible refine (impl_Stamp.calls t193 t199 _ A22.out).mono ?_); rintro e w29 ⟨rfl, hb⟩; have n0_ := Aside0.mk (below_step (by repeat (first | (with_reducible first | exact HB.out | apply below_alloc | apply pw_below_drewN | apply below_drew1) | exact HB.out)) hb); clear HB; have HB := n0_; clear n0_; (try clear hb); (try clear hb2); (try clear hk); (try clear hi)) | (go_at_call 20; (with_reducible refine (laws_days.calls  t204 _ A24.out).mono ?_); rintro e w30 ⟨rfl, hb⟩; have n0_ := Aside0.mk (below_step (by repeat (first | (with_reducible first | exact HB.out | apply below_alloc | apply pw_below_drewN | apply below_drew1) | exact HB.out)) hb); clear HB; have HB := n0_; clear n0_; (try clear hb); (try clear hb2); (try clear hk); (try clear hi)))
       go_ret
       exact ⟨by first | rfl | (simp [errW_none, errW_some] <;> rfl) | (simp [*, errW_none, errW_some] <;> rfl), by repeat (first | (with_reducible first | exact HB.out | apply below_alloc | apply pw_below_drewN | apply below_drew1) | exact HB.out)⟩
      ·
       rw [if_neg c23] at H
       have c23b0 : ((t199.size : Int) == 14) = false := beq_eq_false_iff_ne.mpr c23
       have c23b1 : ((t199.size : Int) != 14) = true := bne_iff_ne.mpr c23
       obtain rfl := Option.some.inj H
       go_wp2_with (first | ((with_reducible refine gate_callee (f := 15) rfl ?_); refine goesL_ (some 29) rfl rfl Tryd.func15 (by kernel_rfl) rfl #[.int .i64 t193] rfl (by (try simp only [List.map_toArray, List.map_cons, List.map_nil]); first | done | rfl | (simp only [List.length_drop, List.length_take]; rfl)) ?_; (with_reducible refine (impl_Stamp.calls t193 t199 _ A16.out).mono ?_); rintro e w31 ⟨rfl, hb⟩; refine ⟨_, rfl, ?_⟩; have n0_ := Aside0.mk (below_step (by repeat (first | (with_reducible first | exact HB.out | apply below_alloc | apply pw_below_drewN | apply below_drew1) | exact HB.out)) hb); clear HB; have HB := n0_; clear n0_; (try clear hb); (try clear hb2); (try clear hk); (try clear hi)) | ((with_reducible refine gate_callee (f := 15) rfl ?_); refine goesL_ (some 31) rfl rfl Tryd.func15 (by kernel_rfl) rfl #[.int .i64 t197] rfl (by (try simp only [List.map_toArray, List.map_cons, List.map_nil]); first | done | rfl | (simp only [List.length_drop, List.length_take]; rfl)) ?_; (with_reducible refine (impl_Stamp.calls t197 t200 _ A17.out).mono ?_); rintro e w32 ⟨rfl, hb⟩; refine ⟨_, rfl, ?_⟩; have n0_ := Aside0.mk (below_step (by repeat (first | (with_reducible first | exact HB.out | apply below_alloc | apply pw_below_drewN | apply below_drew1) | exact HB.out)) hb); clear HB; have HB := n0_; clear n0_; (try clear hb); (try clear hb2); (try clear hk); (try clear hi)) | (go_at_call 17; (with_reducible refine (impl_WarcDate.calls t193 t201 _ A19.out).mono ?_); rintro e w33 ⟨rfl, hb⟩; have n0_ := Aside0.mk (below_step (by repeat (first | (with_reducible first | exact HB.out | apply below_alloc | apply pw_below_drewN | apply below_drew1) | exact HB.out)) hb); clear HB; have HB := n0_; clear n0_; (try clear hb); (try clear hb2); (try clear hk); (try clear hi)) | (go_at_call 17; (with_reducible refine (impl_WarcDate.calls t197 t202 _ A20.out).mono ?_); rintro e w34 ⟨rfl, hb⟩; have n0_ := Aside0.mk (below_step (by repeat (first | (with_reducible first | exact HB.out | apply below_alloc | apply pw_below_drewN | apply below_drew1) | exact HB.out)) hb); clear HB; have HB := n0_; clear n0_; (try clear hb); (try clear hb2); (try clear hk); (try clear hi)) | (go_at_call 15; (with_reducible refine (impl_Stamp.calls t193 t199 _ A22.out).mono ?_); rintro e w35 ⟨rfl, hb⟩; have n0_ := Aside0.mk (below_step (by repeat (first | (with_reducible first | exact HB.out | apply below_alloc | apply pw_below_drewN | apply below_drew1) | exact HB.out)) hb); clear HB; have HB := n0_; clear n0_; (try clear hb); (try clear hb2); (try clear hk); (try clear hi)))
       go_ret
       exact ⟨by first | rfl | (simp [errW_none, errW_some] <;> rfl) | (simp [*, errW_none, errW_some] <;> rfl), by repeat (first | (with_reducible first | exact HB.out | apply below_alloc | apply pw_below_drewN | apply below_drew1) | exact HB.out)⟩
     ·
      rw [if_neg c21] at H
      have c21b0 : ((decide (t193 < t197)) == (Op.bytesLess t201.toList t202.toList)) = false := by simpa using c21
      (try (have c21b1 : decide ((decide (t193 < t197)) = (Op.bytesLess t201.toList t202.toList)) = false := by simpa using c21))
      (try (have c21b2 : ((decide (t193 < t197)) == (Op.bytesLess t201.toList t202.toList)) = false := by simpa using c21))
      (try (have c21b3 : ¬ ((decide (t193 < t197)) = (Op.bytesLess t201.toList t202.toList)) := by simpa using c21))
      clear c21
      obtain rfl := Option.some.inj H
      go_wp2_with (first | ((with_reducible refine gate_callee (f := 15) rfl ?_); refine goesL_ (some 29) rfl rfl Tryd.func15 (by kernel_rfl) rfl #[.int .i64 t193] rfl (by (try simp only [List.map_toArray, List.map_cons, List.map_nil]); first | done | rfl | (simp only [List.length_drop, List.length_take]; rfl)) ?_; (with_reducible refine (impl_Stamp.calls t193 t199 _ A16.out).mono ?_); rintro e w36 ⟨rfl, hb⟩; refine ⟨_, rfl, ?_⟩; have n0_ := Aside0.mk (below_step (by repeat (first | (with_reducible first | exact HB.out | apply below_alloc | apply pw_below_drewN | apply below_drew1) | exact HB.out)) hb); clear HB; have HB := n0_; clear n0_; (try clear hb); (try clear hb2); (try clear hk); (try clear hi)) | ((with_reducible refine gate_callee (f := 15) rfl ?_); refine goesL_ (some 31) rfl rfl Tryd.func15 (by kernel_rfl) rfl #[.int .i64 t197] rfl (by (try simp only [List.map_toArray, List.map_cons, List.map_nil]); first | done | rfl | (simp only [List.length_drop, List.length_take]; rfl)) ?_; (with_reducible refine (impl_Stamp.calls t197 t200 _ A17.out).mono ?_); rintro e w37 ⟨rfl, hb⟩; refine ⟨_, rfl, ?_⟩; have n0_ := Aside0.mk (below_step (by repeat (first | (with_reducible first | exact HB.out | apply below_alloc | apply pw_below_drewN | apply below_drew1) | exact HB.out)) hb); clear HB; have HB := n0_; clear n0_; (try clear hb); (try clear hb2); (try clear hk); (try clear hi)) | (go_at_call 17; (with_reducible refine (impl_WarcDate.calls t193 t201 _ A19.out).mono ?_); rintro e w38 ⟨rfl, hb⟩; have n0_ := Aside0.mk (below_step (by repeat (first | (with_reducible first | exact HB.out | apply below_alloc | apply pw_below_drewN | apply below_drew1) | exact HB.out)) hb); clear HB; have HB := n0_; clear n0_; (try clear hb); (try clear hb2); (try clear hk); (try clear hi)) | (go_at_call 17; (with_reducible refine (impl_WarcDate.calls t197 t202 _ A20.out).mono ?_); rintro e w39 ⟨rfl, hb⟩; have n0_ := Aside0.mk (below_step (by repeat (first | (with_reducible first | exact HB.out | apply below_alloc | apply pw_below_drewN | apply below_drew1) | exact HB.out)) hb); clear HB; have HB := n0_; clear n0_; (try clear hb); (try clear hb2); (try clear hk); (try clear hi)))
      go_ret
      exact ⟨by first | rfl | (simp [errW_none, errW_some] <;> rfl) | (simp [*, errW_none, errW_some] <;> rfl), by repeat (first | (with_reducible first | exact HB.out | apply below_alloc | apply pw_below_drewN | apply below_drew1) | exact HB.out)⟩
    ·
     rw [if_neg c18] at H
     have c18b0 : ((decide (t193 < t197)) == (Op.bytesLess t199.toList t200.toList)) = false := by simpa using c18
     (try (have c18b1 : decide ((decide (t193 < t197)) = (Op.bytesLess t199.toList t200.toList)) = false := by simpa using c18))
     (try (have c18b2 : ((decide (t193 < t197)) == (Op.bytesLess t199.toList t200.toList)) = false := by simpa using c18))
     (try (have c18b3 : ¬ ((decide (t193 < t197)) = (Op.bytesLess t199.toList t200.toList)) := by simpa using c18))
     clear c18
     obtain rfl := Option.some.inj H
     go_wp2_with (first | ((with_reducible refine gate_callee (f := 15) rfl ?_); refine goesL_ (some 29) rfl rfl Tryd.func15 (by kernel_rfl) rfl #[.int .i64 t193] rfl (by (try simp only [List.map_toArray, List.map_cons, List.map_nil]); first | done | rfl | (simp only [List.length_drop, List.length_take]; rfl)) ?_; (with_reducible refine (impl_Stamp.calls t193 t199 _ A16.out).mono ?_); rintro e w40 ⟨rfl, hb⟩; refine ⟨_, rfl, ?_⟩; have n0_ := Aside0.mk (below_step (by repeat (first | (with_reducible first | exact HB.out | apply below_alloc | apply pw_below_drewN | apply below_drew1) | exact HB.out)) hb); clear HB; have HB := n0_; clear n0_; (try clear hb); (try clear hb2); (try clear hk); (try clear hi)) | ((with_reducible refine gate_callee (f := 15) rfl ?_); refine goesL_ (some 31) rfl rfl Tryd.func15 (by kernel_rfl) rfl #[.int .i64 t197] rfl (by (try simp only [List.map_toArray, List.map_cons, List.map_nil]); first | done | rfl | (simp only [List.length_drop, List.length_take]; rfl)) ?_; (with_reducible refine (impl_Stamp.calls t197 t200 _ A17.out).mono ?_); rintro e w41 ⟨rfl, hb⟩; refine ⟨_, rfl, ?_⟩; have n0_ := Aside0.mk (below_step (by repeat (first | (with_reducible first | exact HB.out | apply below_alloc | apply pw_below_drewN | apply below_drew1) | exact HB.out)) hb); clear HB; have HB := n0_; clear n0_; (try clear hb); (try clear hb2); (try clear hk); (try clear hi)))
     go_ret
     exact ⟨by first | rfl | (simp [errW_none, errW_some] <;> rfl) | (simp [*, errW_none, errW_some] <;> rfl), by repeat (first | (with_reducible first | exact HB.out | apply below_alloc | apply pw_below_drewN | apply below_drew1) | exact HB.out)⟩

/-- THE ONE PURE STATEMENT of laws_FnStamps: yours. -/
def laws_FnStamps.Pure : Prop := ∀ (l0 : List Int), l0.length ≤ maxLen → l0.length * 1 ≤ 140737488351232 → (∀ x ∈ l0, (Lit.int .u8 x).wf = true) → ∃ k, laws_FnStamps.f k l0 = some true
theorem laws_FnStamps.walk (P : laws_FnStamps.Pure) (a0 : Option Addr) (len0 cap0 : Nat) (z0 : List Int) (w : World) (w0 : (a0 = none ∧ len0 = 0 ∧ cap0 = 0 ∧ z0 = []) ∨ ∃ x, a0 = some x ∧ len0 ≤ cap0 ∧ cap0 ≤ maxLen ∧ z0.length = cap0 ∧ (∀ i, i < z0.length → w.cell? (x.add i) = some (.int .u8 (z0.getD i 0))) ∧ ∀ n ∈ z0, (Lit.int .u8 n).wf = true) (y0 : len0 * 1 ≤ 140737488351232) :
  Calls Tryd.prog 5 #[.slice a0 len0 cap0] w fun e w' => e = .returned (.bool true) ∧ Below w.heap.size w w' := by
 obtain ⟨l0, rfl, hr0, hm0, hw0, hc0⟩ := ReadsInt.ofRowC w0
 obtain ⟨k, h⟩ := P l0 hm0 y0 hw0
 refine (laws_FnStamps.calls k _ _ l0 true w (Kd.C_of_reads (d := (0 : Int)) (h1 := fun _ => rfl) hr0) hc0 h).mono ?_
 rintro e w' ⟨rfl, hd⟩
 exact ⟨rfl, hd⟩

end Go.Proofs.YtgjbhdfncappdaaDoor.PFnStamps
