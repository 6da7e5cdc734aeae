/- What the program's and the reference's functions on months tell. Conditions: years from 1970 to 10000. -/
import Derived.Test.YtgjbhdfncappdaaDoorProg
import Derived.Test.YtgjbhdfncappdaaDoorDates
import Derived.Test.YtgjbhdfncappdaaDoorVMore
import Derived.Below
import Derived.Deep.Draws
import Derived.Deep.LoopGhost
import Derived.Deep.QuietTactic
import Derived.BigQuiet
import Derived.WalkKit
import Derived.KernelRfl
namespace Go.Proofs.YtgjbhdfncappdaaDoor.Foreign
set_option linter.unusedVariables false
set_option linter.unusedSimpArgs false
open Go.RowKit Go.Proofs.YtgjbhdfncappdaaDoor.Dates Go.Proofs.YtgjbhdfncappdaaDoorV.PrintWords Go.Proofs.YtgjbhdfncappdaaDoorV.PrintLast Go.Proofs.YtgjbhdfncappdaaDoorV.PrintMore
theorem ret_int {k : IntKind} {a b : Int} (h : a = b) : Ending.returned (.int k a) = .returned (.int k b) := by rw [h]
theorem leap_iff (y : Int) (h0 : 0 ≤ y) : leap y ↔ (y % 4 = 0 ∧ (¬ y % 100 = 0 ∨ y % 400 = 0)) := Iff.rfl
theorem daysOf_c (y m : Int) (h0 : 1970 ≤ y) (h1 : y ≤ 10000) (w : World) :
    Calls Tryd.prog 48 #[.int .i64 y, .int .i64 m] w fun e w' => e = .returned (.int .i64 (mlen y m)) ∧ w = w' := by
  have hl := leap_iff y (by omega)
  by_cases m2 : m = 2
  · subst m2
    by_cases c4 : y % 4 = 0
    · by_cases c100 : y % 100 = 0
      · by_cases c400 : y % 400 = 0
        · have hr : mlen y 2 = 29 := by unfold mlen; rw [if_pos rfl, if_pos (hl.mpr (by omega))]
          rw [hr]; clear hr hl
          go_enter Tryd.func48, Tryd.ntmps48
          go_wp2
          go_ret
          exact ⟨rfl, rfl⟩
        · have hr : mlen y 2 = 28 := by unfold mlen; rw [if_pos rfl, if_neg (fun h => by have := hl.mp h; omega)]
          rw [hr]; clear hr hl
          go_enter Tryd.func48, Tryd.ntmps48
          go_wp2
          go_ret
          exact ⟨rfl, rfl⟩
      · have hr : mlen y 2 = 29 := by unfold mlen; rw [if_pos rfl, if_pos (hl.mpr (by omega))]
        rw [hr]; clear hr hl
        go_enter Tryd.func48, Tryd.ntmps48
        go_wp2
        go_ret
        exact ⟨rfl, rfl⟩
    · have hr : mlen y 2 = 28 := by unfold mlen; rw [if_pos rfl, if_neg (fun h => by have := hl.mp h; omega)]
      rw [hr]
      have c400 : ¬ y % 400 = 0 := by omega
      clear hr hl
      go_enter Tryd.func48, Tryd.ntmps48
      go_wp2
      go_ret
      exact ⟨rfl, rfl⟩
  · by_cases m30 : m = 4 ∨ m = 6 ∨ m = 9 ∨ m = 11
    · have hr : mlen y m = 30 := by unfold mlen; rw [if_neg m2, if_pos m30]
      rw [hr]; clear hr hl
      rcases m30 with rfl | rfl | rfl | rfl
      all_goals
        clear m2
        go_enter Tryd.func48, Tryd.ntmps48
        go_wp2
        go_ret
        exact ⟨rfl, rfl⟩
    · have hr : mlen y m = 31 := by unfold mlen; rw [if_neg m2, if_neg m30]
      rw [hr]; clear hr hl
      have m4 : (m == 4) = false := beq_eq_false_iff_ne.mpr fun h => m30 (by omega)
      have m6 : (m == 6) = false := beq_eq_false_iff_ne.mpr fun h => m30 (by omega)
      have m9 : (m == 9) = false := beq_eq_false_iff_ne.mpr fun h => m30 (by omega)
      have m11 : (m == 11) = false := beq_eq_false_iff_ne.mpr fun h => m30 (by omega)
      clear m30
      go_enter Tryd.func48, Tryd.ntmps48
      go_wp2
      go_ret
      exact ⟨rfl, rfl⟩
theorem l2leap_yes (y : Int) (h0 : 1970 ≤ y) (hl : leap y) (w : World) : Calls Tryd.prog 80 #[.int .i64 y] w fun e w' => e = .returned (.bool true) ∧ w = w' := by
  obtain ⟨c4, c⟩ := hl
  by_cases c100 : y % 100 = 0
  · have c400 : y % 400 = 0 := by omega
    clear c
    go_enter Tryd.func80, Tryd.ntmps80
    go_wp2
    go_ret
    exact ⟨rfl, rfl⟩
  · clear c
    go_enter Tryd.func80, Tryd.ntmps80
    go_wp2
    go_ret
    exact ⟨rfl, rfl⟩
theorem l2leap_no (y : Int) (h0 : 1970 ≤ y) (hl : ¬ leap y) (w : World) : Calls Tryd.prog 80 #[.int .i64 y] w fun e w' => e = .returned (.bool false) ∧ w = w' := by
  by_cases c4 : y % 4 = 0
  · have c100 : y % 100 = 0 := by unfold leap at hl; omega
    have c400 : (y % 400 == 0) = false := beq_eq_false_iff_ne.mpr (by unfold leap at hl; omega)
    clear hl
    go_enter Tryd.func80, Tryd.ntmps80
    go_wp2
    go_ret
    exact ⟨rfl, rfl⟩
  · clear hl
    go_enter Tryd.func80, Tryd.ntmps80
    go_wp2
    go_ret
    exact ⟨rfl, rfl⟩
theorem l2days_c (y m : Int) (h0 : 1970 ≤ y) (w : World) : Calls Tryd.prog 70 #[.int .i64 y, .int .i64 m] w fun e w' => e = .returned (.int .i64 (mlen y m)) ∧ w = w' := by
  by_cases m2 : m = 2
  · subst m2
    by_cases hl : leap y
    · have hr : mlen y 2 = 29 := by unfold mlen; rw [if_pos rfl, if_pos hl]
      rw [hr]; clear hr
      go_enter Tryd.func70, Tryd.ntmps70
      go_wp2_with (go_at_call 80; refine (l2leap_yes _ h0 hl _).mono ?_; rintro e w' ⟨rfl, rfl⟩)
      go_ret
      exact ⟨rfl, rfl⟩
    · have hr : mlen y 2 = 28 := by unfold mlen; rw [if_pos rfl, if_neg hl]
      rw [hr]; clear hr
      go_enter Tryd.func70, Tryd.ntmps70
      go_wp2_with (go_at_call 80; refine (l2leap_no _ h0 hl _).mono ?_; rintro e w' ⟨rfl, rfl⟩)
      go_ret
      exact ⟨rfl, rfl⟩
  · by_cases m30 : m = 4 ∨ m = 6 ∨ m = 9 ∨ m = 11
    · have hr : mlen y m = 30 := by unfold mlen; rw [if_neg m2, if_pos m30]
      rw [hr]; clear hr
      rcases m30 with rfl | rfl | rfl | rfl
      all_goals
        clear m2
        go_enter Tryd.func70, Tryd.ntmps70
        go_wp2
        go_ret
        exact ⟨rfl, rfl⟩
    · have hr : mlen y m = 31 := by unfold mlen; rw [if_neg m2, if_neg m30]
      rw [hr]; clear hr
      have m4 : (m == 4) = false := beq_eq_false_iff_ne.mpr fun h => m30 (by omega)
      have m6 : (m == 6) = false := beq_eq_false_iff_ne.mpr fun h => m30 (by omega)
      have m9 : (m == 9) = false := beq_eq_false_iff_ne.mpr fun h => m30 (by omega)
      have m11 : (m == 11) = false := beq_eq_false_iff_ne.mpr fun h => m30 (by omega)
      clear m30
      go_enter Tryd.func70, Tryd.ntmps70
      go_wp2
      go_ret
      exact ⟨rfl, rfl⟩
end Go.Proofs.YtgjbhdfncappdaaDoor.Foreign
