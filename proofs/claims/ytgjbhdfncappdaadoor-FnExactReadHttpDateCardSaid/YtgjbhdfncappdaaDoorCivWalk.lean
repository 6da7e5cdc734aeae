/- What the program's and the reference's calendar functions tell: the year, the month, the day of a time. Conditions: years from 1970 to 10000. -/
import Derived.Test.YtgjbhdfncappdaaDoorProg
import Derived.Test.YtgjbhdfncappdaaDoorCivDays
import Derived.Test.YtgjbhdfncappdaaDoorVMore
import Derived.Below
import Derived.Deep.Draws
import Derived.Deep.LoopGhost
import Derived.Deep.QuietTactic
import Derived.BigQuiet
import Derived.WalkKit
import Derived.KernelRfl
namespace Go.Proofs.YtgjbhdfncappdaaDoor.Foreign
set_option linter.unusedVariables false
set_option linter.unusedSimpArgs false
open Go.RowKit Go.Proofs.YtgjbhdfncappdaaDoor.Dates Go.Proofs.YtgjbhdfncappdaaDoorV.PrintWords Go.Proofs.YtgjbhdfncappdaaDoorV.PrintLast Go.Proofs.YtgjbhdfncappdaaDoorV.PrintMore
theorem daysBefore_c (y : Int) (h0 : 1970 ≤ y) (h1 : y ≤ 10000) (w : World) :
    Calls Tryd.prog 47 #[.int .i64 y] w fun e w' => e = .returned (.int .i64 (dby y)) ∧ w = w' := by
  go_enter Tryd.func47, Tryd.ntmps47
  go_wp2
  go_ret
  exact ⟨ret_int (by unfold dby; omega), rfl⟩
theorem agg6 {a b c d e f a' b' c' d' e' f' : Int} (h : a = a' ∧ b = b' ∧ c = c' ∧ d = d' ∧ e = e' ∧ f = f') :
    Ending.returned (.agg #[.int .i64 a, .int .i64 b, .int .i64 c, .int .i64 d, .int .i64 e, .int .i64 f]) = Ending.returned (.agg #[.int .i64 a', .int .i64 b', .int .i64 c', .int .i64 d', .int .i64 e', .int .i64 f']) := by
  obtain ⟨rfl, rfl, rfl, rfl, rfl, rfl⟩ := h; rfl
set_option maxHeartbeats 1000000 in
theorem civilOf_c (t : Int) (ht : isT t) (w : World) :
    Calls Tryd.prog 46 #[.int .i64 t] w fun e w' => e = .returned (.agg #[.int .i64 (yr t), .int .i64 (mo t), .int .i64 (da t), .int .i64 (ho t), .int .i64 (mi t), .int .i64 (se t)]) ∧ Below w.heap.size w w' := by
  have HT : Aside (isT t) := ht
  have hd := day_in ht
  have t0 : 0 ≤ t := ht.1
  have t1 : t ≤ 253402300799 := ht.2
  have r0 : 0 ≤ t % 86400 ∧ t % 86400 < 86400 := by omega
  clear ht
  obtain ⟨D, hD⟩ : ∃ D, t / 86400 = D := ⟨_, rfl⟩
  obtain ⟨R, hR⟩ : ∃ R, t % 86400 = R := ⟨_, rfl⟩
  rw [hD] at hd; rw [hR] at r0
  obtain ⟨d0, d1⟩ := hd
  obtain ⟨r0, r1⟩ := r0
  have g0 : Aside (dby (1970 + D / 366) ≤ D) := by show dby _ ≤ _; unfold dby; omega
  go_enter Tryd.func46, Tryd.ntmps46
  go_wp2
  simp only [hD, hR]
  have HDR : Aside (t / 86400 = D ∧ t % 86400 = R) := ⟨hD, hR⟩
  clear hD hR
  go_loopg [23] 8030 (fun k _ wr => ∃ y : Int, 1970 ≤ y ∧ y ≤ 9999 ∧ Aside (dby y ≤ D) ∧ Aside ((9999 - y).toNat < k) ∧ wr = (w.alloc (.cells #[.int .i64 0, .int .i64 0, .int .i64 0, .int .i64 0, .int .i64 0, .int .i64 0] 30)).alloc (.cells #[.int .i64 y, .int .i64 1, .int .i64 0, .int .i64 (R / 3600), .int .i64 (R / 60 % 60), .int .i64 (R % 60)] 30))
  case atStart => exact ⟨_, by omega, by omega, g0, (by show (_ : Nat) < _; omega), rfl⟩
  case round =>
    obtain ⟨y, hy0, hy1, hy2, hy3, rfl⟩ := hrel
    by_cases hc : dby (y + 1) ≤ D
    · have hy : y ≤ 9998 := by
        by_cases e : y = 9999
        · subst e; rw [show (9999 : Int) + 1 = 10000 from rfl, dby_end] at hc; omega
        · omega
      go_wp2_with (go_at_call 47; refine (daysBefore_c _ (by omega) (by omega) _).mono ?_; rintro e w' ⟨rfl, rfl⟩)
      go_roundg (gk - 1)
      case measure => have := hy3.out; omega
      case rel => exact ⟨y + 1, by omega, by omega, hc, (by have := hy3.out; show (_ : Nat) < _; omega), rfl⟩
    · have hz : Aside (D < dby (y + 1)) := by show _ < _; omega
      have hyr : Aside (yr t = y) := by
        have a := yr_fits HT.out
        rw [HDR.out.1] at a
        exact year_one a.2.2.1 a.2.2.2 hy2.out hz.out
      have he0 : 0 ≤ D - dby y := by have := hy2.out; omega
      have he1 : D - dby y < ylen y := by have := hz.out; rw [dby_succ] at this; omega
      have hyl := ylen_pos y
      clear hy3
      obtain ⟨wo, hwo⟩ : ∃ wo : World, wo = w := ⟨_, rfl⟩
      go_wp2_with (go_at_call 47; refine (daysBefore_c _ (by omega) (by omega) _).mono ?_; rintro e w' ⟨rfl, rfl⟩)
      clear hwo
      go_loopg [3, 45] 13 (fun k s3 _ wr => ∃ m : Int, 1 ≤ m ∧ m ≤ 12 ∧ s3 = .int .i64 (D - dby y - cum y m) ∧ 0 ≤ D - dby y - cum y m ∧ Aside ((12 - m).toNat < k) ∧ wr = (w.alloc (.cells #[.int .i64 0, .int .i64 0, .int .i64 0, .int .i64 0, .int .i64 0, .int .i64 0] 30)).alloc (.cells #[.int .i64 y, .int .i64 m, .int .i64 0, .int .i64 (R / 3600), .int .i64 (R / 60 % 60), .int .i64 (R % 60)] 30))
      case atStart => exact ⟨1, by omega, by omega, by rw [cum_1, Int.sub_zero], by rw [cum_1]; omega, (by show (_ : Nat) < _; omega), rfl⟩
      case round =>
        obtain ⟨m, hm0, hm1, rfl, hm2, hm3, rfl⟩ := hrel
        have cb := cum_bd y m
        have mb := mlen_bd y m
        have cs := cum_succ y m hm0 hm1
        by_cases hc2 : mlen y m ≤ D - dby y - cum y m
        · have hm : m ≤ 11 := by
            by_cases e : m = 12
            · subst e; rw [show (12 : Int) + 1 = 13 from rfl, cum_13] at cs; omega
            · omega
          have CS := Aside.out (p := cum y (m + 1) = cum y m + mlen y m) cs
          have CS' : Aside (cum y (m + 1) = cum y m + mlen y m) := cs
          clear cs CS
          go_wp2_with (go_at_call 48; refine (daysOf_c _ _ (by omega) (by omega) _).mono ?_; rintro e w' ⟨rfl, rfl⟩)
          go_roundg (gk - 1)
          case measure => have := hm3.out; omega
          case rel => exact ⟨m + 1, by omega, by omega, by rw [CS'.out]; congr 1; omega, by rw [CS'.out]; omega, (by have := hm3.out; show (_ : Nat) < _; omega), rfl⟩
        · have hz2 : Aside (D - dby y < cum y (m + 1)) := by show _ < _; omega
          have hmo : Aside (mo t = m) := by
            have a := mo_fits HT.out
            rw [HDR.out.1, hyr.out] at a
            exact month_one (y := y) (e := D - dby y) a.2.2.1 a.2.2.2 (by omega) hz2.out
          clear cs hm3
          go_wp2_with (go_at_call 48; refine (daysOf_c _ _ (by omega) (by omega) _).mono ?_; rintro e w' ⟨rfl, rfl⟩)
          refine bodyPost_ret (v := .agg #[.int .i64 y, .int .i64 m, .int .i64 (D - dby y - cum y m + 1), .int .i64 (R / 3600), .int .i64 (R / 60 % 60), .int .i64 (R % 60)]) (by simp [results, Tryd.results46, go_sem]) rfl ⟨agg6 ⟨hyr.out.symm, hmo.out.symm, ?_, ?_, ?_, ?_⟩, ?_⟩
          · unfold da; rw [hyr.out, hmo.out, HDR.out.1]
          · have := HDR.out.2; unfold ho; omega
          · have := HDR.out.2; unfold mi; omega
          · have := HDR.out.2; unfold se; omega
          · exact ((Below.refl _ _).alloc (Nat.le_refl _) _).alloc (by simp) _
/-! The reference's -/
theorem l2year_c (y : Int) (h0 : 1970 ≤ y) (w : World) : Calls Tryd.prog 69 #[.int .i64 y] w fun e w' => e = .returned (.int .i64 (ylen y)) ∧ w = w' := by
  by_cases hl : leap y
  · have hr : ylen y = 366 := by unfold ylen; rw [if_pos hl]
    rw [hr]; clear hr
    go_enter Tryd.func69, Tryd.ntmps69
    go_wp2_with (go_at_call 80; refine (l2leap_yes _ h0 hl _).mono ?_; rintro e w' ⟨rfl, rfl⟩)
    go_ret
    exact ⟨rfl, rfl⟩
  · have hr : ylen y = 365 := by unfold ylen; rw [if_neg hl]
    rw [hr]; clear hr
    go_enter Tryd.func69, Tryd.ntmps69
    go_wp2_with (go_at_call 80; refine (l2leap_no _ h0 hl _).mono ?_; rintro e w' ⟨rfl, rfl⟩)
    go_ret
    exact ⟨rfl, rfl⟩
theorem tup6 {a b c d e f a' b' c' d' e' f' : Int} {k : Bool} (h : a = a' ∧ b = b' ∧ c = c' ∧ d = d' ∧ e = e' ∧ f = f') :
    Ending.returned (.tuple #[.agg #[.int .i64 a, .int .i64 b, .int .i64 c, .int .i64 d, .int .i64 e, .int .i64 f], .bool k]) = Ending.returned (.tuple #[.agg #[.int .i64 a', .int .i64 b', .int .i64 c', .int .i64 d', .int .i64 e', .int .i64 f'], .bool k]) := by
  obtain ⟨rfl, rfl, rfl, rfl, rfl, rfl⟩ := h; rfl
theorem l2time_c (t : Int) (ht : isT t) (w : World) : Calls Tryd.prog 68 #[.int .i64 t] w fun e w' => e = .returned (.bool true) ∧ w = w' := by
  obtain ⟨h0, h1⟩ := ht
  go_enter Tryd.func68, Tryd.ntmps68
  go_wp2
  go_ret
  exact ⟨rfl, rfl⟩
theorem l2time_no (t : Int) (ht : ¬ isT t) (w : World) : Calls Tryd.prog 68 #[.int .i64 t] w fun e w' => e = .returned (.bool false) ∧ w = w' := by
  by_cases h0 : 0 ≤ t
  · have h1 : ¬ t ≤ 253402300799 := fun h => ht ⟨h0, h⟩
    clear ht
    go_enter Tryd.func68, Tryd.ntmps68
    go_wp2
    go_ret
    exact ⟨rfl, rfl⟩
  · clear ht
    go_enter Tryd.func68, Tryd.ntmps68
    go_wp2
    go_ret
    exact ⟨rfl, rfl⟩
set_option maxHeartbeats 1000000 in
theorem specCivilOf_c (t : Int) (ht : isT t) (w : World) :
    Calls Tryd.prog 39 #[.int .i64 t] w fun e w' => e = .returned (.tuple #[.agg #[.int .i64 (yr t), .int .i64 (mo t), .int .i64 (da t), .int .i64 (ho t), .int .i64 (mi t), .int .i64 (se t)], .bool true]) ∧ Below w.heap.size w w' := by
  have HT : Aside (isT t) := ht
  have hd := day_in ht
  have t0 : 0 ≤ t := ht.1
  have t1 : t ≤ 253402300799 := ht.2
  clear ht
  obtain ⟨D, hD⟩ : ∃ D, t / 86400 = D := ⟨_, rfl⟩
  rw [hD] at hd
  obtain ⟨d0, d1⟩ := hd
  go_enter Tryd.func39, Tryd.ntmps39
  go_wp2_with (go_at_call 68; refine (l2time_c _ HT.out _).mono ?_; rintro e w' ⟨rfl, rfl⟩)
  simp only [hD]
  have HDR : Aside (t / 86400 = D) := hD
  clear hD
  go_loopg [4, 23] 8031 (fun k s4 _ wr => ∃ y : Int, 1970 ≤ y ∧ y ≤ 9999 ∧ s4 = .int .i64 (D - dby y) ∧ 0 ≤ D - dby y ∧ Aside ((9999 - y).toNat < k) ∧ wr = (w.alloc (.cells #[.int .i64 0, .int .i64 0, .int .i64 0, .int .i64 0, .int .i64 0, .int .i64 0] 30)).alloc (.cells #[.int .i64 y, .int .i64 1, .int .i64 0, .int .i64 (t / 3600 % 24), .int .i64 (t / 60 % 60), .int .i64 (t % 60)] 30))
  case atStart => exact ⟨1970, by omega, by omega, by rw [dby_1970, Int.sub_zero], by rw [dby_1970]; omega, (by show (_ : Nat) < _; omega), rfl⟩
  case round =>
    obtain ⟨y, hy0, hy1, rfl, hy2, hy3, rfl⟩ := hrel
    have hyl := ylen_pos y
    have hsu : Aside (dby (y + 1) = dby y + ylen y) := dby_succ y
    have hlo := dby_mono hy0; rw [dby_1970] at hlo
    have hhi := dby_mono (show y ≤ 10000 by omega); rw [dby_end] at hhi
    by_cases hc : ylen y ≤ D - dby y
    · have hy : y ≤ 9998 := by
        by_cases e : y = 9999
        · have := hsu.out; subst e; rw [show (9999 : Int) + 1 = 10000 from rfl, dby_end] at this; omega
        · omega
      go_wp2_with (go_at_call 69; refine (l2year_c _ (by omega) _).mono ?_; rintro e w' ⟨rfl, rfl⟩)
      go_roundg (gk - 1)
      case measure => have := hy3.out; omega
      case rel => exact ⟨y + 1, by omega, by omega, by rw [hsu.out]; congr 1; omega, by rw [hsu.out]; omega, (by have := hy3.out; show (_ : Nat) < _; omega), rfl⟩
    · have hyr : Aside (yr t = y) := by
        have a := yr_fits HT.out
        rw [HDR.out] at a
        exact year_one (d := D) a.2.2.1 a.2.2.2 (by omega) (by rw [hsu.out]; omega)
      clear hy3
      go_wp2_with (go_at_call 69; refine (l2year_c _ (by omega) _).mono ?_; rintro e w' ⟨rfl, rfl⟩)
      go_loopg [4, 44] 13 (fun k s4 _ wr => ∃ m : Int, 1 ≤ m ∧ m ≤ 12 ∧ s4 = .int .i64 (D - dby y - cum y m) ∧ 0 ≤ D - dby y - cum y m ∧ Aside ((12 - m).toNat < k) ∧ wr = (w.alloc (.cells #[.int .i64 0, .int .i64 0, .int .i64 0, .int .i64 0, .int .i64 0, .int .i64 0] 30)).alloc (.cells #[.int .i64 y, .int .i64 m, .int .i64 0, .int .i64 (t / 3600 % 24), .int .i64 (t / 60 % 60), .int .i64 (t % 60)] 30))
      case atStart => exact ⟨1, by omega, by omega, by rw [cum_1, Int.sub_zero], by rw [cum_1]; omega, (by show (_ : Nat) < _; omega), rfl⟩
      case round =>
        obtain ⟨m, hm0, hm1, rfl, hm2, hm3, rfl⟩ := hrel
        have cb := cum_bd y m
        have mb := mlen_bd y m
        have cs := cum_succ y m hm0 hm1
        by_cases hc2 : mlen y m ≤ D - dby y - cum y m
        · have hm : m ≤ 11 := by
            by_cases e : m = 12
            · subst e; rw [show (12 : Int) + 1 = 13 from rfl, cum_13] at cs; omega
            · omega
          have CS' : Aside (cum y (m + 1) = cum y m + mlen y m) := cs
          clear cs
          go_wp2_with (go_at_call 70; refine (l2days_c _ _ (by omega) _).mono ?_; rintro e w' ⟨rfl, rfl⟩)
          go_roundg (gk - 1)
          case measure => have := hm3.out; omega
          case rel => exact ⟨m + 1, by omega, by omega, by rw [CS'.out]; congr 1; omega, by rw [CS'.out]; omega, (by have := hm3.out; show (_ : Nat) < _; omega), rfl⟩
        · have hz2 : Aside (D - dby y < cum y (m + 1)) := by show _ < _; omega
          have hmo : Aside (mo t = m) := by
            have a := mo_fits HT.out
            rw [HDR.out, hyr.out] at a
            exact month_one (y := y) (e := D - dby y) a.2.2.1 a.2.2.2 (by omega) hz2.out
          clear cs hm3
          go_wp2_with (go_at_call 70; refine (l2days_c _ _ (by omega) _).mono ?_; rintro e w' ⟨rfl, rfl⟩)
          refine bodyPost_ret (v := .tuple #[.agg #[.int .i64 y, .int .i64 m, .int .i64 (D - dby y - cum y m + 1), .int .i64 (t / 3600 % 24), .int .i64 (t / 60 % 60), .int .i64 (t % 60)], .bool true]) (by simp [results, Tryd.results39, go_sem]) rfl ⟨tup6 ⟨hyr.out.symm, hmo.out.symm, ?_, rfl, rfl, rfl⟩, ?_⟩
          · unfold da; rw [hyr.out, hmo.out, HDR.out]
          · exact ((Below.refl _ _).alloc (Nat.le_refl _) _).alloc (by simp) _
theorem specCivilOf_no (t : Int) (ht : ¬ isT t) (w : World) :
    Calls Tryd.prog 39 #[.int .i64 t] w fun e w' => e = .returned (.tuple #[.agg #[.int .i64 0, .int .i64 0, .int .i64 0, .int .i64 0, .int .i64 0, .int .i64 0], .bool false]) ∧ Below w.heap.size w w' := by
  go_enter Tryd.func39, Tryd.ntmps39
  go_wp2_with (go_at_call 68; refine (l2time_no _ ht _).mono ?_; rintro e w' ⟨rfl, rfl⟩)
  refine bodyPost_ret (v := .tuple #[.agg #[.int .i64 0, .int .i64 0, .int .i64 0, .int .i64 0, .int .i64 0, .int .i64 0], .bool false]) (by simp [results, Tryd.results39, go_sem]) rfl ⟨rfl, (Below.refl _ _).alloc (Nat.le_refl _) _⟩
end Go.Proofs.YtgjbhdfncappdaaDoor.Foreign
